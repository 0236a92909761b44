/- Disks (layer 19): maps of sectors: what a block holds, key by key; the look-up, the store. -/
import Derived.Test.YtdbiebnnogjccaaGreatDoorCp
import Derived.Test.YtdbiebnnogjccaaGreatDoorAs
import Derived.Test.YtdbiebnnogjccaaGreatDoorPuB
import Derived.Maps.Keyed
import Derived.Maps.OwnSet
import Derived.Maps.RangeWalk
import Derived.WalkKit
import Derived.LaidEql
import Derived.Stop.Asserts
import Derived.RowKitTokens
import Derived.Test.YtdbiebnnogjccaaGreatDoorProg
namespace Go.Proofs.YtdbiebnnogjccaaGreatDoor
open Go.RowKit Go.Maps
/-- How a sector reads. -/
def secE (v : Value) : Option (DataW Unit × List MemPlace) :=
  match v with
  | .agg cs => match cs.toList with
    | [.string s] => some (.lit (.string s.data.toList), [])
    | _ => none
  | _ => none
theorem secE_mk (s : ByteArray) : secE (.agg #[.string s]) = some (.lit (.string s.data.toList), []) := rfl
theorem secE_inv {v : Value} {z : DataW Unit × List MemPlace} (h : secE v = some z) : ∃ s, v = .agg #[.string s] ∧ z = (.lit (.string s.data.toList), []) := by
  unfold secE at h
  split at h
  · rename_i cs
    split at h
    · rename_i s hs
      have hc : cs = #[.string s] := by apply Array.toList_inj.1; rw [hs]
      injection h with h
      exact ⟨s, by rw [hc], h.symm⟩
    · cases h
  · cases h
abbrev wf64 (i : Int) : Prop := (Lit.int .i64 i).wf = true
theorem wf64_of {i : Int} (h0 : -9223372036854775808 ≤ i) (h1 : i < 9223372036854775808) : wf64 i := by
  simp [wf64, Lit.wf, IntKind.min, IntKind.max, IntKind.signed, IntKind.bits]; omega
theorem lawI : Keyed Tryz.prog 3 := int_keyed Tryz.underlying3
theorem zeroS (w : World) : (zeroValue 128).run Tryz.prog w = .ok (.agg #[.string ⟨#[]⟩]) w := by kernel_rfl
/-- The block holds a map: key by key f. -/
def MapS (w : World) (b n : Nat) (f : Int → Option ByteArray) : Prop :=
  ∃ D, w.ownsMap Tryz.prog 3 secE b n D ∧ ∀ i, wf64 i → Maps.has D (.int .i64 i) = (f i).isSome ∧ ∀ s, f i = some s → ∀ z, D.atKey (.int .i64 i) z = .lit (.string s.data.toList)
theorem MapS.lt {w : World} {b n : Nat} {f : Int → Option ByteArray} (h : MapS w b n f) : b < w.heap.size := h.choose_spec.1.lt
theorem MapS.kept {w w' : World} {b n : Nat} {f : Int → Option ByteArray} {row : Option Nat} (h : MapS w b n f) (hg : w.grownBy w' row) (hne : some b ≠ row) : MapS w' b n f := by
  obtain ⟨D, h1, h2⟩ := h; exact ⟨D, h1.kept hg hne, h2⟩
theorem MapS.below {w w' : World} {b n : Nat} {f : Int → Option ByteArray} (h : MapS w b n f) (hb : Below w.heap.size w w') : MapS w' b n f := h.kept (grown_bel hb) (by simp)
theorem MapS.fr {S : Nat → Prop} {w w' : World} {b n : Nat} {f : Int → Option ByteArray} (h : MapS w b n f) (hf : Fr S w w') (hs : ¬ S b) : MapS w' b n f := by
  have hlt := h.lt
  obtain ⟨D, ⟨es, clock, hb, r⟩, h2⟩ := h
  exact ⟨D, ⟨es, clock, (hf.block b hlt hs).trans hb, r⟩, h2⟩
theorem MapS.setCell {w : World} {b n : Nat} {f : Int → Option ByteArray} (h : MapS w b n f) {a : Addr} (ha : b ≠ a.block) (u : Value) : MapS (w.setCell a u) b n f := by
  obtain ⟨D, h1, h2⟩ := h; exact ⟨D, h1.setCell ha u, h2⟩
theorem MapS.mono {w : World} {b n m : Nat} {f : Int → Option ByteArray} (h : MapS w b n f) (hm : n ≤ m) : MapS w b m f := by
  obtain ⟨D, h1, h2⟩ := h; exact ⟨D, h1.mono hm, h2⟩
theorem MapS.made (w : World) : MapS (w.alloc (.map #[] 0)) w.heap.size 0 (fun _ => none) :=
  ⟨_, World.ownsMap_made w _ _ _, fun i _ => ⟨rfl, fun s h => by cases h⟩⟩
def setF (f : Int → Option ByteArray) (i : Int) (s : ByteArray) : Int → Option ByteArray := fun j => if j = i then some s else f j
theorem mapS_put {w w' : World} {b n : Nat} {f : Int → Option ByteArray} {D : DataW Unit} (h0 : w.ownsMap Tryz.prog 3 secE b n D) (hD : ∀ i, wf64 i → Maps.has D (.int .i64 i) = (f i).isSome ∧ ∀ s, f i = some s → ∀ z, D.atKey (.int .i64 i) z = .lit (.string s.data.toList))
    {i : Int} {s : ByteArray} (h : w'.ownsMap Tryz.prog 3 secE b (n + 1) (D.put (.int .i64 i) (.lit (.string s.data.toList)))) : MapS w' b (n + 1) (setF f i s) := by
  refine ⟨_, h, fun j hj => ?_⟩
  unfold setF
  by_cases e : j = i
  · subst e
    rw [if_pos rfl]
    have ik : WideAt.IsKeyLit (.int .i64 j) := trivial
    refine ⟨by rw [has_put_same h0.isMap ik]; rfl, fun s' hs z => ?_⟩
    injection hs with hs
    subst hs
    exact atKey_put_same h0.isMap ik _ _
  · rw [if_neg e]
    have hne : (Lit.int .i64 j) ≠ .int .i64 i := fun h => e (by injection h)
    refine ⟨by rw [has_put_other hne]; exact (hD j hj).1, fun s' hs z => ?_⟩
    rw [atKey_put_other hne]
    exact (hD j hj).2 s' hs z
section
variable {ops : Array Oper} {rest : List Oper} {o : Oper} {a : Act} {Q : Exit → Act → World → Prop}
theorem wpList_look_sec (w : World) (hg : o.guard = none) (m x : Operand) (hop : o.op = Op.lookup 107 m x true) (b n : Nat) (f : Int → Option ByteArray) (hm : a.eval m = .map (some b)) (hown : MapS w b n f) (i : Int) (hx : a.eval x = .int .i64 i) (hi : wf64 i)
    (hK : wpList Tryz.prog ops Q rest (a.put o.dst (.tuple #[.agg #[.string ((f i).getD ⟨#[]⟩)], .bool (f i).isSome])) w) :
    wpList Tryz.prog ops Q (o :: rest) a w := by
  obtain ⟨D, h1, h2⟩ := hown
  obtain ⟨e1, e2⟩ := h2 i hi
  refine wpList_lookup_own_ok w hg m x 107 hop 3 128 lawI Tryz.underlying107 secE (zeroS w) (.lit (.string [])) [] rfl b n D hm h1 (.int .i64 i) (.int .i64 i) hx (keyOf_int_mk Tryz.underlying3 hi) fun v ps hv => ?_
  obtain ⟨s, rfl, hz⟩ := secE_inv hv
  rw [e1]
  have hs : s = (f i).getD ⟨#[]⟩ := by
    injection hz with hz _
    cases hf : f i with
    | none =>
      rw [atKey_of_not_has (by rw [e1, hf]; rfl)] at hz
      injection hz with hz
      injection hz with hz
      exact bytes_ext hz.symm
    | some s' =>
      rw [e2 s' hf] at hz
      injection hz with hz
      injection hz with hz
      exact bytes_ext hz.symm
  rw [hs] at *
  exact hK
theorem wpList_put_sec (w : World) (hg : o.guard = none) (m x v : Operand) (hop : o.op = Op.mapUpdate 107 m x v) (b n : Nat) (f : Int → Option ByteArray) (hm : a.eval m = .map (some b)) (hown : MapS w b n f) (hn : n < maxLen) (i : Int) (hx : a.eval x = .int .i64 i) (hi : wf64 i) (s : ByteArray) (hv : a.eval v = .agg #[.string s])
    (hK : ∀ w', MapS w' b (n + 1) (setF f i s) → w.grownBy w' (some b) → wpList Tryz.prog ops Q rest (a.put o.dst undef) w') :
    wpList Tryz.prog ops Q (o :: rest) a w := by
  obtain ⟨D, h1, h2⟩ := hown
  exact wpList_mapUpdate_own w hg m x v 107 hop 3 128 lawI Tryz.underlying107 secE b n D hm h1 hn (.int .i64 i) (.agg #[.string s]) (.int .i64 i) hx hv (keyOf_int_mk Tryz.underlying3 hi) _ _ (secE_mk s) fun w' h3 h4 => hK w' (mapS_put h1 h2 h3) h4
end
end Go.Proofs.YtdbiebnnogjccaaGreatDoor

/- errors.Is, walked at the program's own sentinels. After the kit's worked text Sentry. -/
namespace Go.Proofs.YtdbiebnnogjccaaGreatDoor
open Go.RowKit Go.Extern.Stop Go.Stop Go.Extern
theorem es_typeOf (v : Value) (w : World) : (Extern.ReflectliteType.typeOf #[.iface 308 v]).run Tryz.prog w = .ok (.iface 238 (.agg #[.pointer (some ⟨18, 308, none⟩)])) w := by kernel_rfl
def es_cmp : Array Value → Sem Value := Extern.ReflectliteType.method fun t => do Extern.Rtype.noPackHeld "Comparable" t; pure (.bool (← typeInfo t).comparable)
theorem es_comparable (w : World) : (es_cmp #[.agg #[.pointer (some ⟨18, 308, none⟩)]]).run Tryz.prog w = .ok (.bool true) w := by kernel_rfl
theorem es_method (v : Value) (w : World) : (Go.method 437 238 v "Comparable").run Tryz.prog w = .ok (249, v) w := by kernel_rfl
theorem es_comp : (Tryz.prog.info? 308).map (·.comparable) = some true := by kernel_rfl
theorem es_size : (Tryz.prog.info? 326).map (·.size) = some 1 := by kernel_rfl
theorem es_noIs (v : Value) (xT : TypeId) (w : World) : (Instr.typeAssert (.iface 308 v) xT 240 true).run Tryz.prog w = .ok (.tuple #[.nilIface, .bool false]) w := run_typeAssert_lacksB Tryz.underlying240 (by kernel_rfl) (by kernel_rfl) v xT w
theorem es_noUnwrap (v : Value) (xT : TypeId) (w : World) : (Instr.typeAssert (.iface 308 v) xT 243 true).run Tryz.prog w = .ok (.tuple #[.nilIface, .bool false]) w := run_typeAssert_lacksB Tryz.underlying243 (by kernel_rfl) (by kernel_rfl) v xT w
theorem es_noUnwraps (v : Value) (xT : TypeId) (w : World) : (Instr.typeAssert (.iface 308 v) xT 245 true).run Tryz.prog w = .ok (.tuple #[.nilIface, .bool false]) w := run_typeAssert_lacksB Tryz.underlying245 (by kernel_rfl) (by kernel_rfl) v xT w
theorem dw_noIs (v : Value) (xT : TypeId) (w : World) : (Instr.typeAssert (.iface 150 v) xT 240 true).run Tryz.prog w = .ok (.tuple #[.nilIface, .bool false]) w := run_typeAssert_lacksB Tryz.underlying240 (by kernel_rfl) (by kernel_rfl) v xT w
theorem dw_hasUnwrap (v : Value) (xT : TypeId) (w : World) : (Instr.typeAssert (.iface 150 v) xT 243 true).run Tryz.prog w = .ok (.tuple #[.iface 150 v, .bool true]) w := run_typeAssert_hasB Tryz.underlying243 (by kernel_rfl) v xT w
theorem dw_method (v : Value) (w : World) : (Go.method 437 150 v "Unwrap").run Tryz.prog w = .ok (240, v) w := by kernel_rfl
/-- errors.Is(x, nil's place): nil is none of them. -/
theorem is_nil (b : Addr) (w : World) : Calls Tryz.prog 113 #[.nilIface, .iface 308 (.pointer (some b))] w fun e w' => e = .returned (.bool false) ∧ w = w' := by
  have hn := run_eql_iface_nil_left (P := Tryz.prog) w 308 (.pointer (some b)) Tryz.underlying122
  go_enter Tryz.func113, Tryz.ntmps113
  go_wp2
  go_ret
  exact ⟨rfl, rfl⟩
/-- errors.Is(x, x). -/
theorem is_same (b : Addr) (w : World) : Calls Tryz.prog 113 #[.iface 308 (.pointer (some b)), .iface 308 (.pointer (some b))] w fun e w' => e = .returned (.bool true) ∧ w = w' := by
  obtain ⟨i, hi, hcmp⟩ := Option.map_eq_some_iff.1 es_comp
  obtain ⟨j, hj, hjs⟩ := Option.map_eq_some_iff.1 es_size
  have h8 := @run_callFunc_extern Tryz.prog 141 _ Extern.ReflectliteType.typeOf Tryz.func141 (by kernel_rfl) (by kernel_rfl) (by kernel_rfl) (by kernel_rfl)
  have h32 := @run_callFunc_extern Tryz.prog 249 _ es_cmp Tryz.func249 (by kernel_rfl) (by kernel_rfl) (by kernel_rfl) (by kernel_rfl)
  have tT := es_typeOf
  have cT := es_comparable
  have mR := es_method
  have heq := run_eql_iface_ptr_same (P := Tryz.prog) w b Tryz.underlying122 Tryz.underlying308 hi hcmp hj
  go_enter Tryz.func113, Tryz.ntmps113
  go_wp2
  refine wp_loop_rounds 1 ?_
  rw [rounds_succ]
  go_wp2
  go_ret
  exact ⟨rfl, rfl⟩
/-- errors.Is(x, y), two of errors.New's make. -/
theorem is_other (a b : Addr) (ca cb : Array Value) (ta tb : TypeId) (w : World) (hne : a ≠ b) (ha : w.heap[a.block]? = some (.cells ca ta (0, 0))) (hb : w.heap[b.block]? = some (.cells cb tb (0, 0))) : Calls Tryz.prog 113 #[.iface 308 (.pointer (some a)), .iface 308 (.pointer (some b))] w fun e w' => e = .returned (.bool false) ∧ w = w' := by
  obtain ⟨i, hi, hcmp⟩ := Option.map_eq_some_iff.1 es_comp
  obtain ⟨j, hj, hjs⟩ := Option.map_eq_some_iff.1 es_size
  have h8 := @run_callFunc_extern Tryz.prog 141 _ Extern.ReflectliteType.typeOf Tryz.func141 (by kernel_rfl) (by kernel_rfl) (by kernel_rfl) (by kernel_rfl)
  have h32 := @run_callFunc_extern Tryz.prog 249 _ es_cmp Tryz.func249 (by kernel_rfl) (by kernel_rfl) (by kernel_rfl) (by kernel_rfl)
  have tT := es_typeOf
  have cT := es_comparable
  have mR := es_method
  have nE := es_noIs
  have uE := es_noUnwrap
  have vE := es_noUnwraps
  have heq := run_eql_iface_ptr_other (P := Tryz.prog) w Tryz.underlying122 Tryz.underlying308 hi hcmp hj (by rw [hjs]; decide) hne ha hb
  go_enter Tryz.func113, Tryz.ntmps113
  go_wp2
  refine wp_loop_rounds 1 ?_
  rw [rounds_succ]
  go_wp2
  go_ret
  exact ⟨rfl, rfl⟩
/-- errors.Is(e, x), e a *disk.wrapped that holds x. -/
theorem is_wrap_same (p : Nat) (b : Addr) (w : World) (h1 : w.cell? ⟨p, 1, none⟩ = some (.iface 308 (.pointer (some b)))) : Calls Tryz.prog 113 #[.iface 150 (.pointer (some ⟨p, 0, none⟩)), .iface 308 (.pointer (some b))] w fun e w' => e = .returned (.bool true) ∧ w = w' := by
  obtain ⟨i, hi, hcmp⟩ := Option.map_eq_some_iff.1 es_comp
  obtain ⟨j, hj, hjs⟩ := Option.map_eq_some_iff.1 es_size
  have h8 := @run_callFunc_extern Tryz.prog 141 _ Extern.ReflectliteType.typeOf Tryz.func141 (by kernel_rfl) (by kernel_rfl) (by kernel_rfl) (by kernel_rfl)
  have h32 := @run_callFunc_extern Tryz.prog 249 _ es_cmp Tryz.func249 (by kernel_rfl) (by kernel_rfl) (by kernel_rfl) (by kernel_rfl)
  have tT := es_typeOf
  have cT := es_comparable
  have mR := es_method
  have nE := es_noIs
  have uE := es_noUnwrap
  have vE := es_noUnwraps
  have nW := dw_noIs
  have uW := dw_hasUnwrap
  have mU := dw_method
  have heq := run_eql_iface_ptr_same (P := Tryz.prog) w b Tryz.underlying122 Tryz.underlying308 hi hcmp hj
  have hty := run_eql_iface_types (P := Tryz.prog) 150 308 (.pointer (some ⟨p, 0, none⟩)) (.pointer (some b)) Tryz.underlying122 (by decide) w
  go_enter Tryz.func113, Tryz.ntmps113
  go_wp2
  refine wp_loop_rounds 2 ?_
  rw [rounds_succ]
  go_wp2
  rw [rounds_succ]
  go_wp2
  go_ret
  exact ⟨rfl, rfl⟩
/-- errors.Is(e, x), e a *disk.wrapped that holds another. -/
theorem is_wrap_other (p : Nat) (a b : Addr) (ca cb : Array Value) (ta tb : TypeId) (w : World) (hne : a ≠ b) (ha : w.heap[a.block]? = some (.cells ca ta (0, 0))) (hb : w.heap[b.block]? = some (.cells cb tb (0, 0))) (h1 : w.cell? ⟨p, 1, none⟩ = some (.iface 308 (.pointer (some a)))) : Calls Tryz.prog 113 #[.iface 150 (.pointer (some ⟨p, 0, none⟩)), .iface 308 (.pointer (some b))] w fun e w' => e = .returned (.bool false) ∧ w = w' := by
  obtain ⟨i, hi, hcmp⟩ := Option.map_eq_some_iff.1 es_comp
  obtain ⟨j, hj, hjs⟩ := Option.map_eq_some_iff.1 es_size
  have h8 := @run_callFunc_extern Tryz.prog 141 _ Extern.ReflectliteType.typeOf Tryz.func141 (by kernel_rfl) (by kernel_rfl) (by kernel_rfl) (by kernel_rfl)
  have h32 := @run_callFunc_extern Tryz.prog 249 _ es_cmp Tryz.func249 (by kernel_rfl) (by kernel_rfl) (by kernel_rfl) (by kernel_rfl)
  have tT := es_typeOf
  have cT := es_comparable
  have mR := es_method
  have nE := es_noIs
  have uE := es_noUnwrap
  have vE := es_noUnwraps
  have nW := dw_noIs
  have uW := dw_hasUnwrap
  have mU := dw_method
  have heq := run_eql_iface_ptr_other (P := Tryz.prog) w Tryz.underlying122 Tryz.underlying308 hi hcmp hj (by rw [hjs]; decide) hne ha hb
  have hty := run_eql_iface_types (P := Tryz.prog) 150 308 (.pointer (some ⟨p, 0, none⟩)) (.pointer (some b)) Tryz.underlying122 (by decide) w
  go_enter Tryz.func113, Tryz.ntmps113
  go_wp2
  refine wp_loop_rounds 2 ?_
  rw [rounds_succ]
  go_wp2
  rw [rounds_succ]
  go_wp2
  go_ret
  exact ⟨rfl, rfl⟩
end Go.Proofs.YtdbiebnnogjccaaGreatDoor
