/- Blocks: a whole struct of two, three, four fields is stored. -/
import Derived.Test.YtoebldemcgahnaaGreatDoorFr
import Derived.Test.YtoebldemcgahnaaGreatDoorHa
import Derived.Test.YtoebldemcgahnaaGreatDoorSl
import Derived.Test.YtoebldemcgahnaaGreatDoorCp
import Derived.Test.YtoebldemcgahnaaGreatDoorAs
import Derived.Test.YtoebldemcgahnaaGreatDoorPuB
import Derived.Maps.Keyed
import Derived.Maps.OwnSet
import Derived.Maps.RangeWalk
namespace Go.Proofs.YtoebldemcgahnaaGreatDoor
open Go.RowKit
theorem st2 {w : World} {B : Nat} {c0 c1 : Value} {t : TypeId} (h : w.heap[B]? = some (.cells #[c0, c1] t (0, 0))) (v0 v1 : Value) :
    ((w.setCell ⟨B, 0, none⟩ v0).setCell ⟨B, 1, none⟩ v1).heap[B]? = some (.cells #[v0, v1] t (0, 0)) :=
  blk_set (blk_set h 0 v0) 1 v1
theorem st3 {w : World} {B : Nat} {c0 c1 c2 : Value} {t : TypeId} (h : w.heap[B]? = some (.cells #[c0, c1, c2] t (0, 0))) (v0 v1 v2 : Value) :
    (((w.setCell ⟨B, 0, none⟩ v0).setCell ⟨B, 1, none⟩ v1).setCell ⟨B, 2, none⟩ v2).heap[B]? = some (.cells #[v0, v1, v2] t (0, 0)) :=
  blk_set (blk_set (blk_set h 0 v0) 1 v1) 2 v2
theorem st4 {w : World} {B : Nat} {c0 c1 c2 c3 : Value} {t : TypeId} (h : w.heap[B]? = some (.cells #[c0, c1, c2, c3] t (0, 0))) (v0 v1 v2 v3 : Value) :
    ((((w.setCell ⟨B, 0, none⟩ v0).setCell ⟨B, 1, none⟩ v1).setCell ⟨B, 2, none⟩ v2).setCell ⟨B, 3, none⟩ v3).heap[B]? = some (.cells #[v0, v1, v2, v3] t (0, 0)) :=
  blk_set (blk_set (blk_set (blk_set h 0 v0) 1 v1) 2 v2) 3 v3
theorem bst2 {B : Nat} {a w : World} (h : Below B a w) {p : Nat} (hp : B ≤ p) (v0 v1 : Value) : Below B a ((w.setCell ⟨p, 0, none⟩ v0).setCell ⟨p, 1, none⟩ v1) := (h.setCell hp _).setCell hp _
theorem bst3 {B : Nat} {a w : World} (h : Below B a w) {p : Nat} (hp : B ≤ p) (v0 v1 v2 : Value) : Below B a (((w.setCell ⟨p, 0, none⟩ v0).setCell ⟨p, 1, none⟩ v1).setCell ⟨p, 2, none⟩ v2) := ((h.setCell hp _).setCell hp _).setCell hp _
theorem bst4 {B : Nat} {a w : World} (h : Below B a w) {p : Nat} (hp : B ≤ p) (v0 v1 v2 v3 : Value) : Below B a ((((w.setCell ⟨p, 0, none⟩ v0).setCell ⟨p, 1, none⟩ v1).setCell ⟨p, 2, none⟩ v2).setCell ⟨p, 3, none⟩ v3) := (((h.setCell hp _).setCell hp _).setCell hp _).setCell hp _
/-- Only draws lie between. -/
def Dr (w w' : World) : Prop := ∃ n, w' = w.drewN n
theorem Dr.refl (w : World) : Dr w w := ⟨0, rfl⟩
theorem Dr.dr {w w' : World} (h : Dr w w') (n : Nat) : Dr w (w'.drewN n) := by obtain ⟨m, rfl⟩ := h; exact ⟨m + n, World.drewN_drewN _ _ _⟩
theorem Dr.tr {w w' w'' : World} (h : Dr w w') (k : Dr w' w'') : Dr w w'' := by obtain ⟨n, rfl⟩ := k; exact h.dr n
theorem Dr.below {w w' : World} (h : Dr w w') : Below w.heap.size w w' := by obtain ⟨n, rfl⟩ := h; exact ⟨rfl, rfl, rfl, Nat.le_refl _, fun _ _ => rfl⟩
theorem Dr.heap {w w' : World} (h : Dr w w') (k : Nat) : w'.heap[k]? = w.heap[k]? := by obtain ⟨n, rfl⟩ := h; rfl
theorem Dr.size {w w' : World} (h : Dr w w') : w'.heap.size = w.heap.size := by obtain ⟨n, rfl⟩ := h; rfl
end Go.Proofs.YtoebldemcgahnaaGreatDoor

/- Disks (layer 19): maps of sectors: what a block holds, key by key; the look-up, the store. -/
namespace Go.Proofs.YtoebldemcgahnaaGreatDoor
open Go.RowKit Go.Maps
/-- How a sector reads. -/
def secE (v : Value) : Option (DataW Unit × List MemPlace) :=
  match v with
  | .agg cs => match cs.toList with
    | [.string s] => some (.lit (.string s.data.toList), [])
    | _ => none
  | _ => none
theorem secE_mk (s : ByteArray) : secE (.agg #[.string s]) = some (.lit (.string s.data.toList), []) := rfl
theorem secE_inv {v : Value} {z : DataW Unit × List MemPlace} (h : secE v = some z) : ∃ s, v = .agg #[.string s] ∧ z = (.lit (.string s.data.toList), []) := by
  unfold secE at h
  split at h
  · rename_i cs
    split at h
    · rename_i s hs
      have hc : cs = #[.string s] := by apply Array.toList_inj.1; rw [hs]
      injection h with h
      exact ⟨s, by rw [hc], h.symm⟩
    · cases h
  · cases h
abbrev wf64 (i : Int) : Prop := (Lit.int .i64 i).wf = true
theorem wf64_of {i : Int} (h0 : -9223372036854775808 ≤ i) (h1 : i < 9223372036854775808) : wf64 i := by
  simp [wf64, Lit.wf, IntKind.min, IntKind.max, IntKind.signed, IntKind.bits]; omega
theorem lawI : Keyed Tryz.prog 3 := int_keyed Tryz.underlying3
theorem zeroS (w : World) : (zeroValue 127).run Tryz.prog w = .ok (.agg #[.string ⟨#[]⟩]) w := by kernel_rfl
/-- The block holds a map: key by key f. -/
def MapS (w : World) (b n : Nat) (f : Int → Option ByteArray) : Prop :=
  ∃ D, w.ownsMap Tryz.prog 3 secE b n D ∧ ∀ i, wf64 i → Maps.has D (.int .i64 i) = (f i).isSome ∧ ∀ s, f i = some s → ∀ z, D.atKey (.int .i64 i) z = .lit (.string s.data.toList)
theorem MapS.lt {w : World} {b n : Nat} {f : Int → Option ByteArray} (h : MapS w b n f) : b < w.heap.size := h.choose_spec.1.lt
theorem MapS.kept {w w' : World} {b n : Nat} {f : Int → Option ByteArray} {row : Option Nat} (h : MapS w b n f) (hg : w.grownBy w' row) (hne : some b ≠ row) : MapS w' b n f := by
  obtain ⟨D, h1, h2⟩ := h; exact ⟨D, h1.kept hg hne, h2⟩
theorem MapS.below {w w' : World} {b n : Nat} {f : Int → Option ByteArray} (h : MapS w b n f) (hb : Below w.heap.size w w') : MapS w' b n f := h.kept (grown_bel hb) (by simp)
theorem MapS.fr {S : Nat → Prop} {w w' : World} {b n : Nat} {f : Int → Option ByteArray} (h : MapS w b n f) (hf : Fr S w w') (hs : ¬ S b) : MapS w' b n f := by
  have hlt := h.lt
  obtain ⟨D, ⟨es, clock, hb, r⟩, h2⟩ := h
  exact ⟨D, ⟨es, clock, (hf.block b hlt hs).trans hb, r⟩, h2⟩
theorem MapS.setCell {w : World} {b n : Nat} {f : Int → Option ByteArray} (h : MapS w b n f) {a : Addr} (ha : b ≠ a.block) (u : Value) : MapS (w.setCell a u) b n f := by
  obtain ⟨D, h1, h2⟩ := h; exact ⟨D, h1.setCell ha u, h2⟩
theorem MapS.mono {w : World} {b n m : Nat} {f : Int → Option ByteArray} (h : MapS w b n f) (hm : n ≤ m) : MapS w b m f := by
  obtain ⟨D, h1, h2⟩ := h; exact ⟨D, h1.mono hm, h2⟩
theorem MapS.made (w : World) : MapS (w.alloc (.map #[] 0)) w.heap.size 0 (fun _ => none) :=
  ⟨_, World.ownsMap_made w _ _ _, fun i _ => ⟨rfl, fun s h => by cases h⟩⟩
def setF (f : Int → Option ByteArray) (i : Int) (s : ByteArray) : Int → Option ByteArray := fun j => if j = i then some s else f j
theorem mapS_put {w w' : World} {b n : Nat} {f : Int → Option ByteArray} {D : DataW Unit} (h0 : w.ownsMap Tryz.prog 3 secE b n D) (hD : ∀ i, wf64 i → Maps.has D (.int .i64 i) = (f i).isSome ∧ ∀ s, f i = some s → ∀ z, D.atKey (.int .i64 i) z = .lit (.string s.data.toList))
    {i : Int} {s : ByteArray} (h : w'.ownsMap Tryz.prog 3 secE b (n + 1) (D.put (.int .i64 i) (.lit (.string s.data.toList)))) : MapS w' b (n + 1) (setF f i s) := by
  refine ⟨_, h, fun j hj => ?_⟩
  unfold setF
  by_cases e : j = i
  · subst e
    rw [if_pos rfl]
    have ik : WideAt.IsKeyLit (.int .i64 j) := trivial
    refine ⟨by rw [has_put_same h0.isMap ik]; rfl, fun s' hs z => ?_⟩
    injection hs with hs
    subst hs
    exact atKey_put_same h0.isMap ik _ _
  · rw [if_neg e]
    have hne : (Lit.int .i64 j) ≠ .int .i64 i := fun h => e (by injection h)
    refine ⟨by rw [has_put_other hne]; exact (hD j hj).1, fun s' hs z => ?_⟩
    rw [atKey_put_other hne]
    exact (hD j hj).2 s' hs z
section
variable {ops : Array Oper} {rest : List Oper} {o : Oper} {a : Act} {Q : Exit → Act → World → Prop}
theorem wpList_look_sec (w : World) (hg : o.guard = none) (m x : Operand) (hop : o.op = Op.lookup 110 m x true) (b n : Nat) (f : Int → Option ByteArray) (hm : a.eval m = .map (some b)) (hown : MapS w b n f) (i : Int) (hx : a.eval x = .int .i64 i) (hi : wf64 i)
    (hK : wpList Tryz.prog ops Q rest (a.put o.dst (.tuple #[.agg #[.string ((f i).getD ⟨#[]⟩)], .bool (f i).isSome])) w) :
    wpList Tryz.prog ops Q (o :: rest) a w := by
  obtain ⟨D, h1, h2⟩ := hown
  obtain ⟨e1, e2⟩ := h2 i hi
  refine wpList_lookup_own_ok w hg m x 110 hop 3 127 lawI Tryz.underlying110 secE (zeroS w) (.lit (.string [])) [] rfl b n D hm h1 (.int .i64 i) (.int .i64 i) hx (keyOf_int_mk Tryz.underlying3 hi) fun v ps hv => ?_
  obtain ⟨s, rfl, hz⟩ := secE_inv hv
  rw [e1]
  have hs : s = (f i).getD ⟨#[]⟩ := by
    injection hz with hz _
    cases hf : f i with
    | none =>
      rw [atKey_of_not_has (by rw [e1, hf]; rfl)] at hz
      injection hz with hz
      injection hz with hz
      exact bytes_ext hz.symm
    | some s' =>
      rw [e2 s' hf] at hz
      injection hz with hz
      injection hz with hz
      exact bytes_ext hz.symm
  rw [hs] at *
  exact hK
theorem wpList_put_sec (w : World) (hg : o.guard = none) (m x v : Operand) (hop : o.op = Op.mapUpdate 110 m x v) (b n : Nat) (f : Int → Option ByteArray) (hm : a.eval m = .map (some b)) (hown : MapS w b n f) (hn : n < maxLen) (i : Int) (hx : a.eval x = .int .i64 i) (hi : wf64 i) (s : ByteArray) (hv : a.eval v = .agg #[.string s])
    (hK : ∀ w', MapS w' b (n + 1) (setF f i s) → w.grownBy w' (some b) → wpList Tryz.prog ops Q rest (a.put o.dst undef) w') :
    wpList Tryz.prog ops Q (o :: rest) a w := by
  obtain ⟨D, h1, h2⟩ := hown
  exact wpList_mapUpdate_own w hg m x v 110 hop 3 127 lawI Tryz.underlying110 secE b n D hm h1 hn (.int .i64 i) (.agg #[.string s]) (.int .i64 i) hx hv (keyOf_int_mk Tryz.underlying3 hi) _ _ (secE_mk s) fun w' h3 h4 => hK w' (mapS_put h1 h2 h3) h4
end
end Go.Proofs.YtoebldemcgahnaaGreatDoor
