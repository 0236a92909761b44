/- Frames (layer 18): pannierkeep.Texts, the law's wakes, FrameMakes. -/
import Derived.Test.YtdbiebnnogjccaaGreatDoorFd
import Derived.Test.YtdbiebnnogjccaaGreatDoorFi
import Derived.Test.YtdbiebnnogjccaaGreatDoorSl
import Derived.Test.YtdbiebnnogjccaaGreatDoorPuB
import Derived.Test.YtdbiebnnogjccaaGreatDoorAs
import Derived.Maps.Keyed
import Derived.Maps.OwnSet
import Derived.Maps.RangeWalk
namespace Go.Proofs.YtdbiebnnogjccaaGreatDoor
open Go.RowKit
theorem SlStrs.atN {w : World} {p : Option Addr} {n c k : Nat} {l : List ByteArray} (hn : n = l.length) (h : SlStrs w (.slice p n c) l) (hk : k < l.length) : ∃ b off, p = some ⟨b, off, none⟩ ∧ StrsAt w b off l := by
  subst hn; exact h.at hk
set_option maxRecDepth 100000 in
set_option maxHeartbeats 2000000 in
theorem keep_Texts (v u : Value) (L M : List ByteArray) (hL : L.length < 9223372036854775807) (w : World) (hv : SlStrs w v L) (hu : SlStrs w u M) :
    Calls Tryz.prog 20 #[v, u] w fun e w' => e = .returned (.bool (decide (L = M))) ∧ Below w.heap.size w w' := by
  obtain ⟨p, cp, rfl, hcp⟩ := hv.form
  obtain ⟨q, cq, rfl, hcq⟩ := hu.form
  have HV := Lib.hid hv; have HU := Lib.hid hu
  clear hv hu hcp hcq
  by_cases hl : L.length = M.length
  · have z0 : ((L.length : Int) != (M.length : Int)) = false := by rw [hl]; simp
    have HL := Lib.hid hl
    obtain ⟨n, hn⟩ : ∃ n, n = L.length := ⟨_, rfl⟩
    obtain ⟨m, hm⟩ : ∃ m, m = M.length := ⟨_, rfl⟩
    have Hn := Lib.hid hn; have Hm := Lib.hid hm
    rw [← hn, ← hm] at z0 ⊢
    rw [← hn] at HV
    rw [← hm] at HU
    have hnb : n < 9223372036854775807 := by omega
    clear hl hn hm hL
    go_enter Tryz.func20, Tryz.ntmps20
    go_wp2_with fail
    go_loopw [5] (fun c wr => ∃ i : Nat, i ≤ n ∧ c = .int .i64 i ∧ Below w.heap.size w wr ∧ ∀ j (h1 : j < L.length) (h2 : j < M.length), j < i → L[j] = M[j]) (fun c _ => n - (intOf c).toNat)
    case atStart => exact ⟨0, Nat.zero_le _, rfl, Below.refl _ _, fun j _ _ h => absurd h (by omega)⟩
    case round =>
      obtain ⟨i, hi, rfl, hB, hP⟩ := hrel
      have HB := Lib.hid hB; have HP := Lib.hid hP
      clear hB hP
      by_cases hlt : i < n
      · have hi1 : (i : Int) < (n : Int) := by omega
        have hi2 : (i : Int) < (m : Int) := by have := HL.out; have := Hn.out; have := Hm.out; omega
        have hi0 : (0 : Int) ≤ (i : Int) := by omega
        have h1 : i < L.length := by rw [← Hn.out]; exact hlt
        have h2 : i < M.length := by rw [← HL.out]; exact h1
        obtain ⟨b, off, rfl, hS⟩ := SlStrs.atN Hn.out HV.out h1
        obtain ⟨b', off', rfl, hT⟩ := SlStrs.atN Hm.out HU.out h2
        have c1 := (hS.below HB.out).at' i h1
        have c2 := (hT.below HB.out).at' i h2
        by_cases he : L[i] = M[i]
        · have hq : (M[i].toList == M[i].toList) = true := by simp
          rw [he] at c1
          have HE := Lib.hid he
          obtain ⟨y, hy⟩ : ∃ y, y = M[i] := ⟨_, rfl⟩
          rw [← hy] at c1 c2 hq
          clear hS hT he hy
          go_wp2_with fail
          go_quiet (fail)
          go_wp2_with fail
          go_roundw
          case rel =>
            refine ⟨i + 1, by omega, by go_num, bstep HB.out (below_dN _ _), fun j h1 h2 hj => ?_⟩
            by_cases hji : j < i
            · exact HP.out j h1 h2 hji
            · obtain rfl : j = i := by omega
              exact HE.out
          case measure => simp [intOf]; omega
        · have hq : (L[i].toList == M[i].toList) = false := by
            rw [beq_eq_false_iff_ne]
            intro h
            rw [Lib.toList_data, Lib.toList_data] at h
            exact he (bytes_ext h)
          have HE : Hid (decide (L = M) = false) := by
            show _ = _
            rw [decide_eq_false_iff_not]
            intro h
            subst h
            exact he rfl
          obtain ⟨x, hx⟩ : ∃ x, x = L[i] := ⟨_, rfl⟩
          obtain ⟨y, hy⟩ : ∃ y, y = M[i] := ⟨_, rfl⟩
          rw [← hx] at c1 hq
          rw [← hy] at c2 hq
          clear hS hT he hy hx
          go_wp2_with fail
          go_quiet (fail)
          go_wp2_with fail
          go_ret
          exact ⟨by rw [HE.out]; rfl, bstep HB.out (below_dN _ _)⟩
      · have hi1 : ¬ (i : Int) < (n : Int) := by omega
        have HE : Hid (decide (L = M) = true) := by
          show _ = _
          rw [decide_eq_true_eq]
          refine List.ext_getElem HL.out fun j h1 h2 => HP.out j h1 h2 ?_
          have := Hn.out; omega
        go_wp2_with fail
        go_ret
        exact ⟨by rw [HE.out]; rfl, HB.out⟩
  · have z0 : ((L.length : Int) != (M.length : Int)) = true := by rw [bne_iff_ne]; omega
    have HE : Hid (decide (L = M) = false) := by
      show _ = _
      rw [decide_eq_false_iff_not]
      intro h
      exact hl (by rw [h])
    clear hl
    go_enter Tryz.func20, Tryz.ntmps20
    go_wp2_with fail
    go_ret
    exact ⟨by rw [HE.out]; rfl, Below.refl _ _⟩
end Go.Proofs.YtdbiebnnogjccaaGreatDoor

/- Frames (layer 18): the law's wakes, FrameMakes. -/
namespace Go.Proofs.YtdbiebnnogjccaaGreatDoor
open Go.RowKit
theorem LL_ofL (L : List (List UInt8)) : LL (L.map ofL) = L := by
  unfold LL
  rw [List.map_map]
  have e : ((fun b : ByteArray => b.data.toList) ∘ ofL) = id := by funext l; exact ofL_list l
  rw [e, List.map_id]
end Go.Proofs.YtdbiebnnogjccaaGreatDoor

/- Frames (layer 18): the reference's End; zeros. -/
namespace Go.Proofs.YtdbiebnnogjccaaGreatDoor
open Go.RowKit
theorem valLE_cons (c : UInt8) (l : List UInt8) : valLE (c :: l) = (c.toNat : Int) + 256 * valLE l := by
  unfold valLE
  rw [List.reverse_cons, valBE_snoc]; omega
theorem valLE_bd {l : List UInt8} {n : Nat} (h : l.length = n) : 0 ≤ valLE l ∧ valLE l < 256 ^ n := valBE_bd n _ (by rw [List.length_reverse, h])
theorem or_byte {n c : Nat} (hn : n < 16777216) (hc : c < 256) : bits .or .u32 ((n : Int) * 256) ((c : Int) % 4294967296) = ((n * 256 + c : Nat) : Int) := by
  have e1 : (n : Int) * 256 = ((n * 256 : Nat) : Int) := by omega
  have e2 : (c : Int) % 4294967296 = ((c : Nat) : Int) := by omega
  have o1 : n * 256 ||| c = n * 256 + c := by rw [Nat.or_comm, or_add (i := 8) (by omega), Nat.add_comm]
  rw [e1, e2, u32_or_nat _ _ (by omega) (by omega), o1]
set_option maxHeartbeats 1000000 in
theorem ref18_End (s : ByteArray) (hs : s.size = 4) (w : World) : Calls Tryz.prog 126 #[.string s] w fun e w' => e = .returned (.int .u32 (valLE s.data.toList)) ∧ w = w' := by
  have hl : s.data.toList.length = 4 := by rw [size_list, hs]
  have z : (s.size : Int) - 1 = ((4 : Nat) : Int) - 1 := by rw [hs]
  have hd : Hid (∀ k (h : k < s.size), valLE (s.data.toList.drop k) = ((s[k]'h).toNat : Int) + 256 * valLE (s.data.toList.drop (k + 1))) := fun k h => by
    rw [List.drop_eq_getElem_cons (by rw [size_list]; exact h), valLE_cons]
    simp [ByteArray.getElem_eq_getElem_data]
  have hb : Hid (∀ k, 1 ≤ k → 0 ≤ valLE (s.data.toList.drop k) ∧ valLE (s.data.toList.drop k) < 16777216) := fun k hk => by
    have h := valLE_bd (l := s.data.toList.drop k) rfl
    have h2 : (s.data.toList.drop k).length ≤ 3 := by rw [List.length_drop]; omega
    have h3 : (256 : Int) ^ (s.data.toList.drop k).length ≤ 16777216 := by
      generalize (s.data.toList.drop k).length = j at h2
      rcases (show j = 0 ∨ j = 1 ∨ j = 2 ∨ j = 3 by omega) with rfl | rfl | rfl | rfl <;> decide
    omega
  have Hs := Lib.hid hs
  have bz : s.size ≤ 4 := by omega
  clear hs hl
  go_enter Tryz.func126, Tryz.ntmps126
  go_wp2_with fail
  go_loop [3, 4] (fun n i => ∃ k : Nat, k ≤ 4 ∧ i = .int .i64 ((k : Int) - 1) ∧ n = .int .u32 (valLE (s.data.toList.drop k))) (fun _ i => (intOf i + 1).toNat)
  case atStart =>
    refine ⟨4, by omega, rfl, ?_⟩
    rw [List.drop_of_length_le (by rw [size_list]; omega)]; rfl
  case round =>
    obtain ⟨k, hk, rfl, rfl⟩ := hrel
    clear z
    cases k with
    | zero =>
      have h1 : ¬ (0 : Int) ≤ ((0 : Nat) : Int) - 1 := by decide
      go_wp2_with fail
      go_ret
      exact ⟨rfl, rfl⟩
    | succ k =>
      have hbk := hb.out (k + 1) (by omega)
      have hks : k < s.size := by have := Hs.out; omega
      have hdk := hd.out k hks
      obtain ⟨n, hn⟩ : ∃ n : Nat, (n : Int) = valLE (s.data.toList.drop (k + 1)) := ⟨(valLE (s.data.toList.drop (k + 1))).toNat, by omega⟩
      rw [← hn] at hbk hdk ⊢
      have e1 : ((k + 1 : Nat) : Int) - 1 = (k : Int) := by omega
      rw [e1]
      have i0 : (0 : Int) ≤ (k : Int) := by omega
      have i1 : (k : Int) < (s.size : Int) := by omega
      have ho := or_byte (n := n) (c := s[k].toNat) (by omega) s[k].toNat_lt
      have HD : Hid (valLE (s.data.toList.drop k) = ((n * 256 + s[k].toNat : Nat) : Int)) := by show _ = _; rw [hdk]; omega
      clear hdk hn e1
      go_wp2_with fail
      go_round
      case rel => exact ⟨k, by omega, rfl, by rw [HD.out, Int.natCast_add, Int.natCast_mul]; rfl⟩
      case measure => simp [intOf]
end Go.Proofs.YtdbiebnnogjccaaGreatDoor

/- Disks (layer 19): maps of sectors: what a block holds, key by key; the look-up, the store. -/
namespace Go.Proofs.YtdbiebnnogjccaaGreatDoor
open Go.RowKit Go.Maps
/-- How a sector reads. -/
def secE (v : Value) : Option (DataW Unit × List MemPlace) :=
  match v with
  | .agg cs => match cs.toList with
    | [.string s] => some (.lit (.string s.data.toList), [])
    | _ => none
  | _ => none
theorem secE_mk (s : ByteArray) : secE (.agg #[.string s]) = some (.lit (.string s.data.toList), []) := rfl
theorem secE_inv {v : Value} {z : DataW Unit × List MemPlace} (h : secE v = some z) : ∃ s, v = .agg #[.string s] ∧ z = (.lit (.string s.data.toList), []) := by
  unfold secE at h
  split at h
  · rename_i cs
    split at h
    · rename_i s hs
      have hc : cs = #[.string s] := by apply Array.toList_inj.1; rw [hs]
      injection h with h
      exact ⟨s, by rw [hc], h.symm⟩
    · cases h
  · cases h
abbrev wf64 (i : Int) : Prop := (Lit.int .i64 i).wf = true
theorem wf64_of {i : Int} (h0 : -9223372036854775808 ≤ i) (h1 : i < 9223372036854775808) : wf64 i := by
  simp [wf64, Lit.wf, IntKind.min, IntKind.max, IntKind.signed, IntKind.bits]; omega
theorem lawI : Keyed Tryz.prog 3 := int_keyed Tryz.underlying3
theorem zeroS (w : World) : (zeroValue 128).run Tryz.prog w = .ok (.agg #[.string ⟨#[]⟩]) w := by kernel_rfl
/-- The block holds a map: key by key f. -/
def MapS (w : World) (b n : Nat) (f : Int → Option ByteArray) : Prop :=
  ∃ D, w.ownsMap Tryz.prog 3 secE b n D ∧ ∀ i, wf64 i → Maps.has D (.int .i64 i) = (f i).isSome ∧ ∀ s, f i = some s → ∀ z, D.atKey (.int .i64 i) z = .lit (.string s.data.toList)
theorem MapS.lt {w : World} {b n : Nat} {f : Int → Option ByteArray} (h : MapS w b n f) : b < w.heap.size := h.choose_spec.1.lt
theorem MapS.kept {w w' : World} {b n : Nat} {f : Int → Option ByteArray} {row : Option Nat} (h : MapS w b n f) (hg : w.grownBy w' row) (hne : some b ≠ row) : MapS w' b n f := by
  obtain ⟨D, h1, h2⟩ := h; exact ⟨D, h1.kept hg hne, h2⟩
theorem MapS.below {w w' : World} {b n : Nat} {f : Int → Option ByteArray} (h : MapS w b n f) (hb : Below w.heap.size w w') : MapS w' b n f := h.kept (grown_bel hb) (by simp)
theorem MapS.fr {S : Nat → Prop} {w w' : World} {b n : Nat} {f : Int → Option ByteArray} (h : MapS w b n f) (hf : Fr S w w') (hs : ¬ S b) : MapS w' b n f := by
  have hlt := h.lt
  obtain ⟨D, ⟨es, clock, hb, r⟩, h2⟩ := h
  exact ⟨D, ⟨es, clock, (hf.block b hlt hs).trans hb, r⟩, h2⟩
theorem MapS.setCell {w : World} {b n : Nat} {f : Int → Option ByteArray} (h : MapS w b n f) {a : Addr} (ha : b ≠ a.block) (u : Value) : MapS (w.setCell a u) b n f := by
  obtain ⟨D, h1, h2⟩ := h; exact ⟨D, h1.setCell ha u, h2⟩
theorem MapS.mono {w : World} {b n m : Nat} {f : Int → Option ByteArray} (h : MapS w b n f) (hm : n ≤ m) : MapS w b m f := by
  obtain ⟨D, h1, h2⟩ := h; exact ⟨D, h1.mono hm, h2⟩
theorem MapS.made (w : World) : MapS (w.alloc (.map #[] 0)) w.heap.size 0 (fun _ => none) :=
  ⟨_, World.ownsMap_made w _ _ _, fun i _ => ⟨rfl, fun s h => by cases h⟩⟩
def setF (f : Int → Option ByteArray) (i : Int) (s : ByteArray) : Int → Option ByteArray := fun j => if j = i then some s else f j
theorem mapS_put {w w' : World} {b n : Nat} {f : Int → Option ByteArray} {D : DataW Unit} (h0 : w.ownsMap Tryz.prog 3 secE b n D) (hD : ∀ i, wf64 i → Maps.has D (.int .i64 i) = (f i).isSome ∧ ∀ s, f i = some s → ∀ z, D.atKey (.int .i64 i) z = .lit (.string s.data.toList))
    {i : Int} {s : ByteArray} (h : w'.ownsMap Tryz.prog 3 secE b (n + 1) (D.put (.int .i64 i) (.lit (.string s.data.toList)))) : MapS w' b (n + 1) (setF f i s) := by
  refine ⟨_, h, fun j hj => ?_⟩
  unfold setF
  by_cases e : j = i
  · subst e
    rw [if_pos rfl]
    have ik : WideAt.IsKeyLit (.int .i64 j) := trivial
    refine ⟨by rw [has_put_same h0.isMap ik]; rfl, fun s' hs z => ?_⟩
    injection hs with hs
    subst hs
    exact atKey_put_same h0.isMap ik _ _
  · rw [if_neg e]
    have hne : (Lit.int .i64 j) ≠ .int .i64 i := fun h => e (by injection h)
    refine ⟨by rw [has_put_other hne]; exact (hD j hj).1, fun s' hs z => ?_⟩
    rw [atKey_put_other hne]
    exact (hD j hj).2 s' hs z
section
variable {ops : Array Oper} {rest : List Oper} {o : Oper} {a : Act} {Q : Exit → Act → World → Prop}
theorem wpList_look_sec (w : World) (hg : o.guard = none) (m x : Operand) (hop : o.op = Op.lookup 107 m x true) (b n : Nat) (f : Int → Option ByteArray) (hm : a.eval m = .map (some b)) (hown : MapS w b n f) (i : Int) (hx : a.eval x = .int .i64 i) (hi : wf64 i)
    (hK : wpList Tryz.prog ops Q rest (a.put o.dst (.tuple #[.agg #[.string ((f i).getD ⟨#[]⟩)], .bool (f i).isSome])) w) :
    wpList Tryz.prog ops Q (o :: rest) a w := by
  obtain ⟨D, h1, h2⟩ := hown
  obtain ⟨e1, e2⟩ := h2 i hi
  refine wpList_lookup_own_ok w hg m x 107 hop 3 128 lawI Tryz.underlying107 secE (zeroS w) (.lit (.string [])) [] rfl b n D hm h1 (.int .i64 i) (.int .i64 i) hx (keyOf_int_mk Tryz.underlying3 hi) fun v ps hv => ?_
  obtain ⟨s, rfl, hz⟩ := secE_inv hv
  rw [e1]
  have hs : s = (f i).getD ⟨#[]⟩ := by
    injection hz with hz _
    cases hf : f i with
    | none =>
      rw [atKey_of_not_has (by rw [e1, hf]; rfl)] at hz
      injection hz with hz
      injection hz with hz
      exact bytes_ext hz.symm
    | some s' =>
      rw [e2 s' hf] at hz
      injection hz with hz
      injection hz with hz
      exact bytes_ext hz.symm
  rw [hs] at *
  exact hK
theorem wpList_put_sec (w : World) (hg : o.guard = none) (m x v : Operand) (hop : o.op = Op.mapUpdate 107 m x v) (b n : Nat) (f : Int → Option ByteArray) (hm : a.eval m = .map (some b)) (hown : MapS w b n f) (hn : n < maxLen) (i : Int) (hx : a.eval x = .int .i64 i) (hi : wf64 i) (s : ByteArray) (hv : a.eval v = .agg #[.string s])
    (hK : ∀ w', MapS w' b (n + 1) (setF f i s) → w.grownBy w' (some b) → wpList Tryz.prog ops Q rest (a.put o.dst undef) w') :
    wpList Tryz.prog ops Q (o :: rest) a w := by
  obtain ⟨D, h1, h2⟩ := hown
  exact wpList_mapUpdate_own w hg m x v 107 hop 3 128 lawI Tryz.underlying107 secE b n D hm h1 hn (.int .i64 i) (.agg #[.string s]) (.int .i64 i) hx hv (keyOf_int_mk Tryz.underlying3 hi) _ _ (secE_mk s) fun w' h3 h4 => hK w' (mapS_put h1 h2 h3) h4
end
end Go.Proofs.YtdbiebnnogjccaaGreatDoor
