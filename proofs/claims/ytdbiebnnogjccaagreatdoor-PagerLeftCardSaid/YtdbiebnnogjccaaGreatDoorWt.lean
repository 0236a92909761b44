/- Frames (layer 18): FrameSizes. -/
import Derived.Test.YtdbiebnnogjccaaGreatDoorFl
import Derived.Test.YtdbiebnnogjccaaGreatDoorFq
import Derived.Test.YtdbiebnnogjccaaGreatDoorHa
namespace Go.Proofs.YtdbiebnnogjccaaGreatDoor
open Go.RowKit
set_option maxHeartbeats 1000000 in
theorem keep_Zeros (m : Nat) (hm : m ≤ 16777216) (w : World) : Calls Tryz.prog 94 #[.int .i64 (m : Int)] w fun e w' => e = .returned (.string (ofL (List.replicate m 0))) ∧ Below w.heap.size w w' := by
  obtain ⟨MC, hmk, hcv⟩ := make_zeros m hm
  have hZ : strOfNums (List.replicate m 0) = ofL (List.replicate m 0) := bytes_ext (by rw [strOfNums_data, ofL_list]; simp)
  rw [hZ] at hcv
  have h0 : ¬ (m : Int) < 0 := by omega
  clear hZ
  go_enter Tryz.func94, Tryz.ntmps94
  go_wp2_with fail
  go_ret
  exact ⟨rfl, below_a1 _ _⟩
theorem be2_small : ∀ i < 10, beBytes (i : Nat) 2 = [0, UInt8.ofNat i] := by decide
theorem sec_bytes {n : Int} {all : List UInt8} {k i : Nat} (hi : i < k) (hk : k ≤ 9) : ∃ a b c d r, secF n all k i = a :: b :: c :: d :: 0 :: UInt8.ofNat i :: 0 :: UInt8.ofNat k :: r := by
  have h := mkL_length n
  match hm : mkL n, h with
  | [a, b, c, d], _ => exact ⟨a, b, c, d, (all.drop (i * 244)).take 244 ++ [a, b, c, d], by unfold secF; rw [hm, be2_small i (by omega), be2_small k (by omega)]; rfl⟩
theorem toNat_small {i : Nat} (h : i < 256) : (UInt8.ofNat i).toNat = i := by simp; omega
end Go.Proofs.YtdbiebnnogjccaaGreatDoor

/- Frames (layer 18): a beginning of a new sector over an elder one: plain words. -/
namespace Go.Proofs.YtdbiebnnogjccaaGreatDoor
def tornL (a b : List UInt8) (i : Nat) : List UInt8 := b.take i ++ a.drop i
section
variable {a b : List UInt8} {o n : Int}
theorem tornL_length (ha : a.length = 256) (hb : b.length = 256) {i : Nat} (hi : i ≤ 256) : (tornL a b i).length = 256 := by
  simp [tornL, ha, hb]; omega
theorem torn_low (_ha : a.length = 256) (hb : b.length = 256) {i : Nat} (hi : i ≤ 252) : (tornL a b i).drop 252 = a.drop 252 := by
  unfold tornL
  have l : (b.take i).length = i := by rw [List.length_take, hb]; omega
  rw [List.drop_append, l, List.drop_eq_nil_of_le (by rw [l]; exact hi), List.nil_append, List.drop_drop]
  congr 1; omega
theorem torn_high (_ha : a.length = 256) (hb : b.length = 256) {i : Nat} (hi : 252 ≤ i) (h2 : i ≤ 256) : (tornL a b i).drop 252 = (b.drop 252).take (i - 252) ++ (a.drop 252).drop (i - 252) := by
  unfold tornL
  have l : (b.take i).length = i := by rw [List.length_take, hb]; omega
  have e1 : i + (i - 252) ≠ 0 := by omega
  obtain ⟨j, rfl⟩ : ∃ j, i = 252 + j := ⟨i - 252, by omega⟩
  have e2 : 252 + j - 252 = j := by omega
  have e3 : 252 - (252 + j) = 0 := by omega
  rw [List.drop_append, l, e2, e3, List.drop_zero, List.drop_take, e2, List.drop_drop]
theorem torn_head (_ha : a.length = 256) (hb : b.length = 256) {i : Nat} (hi : 252 ≤ i) (h2 : i ≤ 256) : (tornL a b i).take 252 = b.take 252 := by
  unfold tornL
  rw [List.take_append_of_le_length (by rw [List.length_take, hb]; omega), List.take_take]
  congr 1; omega
theorem torn_take4 (ha : a.length = 256) (hb : b.length = 256) {i : Nat} (hi : 252 ≤ i) (h2 : i ≤ 256) : (tornL a b i).take 4 = b.take 4 := by
  have h := congrArg (List.take 4) (torn_head ha hb hi h2)
  rwa [List.take_take, List.take_take] at h
theorem torn_zero : tornL a b 0 = a := by simp [tornL]
theorem torn_say (ho : a.length = 256) (hb : b.length = 256) (o0 : 0 < o) (o1 : o < 4294967296) (n0 : 0 < n) (n1 : n < 4294967296) (hne : o ≠ n)
    (a4 : a.take 4 = mkL o) (a5 : a.drop 252 = mkL o) (b4 : b.take 4 = mkL n) (b5 : b.drop 252 = mkL n) {i : Nat} (hi : i ≤ 256) :
    (numF (tornL a b i) = 0 ∧ tornL a b i ≠ b ∧ i ≠ 0) ∨ (numF (tornL a b i) = o ∧ tornL a b i ≠ b) ∨ (numF (tornL a b i) = n ∧ tornL a b i = b ∧ i ≠ 0) := by
  have hl := tornL_length ho hb hi
  have hmk : mkL o ≠ mkL n := fun h => hne (mkL_inj (by omega) n1 (by omega) o1 h)
  by_cases c : i ≤ 252
  · have h5 := torn_low ho hb c
    rw [a5] at h5
    have hx : tornL a b i ≠ b := fun h => by rw [h, b5] at h5; exact hmk h5.symm
    by_cases q : (tornL a b i).take 4 = (tornL a b i).drop 252
    · refine .inr (.inl ⟨?_, hx⟩)
      unfold numF
      rw [if_pos ⟨hl, q⟩, q, h5, valLE_mk (by omega) o1]
    · refine .inl ⟨?_, hx, fun h => ?_⟩
      · unfold numF; rw [if_neg (fun h => q h.2)]
      · subst h; rw [torn_zero, a4, a5] at q; exact q rfl
  · have h4 := torn_take4 ho hb (by omega : 252 ≤ i) hi
    have hh := torn_head ho hb (by omega : 252 ≤ i) hi
    rw [b4] at h4
    by_cases q : (tornL a b i).take 4 = (tornL a b i).drop 252
    · refine .inr (.inr ⟨?_, ?_, by omega⟩)
      · unfold numF
        rw [if_pos ⟨hl, q⟩, h4, valLE_mk (by omega) n1]
      · rw [← List.take_append_drop 252 (tornL a b i), hh, ← q, h4, ← b5, List.take_append_drop]
    · refine .inl ⟨?_, fun h => ?_, by omega⟩
      · unfold numF; rw [if_neg (fun h => q h.2)]
      · rw [h, b4, b5] at q; exact q rfl
theorem mk4 (n : Int) : ∃ c0 c1 c2 c3, mkL n = [c0, c1, c2, c3] := by
  have h := mkL_length n
  match hm : mkL n, h with
  | [a, b, c, d], _ => exact ⟨a, b, c, d, rfl⟩
theorem torn_end (ho : a.length = 256) (hb : b.length = 256) (o0 : 0 < o) (o1 : o < 4294967296) (n0 : 0 < n) (n1 : n < 4294967296) (hlt : o < n)
    (a5 : a.drop 252 = mkL o) (b5 : b.drop 252 = mkL n) {i : Nat} (hi : i ≤ 256) : valLE ((tornL a b i).drop 252) ≤ n := by
  by_cases c : i ≤ 252
  · rw [torn_low ho hb c, a5, valLE_mk (by omega) o1]; omega
  · rw [torn_high ho hb (by omega) hi, a5, b5]
    have vo := valLE_mk (n := o) (by omega) o1
    have vn := valLE_mk (n := n) (by omega) n1
    obtain ⟨c0, c1, c2, c3, hc⟩ := mk4 o
    obtain ⟨d0, d1, d2, d3, hd⟩ := mk4 n
    rw [hc] at vo
    rw [hd] at vn
    rw [hc, hd]
    rw [valLE4] at vo vn
    have e0 := c0.toNat_lt; have e1 := c1.toNat_lt; have e2 := c2.toNat_lt; have e3 := c3.toNat_lt
    have f0 := d0.toNat_lt; have f1 := d1.toNat_lt; have f2 := d2.toNat_lt; have f3 := d3.toNat_lt
    obtain ⟨j, hj⟩ : ∃ j, j = i - 252 := ⟨_, rfl⟩
    rw [← hj]
    rcases (show j = 1 ∨ j = 2 ∨ j = 3 ∨ j = 4 by omega) with rfl | rfl | rfl | rfl
    all_goals
      simp only [List.take_succ_cons, List.take_zero, List.drop_succ_cons, List.drop_zero, List.cons_append, List.nil_append, List.append_nil]
      rw [valLE4]
      omega
end
end Go.Proofs.YtdbiebnnogjccaaGreatDoor

/- The log (layer 21): torn sectors of small numbers; what is read of sectors, place by place. -/
namespace Go.Proofs.YtdbiebnnogjccaaGreatDoor
theorem list4 {l : List UInt8} (hl : l.length = 4) : ∃ b0 b1 b2 b3, l = [b0, b1, b2, b3] := by
  match l, hl with
  | [b0, b1, b2, b3], _ => exact ⟨b0, b1, b2, b3, rfl⟩
theorem u8_zero {b : UInt8} (h : b.toNat = 0) : b = 0 := UInt8.toNat_inj.1 (by rw [h]; rfl)
theorem smallV {l : List UInt8} (hl : l.length = 4) (h : valLE l < 256) : ∃ c, l = [c, 0, 0, 0] := by
  obtain ⟨b0, b1, b2, b3, rfl⟩ := list4 hl
  rw [valLE4] at h
  exact ⟨b0, by rw [u8_zero (b := b1) (by omega), u8_zero (b := b2) (by omega), u8_zero (b := b3) (by omega)]⟩
/-- A sector that was torn by one of a greater number, below 256: it is the old one, or has no number, or is the new one. -/
theorem torn3 {a b : List UInt8} {n : Int} (ha : a.length = 256) (hb : b.length = 256) (n0 : 0 < n) (n1 : n < 256) (a4 : valLE (a.take 4) < n) (a5 : valLE (a.drop 252) < n) (b4 : b.take 4 = mkL n) (b5 : b.drop 252 = mkL n) {i : Nat} (hi : i ≤ 256) :
    tornL a b i = a ∨ (numF (tornL a b i) = 0 ∧ (tornL a b i).take 4 = mkL n ∧ (tornL a b i).drop 252 = a.drop 252) ∨ tornL a b i = b := by
  have hl := tornL_length ha hb hi
  have hv := valLE_mk (n := n) (by omega) (by omega)
  obtain ⟨c, hc⟩ := smallV (mkL_length n) (by rw [hv]; exact n1)
  have l4 : (a.take 4).length = 4 := by rw [List.length_take, ha]; rfl
  have l5 : (a.drop 252).length = 4 := by rw [List.length_drop, ha]
  obtain ⟨x, hx⟩ := smallV l4 (by omega)
  obtain ⟨y, hy⟩ := smallV l5 (by omega)
  by_cases c0 : i = 0
  · subst c0; exact .inl torn_zero
  · by_cases c1 : i ≤ 252
    · have h5 := torn_low ha hb c1
      have h4 : (tornL a b i).take 4 = mkL n := by
        by_cases c4 : i < 4
        · have e : (tornL a b i).take 4 = (b.take 4).take i ++ (a.take 4).drop i := by
            unfold tornL
            rw [List.take_append, List.length_take, hb, List.take_take, List.take_take, List.drop_take]
            congr 1
            · congr 1; omega
            · congr 1; omega
          rw [e, b4, hc, hx]
          rcases (show i = 1 ∨ i = 2 ∨ i = 3 by omega) with rfl | rfl | rfl <;> rfl
        · unfold tornL
          rw [List.take_append_of_le_length (by rw [List.length_take, hb]; omega), List.take_take, ← b4]
          congr 1; omega
      refine .inr (.inl ⟨?_, h4, h5⟩)
      unfold numF
      rw [if_neg]
      rintro ⟨_, e⟩
      rw [h4, h5] at e
      rw [← e, hv] at a5
      omega
    · refine .inr (.inr ?_)
      have h5 : (tornL a b i).drop 252 = b.drop 252 := by
        rw [torn_high ha hb (by omega) hi, b5, hc, hy]
        rcases (show i - 252 = 1 ∨ i - 252 = 2 ∨ i - 252 = 3 ∨ i - 252 = 4 by omega) with e | e | e | e <;> rw [e] <;> rfl
      rw [← List.take_append_drop 252 (tornL a b i), torn_head ha hb (by omega) hi, h5, List.take_append_drop]
theorem torn_self {a : List UInt8} {i : Nat} : tornL a a i = a := by unfold tornL; exact List.take_append_drop _ _
/-- The first sector of those that are read. -/
theorem readF_head {x : List UInt8} {L : List (List UInt8)} {s : List UInt8} {n : Int} {k : Nat} (h : readF (x :: L) = some (s, n, k)) : n = numF x ∧ numF x ≠ 0 ∧ k = (valBE ((x.drop 6).take 2)).toNat := by
  unfold readF at h
  dsimp only at h
  split at h
  · cases h
  · rename_i h0
    split at h
    · cases ht : textF (bodyF ((x :: L).take (valBE ((x.drop 6).take 2)).toNat)) (valBE ((x.drop 6).take 2)).toNat with
      | none => rw [ht] at h; cases h
      | some t => rw [ht] at h; simp at h; exact ⟨h.2.1.symm, fun e => h0 (.inl e), h.2.2.symm⟩
    · cases h
theorem readF_nonum {x : List UInt8} {L : List (List UInt8)} (h : numF x = 0) : readF (x :: L) = none := by
  unfold readF
  dsimp only
  rw [if_pos (.inl h)]
theorem readF_pieces {L : List (List UInt8)} {s : List UInt8} {n : Int} {k : Nat} (h : readF L = some (s, n, k)) : ∀ i, i < k → numF (L.getD i []) = n := by
  cases L with
  | nil => cases h
  | cons x L =>
    have hn := readF_head h
    unfold readF at h
    dsimp only at h
    split at h
    · cases h
    · split at h
      · rename_i hp
        intro i hi
        rw [hn.2.2] at hi
        have := List.all_eq_true.1 hp i (List.mem_range.2 hi)
        unfold pieceF at this
        rw [Bool.and_eq_true, decide_eq_true_eq] at this
        rw [this.1, hn.1]
      · cases h
/-- What is read hangs on the sectors read alone. -/
theorem readF_local {L M : List (List UInt8)} {s : List UInt8} {n : Int} {k : Nat} (h : readF L = some (s, n, k)) (hl : L.length = M.length) (ht : L.take k = M.take k) : readF M = some (s, n, k) := by
  have hk := readF_pos h
  cases L with
  | nil => cases h
  | cons x L =>
    cases M with
    | nil => simp at hl
    | cons y M =>
      have hn := readF_head h
      obtain ⟨j, hj⟩ : ∃ j, k = j + 1 := ⟨k - 1, by omega⟩
      have hxy : x = y := by rw [hj, List.take_succ_cons, List.take_succ_cons] at ht; injection ht
      subst hxy
      have hk2 := hn.2.2
      rw [← h]
      unfold readF
      dsimp only
      rw [← hk2, ← hl, ← ht]
      have e : ((List.range k).all fun i => pieceF (numF x) k ((x :: M).getD i []) i) = ((List.range k).all fun i => pieceF (numF x) k ((x :: L).getD i []) i) := by
        rw [Bool.eq_iff_iff, List.all_eq_true, List.all_eq_true]
        refine forall_congr' fun i => forall_congr' fun hi => ?_
        have hi := List.mem_range.1 hi
        have e1 : (x :: M)[i]? = (x :: L)[i]? := by
          rw [← List.getElem?_take_of_lt hi, ← List.getElem?_take_of_lt (l := x :: L) hi, ht]
        rw [List.getD_eq_getElem?_getD, List.getD_eq_getElem?_getD, e1]
      rw [e]
end Go.Proofs.YtdbiebnnogjccaaGreatDoor
