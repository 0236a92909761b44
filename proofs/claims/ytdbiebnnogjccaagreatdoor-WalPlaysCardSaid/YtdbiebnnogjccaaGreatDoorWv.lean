/- Frames (layer 18): FrameSizes. -/
import Derived.Test.YtdbiebnnogjccaaGreatDoorDa
import Derived.Test.YtdbiebnnogjccaaGreatDoorWp
import Derived.Test.YtdbiebnnogjccaaGreatDoorFr
namespace Go.Proofs.YtdbiebnnogjccaaGreatDoor
open Go.RowKit
set_option maxHeartbeats 1000000 in
theorem keep_Zeros (m : Nat) (hm : m ≤ 16777216) (w : World) : Calls Tryz.prog 94 #[.int .i64 (m : Int)] w fun e w' => e = .returned (.string (ofL (List.replicate m 0))) ∧ Below w.heap.size w w' := by
  obtain ⟨MC, hmk, hcv⟩ := make_zeros m hm
  have hZ : strOfNums (List.replicate m 0) = ofL (List.replicate m 0) := bytes_ext (by rw [strOfNums_data, ofL_list]; simp)
  rw [hZ] at hcv
  have h0 : ¬ (m : Int) < 0 := by omega
  clear hZ
  go_enter Tryz.func94, Tryz.ntmps94
  go_wp2_with fail
  go_ret
  exact ⟨rfl, below_a1 _ _⟩
theorem be2_small : ∀ i < 10, beBytes (i : Nat) 2 = [0, UInt8.ofNat i] := by decide
theorem sec_bytes {n : Int} {all : List UInt8} {k i : Nat} (hi : i < k) (hk : k ≤ 9) : ∃ a b c d r, secF n all k i = a :: b :: c :: d :: 0 :: UInt8.ofNat i :: 0 :: UInt8.ofNat k :: r := by
  have h := mkL_length n
  match hm : mkL n, h with
  | [a, b, c, d], _ => exact ⟨a, b, c, d, (all.drop (i * 244)).take 244 ++ [a, b, c, d], by unfold secF; rw [hm, be2_small i (by omega), be2_small k (by omega)]; rfl⟩
theorem toNat_small {i : Nat} (h : i < 256) : (UInt8.ofNat i).toNat = i := by simp; omega
end Go.Proofs.YtdbiebnnogjccaaGreatDoor

/- Frames (layer 18): a beginning of a new sector over an elder one: plain words. -/
namespace Go.Proofs.YtdbiebnnogjccaaGreatDoor
def tornL (a b : List UInt8) (i : Nat) : List UInt8 := b.take i ++ a.drop i
section
variable {a b : List UInt8} {o n : Int}
theorem tornL_length (ha : a.length = 256) (hb : b.length = 256) {i : Nat} (hi : i ≤ 256) : (tornL a b i).length = 256 := by
  simp [tornL, ha, hb]; omega
theorem torn_low (_ha : a.length = 256) (hb : b.length = 256) {i : Nat} (hi : i ≤ 252) : (tornL a b i).drop 252 = a.drop 252 := by
  unfold tornL
  have l : (b.take i).length = i := by rw [List.length_take, hb]; omega
  rw [List.drop_append, l, List.drop_eq_nil_of_le (by rw [l]; exact hi), List.nil_append, List.drop_drop]
  congr 1; omega
theorem torn_high (_ha : a.length = 256) (hb : b.length = 256) {i : Nat} (hi : 252 ≤ i) (h2 : i ≤ 256) : (tornL a b i).drop 252 = (b.drop 252).take (i - 252) ++ (a.drop 252).drop (i - 252) := by
  unfold tornL
  have l : (b.take i).length = i := by rw [List.length_take, hb]; omega
  have e1 : i + (i - 252) ≠ 0 := by omega
  obtain ⟨j, rfl⟩ : ∃ j, i = 252 + j := ⟨i - 252, by omega⟩
  have e2 : 252 + j - 252 = j := by omega
  have e3 : 252 - (252 + j) = 0 := by omega
  rw [List.drop_append, l, e2, e3, List.drop_zero, List.drop_take, e2, List.drop_drop]
theorem torn_head (_ha : a.length = 256) (hb : b.length = 256) {i : Nat} (hi : 252 ≤ i) (h2 : i ≤ 256) : (tornL a b i).take 252 = b.take 252 := by
  unfold tornL
  rw [List.take_append_of_le_length (by rw [List.length_take, hb]; omega), List.take_take]
  congr 1; omega
theorem torn_take4 (ha : a.length = 256) (hb : b.length = 256) {i : Nat} (hi : 252 ≤ i) (h2 : i ≤ 256) : (tornL a b i).take 4 = b.take 4 := by
  have h := congrArg (List.take 4) (torn_head ha hb hi h2)
  rwa [List.take_take, List.take_take] at h
theorem torn_zero : tornL a b 0 = a := by simp [tornL]
theorem torn_say (ho : a.length = 256) (hb : b.length = 256) (o0 : 0 < o) (o1 : o < 4294967296) (n0 : 0 < n) (n1 : n < 4294967296) (hne : o ≠ n)
    (a4 : a.take 4 = mkL o) (a5 : a.drop 252 = mkL o) (b4 : b.take 4 = mkL n) (b5 : b.drop 252 = mkL n) {i : Nat} (hi : i ≤ 256) :
    (numF (tornL a b i) = 0 ∧ tornL a b i ≠ b ∧ i ≠ 0) ∨ (numF (tornL a b i) = o ∧ tornL a b i ≠ b) ∨ (numF (tornL a b i) = n ∧ tornL a b i = b ∧ i ≠ 0) := by
  have hl := tornL_length ho hb hi
  have hmk : mkL o ≠ mkL n := fun h => hne (mkL_inj (by omega) n1 (by omega) o1 h)
  by_cases c : i ≤ 252
  · have h5 := torn_low ho hb c
    rw [a5] at h5
    have hx : tornL a b i ≠ b := fun h => by rw [h, b5] at h5; exact hmk h5.symm
    by_cases q : (tornL a b i).take 4 = (tornL a b i).drop 252
    · refine .inr (.inl ⟨?_, hx⟩)
      unfold numF
      rw [if_pos ⟨hl, q⟩, q, h5, valLE_mk (by omega) o1]
    · refine .inl ⟨?_, hx, fun h => ?_⟩
      · unfold numF; rw [if_neg (fun h => q h.2)]
      · subst h; rw [torn_zero, a4, a5] at q; exact q rfl
  · have h4 := torn_take4 ho hb (by omega : 252 ≤ i) hi
    have hh := torn_head ho hb (by omega : 252 ≤ i) hi
    rw [b4] at h4
    by_cases q : (tornL a b i).take 4 = (tornL a b i).drop 252
    · refine .inr (.inr ⟨?_, ?_, by omega⟩)
      · unfold numF
        rw [if_pos ⟨hl, q⟩, h4, valLE_mk (by omega) n1]
      · rw [← List.take_append_drop 252 (tornL a b i), hh, ← q, h4, ← b5, List.take_append_drop]
    · refine .inl ⟨?_, fun h => ?_, by omega⟩
      · unfold numF; rw [if_neg (fun h => q h.2)]
      · rw [h, b4, b5] at q; exact q rfl
theorem mk4 (n : Int) : ∃ c0 c1 c2 c3, mkL n = [c0, c1, c2, c3] := by
  have h := mkL_length n
  match hm : mkL n, h with
  | [a, b, c, d], _ => exact ⟨a, b, c, d, rfl⟩
theorem torn_end (ho : a.length = 256) (hb : b.length = 256) (o0 : 0 < o) (o1 : o < 4294967296) (n0 : 0 < n) (n1 : n < 4294967296) (hlt : o < n)
    (a5 : a.drop 252 = mkL o) (b5 : b.drop 252 = mkL n) {i : Nat} (hi : i ≤ 256) : valLE ((tornL a b i).drop 252) ≤ n := by
  by_cases c : i ≤ 252
  · rw [torn_low ho hb c, a5, valLE_mk (by omega) o1]; omega
  · rw [torn_high ho hb (by omega) hi, a5, b5]
    have vo := valLE_mk (n := o) (by omega) o1
    have vn := valLE_mk (n := n) (by omega) n1
    obtain ⟨c0, c1, c2, c3, hc⟩ := mk4 o
    obtain ⟨d0, d1, d2, d3, hd⟩ := mk4 n
    rw [hc] at vo
    rw [hd] at vn
    rw [hc, hd]
    rw [valLE4] at vo vn
    have e0 := c0.toNat_lt; have e1 := c1.toNat_lt; have e2 := c2.toNat_lt; have e3 := c3.toNat_lt
    have f0 := d0.toNat_lt; have f1 := d1.toNat_lt; have f2 := d2.toNat_lt; have f3 := d3.toNat_lt
    obtain ⟨j, hj⟩ : ∃ j, j = i - 252 := ⟨_, rfl⟩
    rw [← hj]
    rcases (show j = 1 ∨ j = 2 ∨ j = 3 ∨ j = 4 by omega) with rfl | rfl | rfl | rfl
    all_goals
      simp only [List.take_succ_cons, List.take_zero, List.drop_succ_cons, List.drop_zero, List.cons_append, List.nil_append, List.append_nil]
      rw [valLE4]
      omega
end
end Go.Proofs.YtdbiebnnogjccaaGreatDoor

/- The log (layer 21): torn sectors of small numbers; what is read of sectors, place by place. -/
namespace Go.Proofs.YtdbiebnnogjccaaGreatDoor
theorem list4 {l : List UInt8} (hl : l.length = 4) : ∃ b0 b1 b2 b3, l = [b0, b1, b2, b3] := by
  match l, hl with
  | [b0, b1, b2, b3], _ => exact ⟨b0, b1, b2, b3, rfl⟩
theorem u8_zero {b : UInt8} (h : b.toNat = 0) : b = 0 := UInt8.toNat_inj.1 (by rw [h]; rfl)
theorem smallV {l : List UInt8} (hl : l.length = 4) (h : valLE l < 256) : ∃ c, l = [c, 0, 0, 0] := by
  obtain ⟨b0, b1, b2, b3, rfl⟩ := list4 hl
  rw [valLE4] at h
  exact ⟨b0, by rw [u8_zero (b := b1) (by omega), u8_zero (b := b2) (by omega), u8_zero (b := b3) (by omega)]⟩
/-- A sector that was torn by one of a greater number, below 256: it is the old one, or has no number, or is the new one. -/
theorem torn3 {a b : List UInt8} {n : Int} (ha : a.length = 256) (hb : b.length = 256) (n0 : 0 < n) (n1 : n < 256) (a4 : valLE (a.take 4) < n) (a5 : valLE (a.drop 252) < n) (b4 : b.take 4 = mkL n) (b5 : b.drop 252 = mkL n) {i : Nat} (hi : i ≤ 256) :
    tornL a b i = a ∨ (numF (tornL a b i) = 0 ∧ (tornL a b i).take 4 = mkL n ∧ (tornL a b i).drop 252 = a.drop 252) ∨ tornL a b i = b := by
  have hl := tornL_length ha hb hi
  have hv := valLE_mk (n := n) (by omega) (by omega)
  obtain ⟨c, hc⟩ := smallV (mkL_length n) (by rw [hv]; exact n1)
  have l4 : (a.take 4).length = 4 := by rw [List.length_take, ha]; rfl
  have l5 : (a.drop 252).length = 4 := by rw [List.length_drop, ha]
  obtain ⟨x, hx⟩ := smallV l4 (by omega)
  obtain ⟨y, hy⟩ := smallV l5 (by omega)
  by_cases c0 : i = 0
  · subst c0; exact .inl torn_zero
  · by_cases c1 : i ≤ 252
    · have h5 := torn_low ha hb c1
      have h4 : (tornL a b i).take 4 = mkL n := by
        by_cases c4 : i < 4
        · have e : (tornL a b i).take 4 = (b.take 4).take i ++ (a.take 4).drop i := by
            unfold tornL
            rw [List.take_append, List.length_take, hb, List.take_take, List.take_take, List.drop_take]
            congr 1
            · congr 1; omega
            · congr 1; omega
          rw [e, b4, hc, hx]
          rcases (show i = 1 ∨ i = 2 ∨ i = 3 by omega) with rfl | rfl | rfl <;> rfl
        · unfold tornL
          rw [List.take_append_of_le_length (by rw [List.length_take, hb]; omega), List.take_take, ← b4]
          congr 1; omega
      refine .inr (.inl ⟨?_, h4, h5⟩)
      unfold numF
      rw [if_neg]
      rintro ⟨_, e⟩
      rw [h4, h5] at e
      rw [← e, hv] at a5
      omega
    · refine .inr (.inr ?_)
      have h5 : (tornL a b i).drop 252 = b.drop 252 := by
        rw [torn_high ha hb (by omega) hi, b5, hc, hy]
        rcases (show i - 252 = 1 ∨ i - 252 = 2 ∨ i - 252 = 3 ∨ i - 252 = 4 by omega) with e | e | e | e <;> rw [e] <;> rfl
      rw [← List.take_append_drop 252 (tornL a b i), torn_head ha hb (by omega) hi, h5, List.take_append_drop]
theorem torn_self {a : List UInt8} {i : Nat} : tornL a a i = a := by unfold tornL; exact List.take_append_drop _ _
/-- The first sector of those that are read. -/
theorem readF_head {x : List UInt8} {L : List (List UInt8)} {s : List UInt8} {n : Int} {k : Nat} (h : readF (x :: L) = some (s, n, k)) : n = numF x ∧ numF x ≠ 0 ∧ k = (valBE ((x.drop 6).take 2)).toNat := by
  unfold readF at h
  dsimp only at h
  split at h
  · cases h
  · rename_i h0
    split at h
    · cases ht : textF (bodyF ((x :: L).take (valBE ((x.drop 6).take 2)).toNat)) (valBE ((x.drop 6).take 2)).toNat with
      | none => rw [ht] at h; cases h
      | some t => rw [ht] at h; simp at h; exact ⟨h.2.1.symm, fun e => h0 (.inl e), h.2.2.symm⟩
    · cases h
theorem readF_nonum {x : List UInt8} {L : List (List UInt8)} (h : numF x = 0) : readF (x :: L) = none := by
  unfold readF
  dsimp only
  rw [if_pos (.inl h)]
theorem readF_pieces {L : List (List UInt8)} {s : List UInt8} {n : Int} {k : Nat} (h : readF L = some (s, n, k)) : ∀ i, i < k → numF (L.getD i []) = n := by
  cases L with
  | nil => cases h
  | cons x L =>
    have hn := readF_head h
    unfold readF at h
    dsimp only at h
    split at h
    · cases h
    · split at h
      · rename_i hp
        intro i hi
        rw [hn.2.2] at hi
        have := List.all_eq_true.1 hp i (List.mem_range.2 hi)
        unfold pieceF at this
        rw [Bool.and_eq_true, decide_eq_true_eq] at this
        rw [this.1, hn.1]
      · cases h
/-- What is read hangs on the sectors read alone. -/
theorem readF_local {L M : List (List UInt8)} {s : List UInt8} {n : Int} {k : Nat} (h : readF L = some (s, n, k)) (hl : L.length = M.length) (ht : L.take k = M.take k) : readF M = some (s, n, k) := by
  have hk := readF_pos h
  cases L with
  | nil => cases h
  | cons x L =>
    cases M with
    | nil => simp at hl
    | cons y M =>
      have hn := readF_head h
      obtain ⟨j, hj⟩ : ∃ j, k = j + 1 := ⟨k - 1, by omega⟩
      have hxy : x = y := by rw [hj, List.take_succ_cons, List.take_succ_cons] at ht; injection ht
      subst hxy
      have hk2 := hn.2.2
      rw [← h]
      unfold readF
      dsimp only
      rw [← hk2, ← hl, ← ht]
      have e : ((List.range k).all fun i => pieceF (numF x) k ((x :: M).getD i []) i) = ((List.range k).all fun i => pieceF (numF x) k ((x :: L).getD i []) i) := by
        rw [Bool.eq_iff_iff, List.all_eq_true, List.all_eq_true]
        refine forall_congr' fun i => forall_congr' fun hi => ?_
        have hi := List.mem_range.1 hi
        have e1 : (x :: M)[i]? = (x :: L)[i]? := by
          rw [← List.getElem?_take_of_lt hi, ← List.getElem?_take_of_lt (l := x :: L) hi, ht]
        rw [List.getD_eq_getElem?_getD, List.getD_eq_getElem?_getD, e1]
      rw [e]
end Go.Proofs.YtdbiebnnogjccaaGreatDoor

/- The log (layer 21): what an opening reads behind a crash. -/
namespace Go.Proofs.YtdbiebnnogjccaaGreatDoor
theorem LL_drop (L : List ByteArray) (k : Nat) : LL (L.drop k) = (LL L).drop k := by unfold LL; rw [List.map_drop]
theorem LL_take (L : List ByteArray) (k : Nat) : LL (L.take k) = (LL L).take k := by unfold LL; rw [List.map_take]
/-- The least number that is read next, where a scan ends. -/
noncomputable def leastW (L : List ByteArray) : Nat → Int → Nat → Int
  | 0, least, _ => least
  | f + 1, least, used => match readF (LL (L.drop used)) with
    | none => least
    | some (_, n, k) => if n < least ∨ 2147483648 < n then least else leastW L f (n + 1) (used + k)
/-- A scan that stands there ends at once. -/
def StopW (T : List (List UInt8)) (m : Int) : Prop := ∀ s n k, readF T = some (s, n, k) → n < m ∨ 2147483648 < n
theorem scan_stop {L : List ByteArray} {f : Nat} {m : Int} {used : Nat} (h : StopW (LL (L.drop used)) m) : scanW L f m used = ([], used) := by
  cases hr : readF (LL (L.drop used)) with
  | none => exact scanW_none hr
  | some x => obtain ⟨s, n, k⟩ := x; exact scanW_stop hr (h s n k hr)
/-- Where a scan ends, it would end again; another area with the same sectors up to there is read alike. -/
theorem scan_prefix {A : List ByteArray} : ∀ (f : Nat) (m : Int) (u : Nat), A.length - u ≤ f → StopW (LL (A.drop (scanW A f m u).2)) (leastW A f m u) ∧ m ≤ leastW A f m u ∧
    ∀ T : List ByteArray, T.length = A.length → T.take (scanW A f m u).2 = A.take (scanW A f m u).2 → ∀ g, T.length - u ≤ g → scanW T g m u = ((scanW A f m u).1 ++ (scanW T g (leastW A f m u) (scanW A f m u).2).1, (scanW T g (leastW A f m u) (scanW A f m u).2).2)
  | 0, m, u, hf => by
    refine ⟨?_, Int.le_refl _, fun T _ _ g _ => rfl⟩
    have e : A.drop u = [] := List.drop_eq_nil_of_le (by omega)
    show StopW (LL (A.drop u)) m
    rw [e]
    intro s n k h
    cases h
  | f + 1, m, u, hf => by
    cases hr : readF (LL (A.drop u)) with
    | none =>
      have e1 : scanW A (f + 1) m u = ([], u) := scanW_none hr
      have e2 : leastW A (f + 1) m u = m := by simp only [leastW]; rw [hr]
      rw [e1, e2]
      exact ⟨fun s n k h => (by rw [hr] at h; cases h), Int.le_refl _, fun T _ _ g _ => rfl⟩
    | some x =>
      obtain ⟨s, n, k⟩ := x
      have hk := readF_pos hr
      rw [LL_length, List.length_drop] at hk
      by_cases hb : n < m ∨ 2147483648 < n
      · have e1 : scanW A (f + 1) m u = ([], u) := scanW_stop hr hb
        have e2 : leastW A (f + 1) m u = m := by simp only [leastW]; rw [hr]; dsimp only; rw [if_pos hb]
        rw [e1, e2]
        exact ⟨fun s' n' k' h => (by rw [hr] at h; cases h; exact hb), Int.le_refl _, fun T _ _ g _ => rfl⟩
      · have e1 : scanW A (f + 1) m u = (ofL s :: (scanW A f (n + 1) (u + k)).1, (scanW A f (n + 1) (u + k)).2) := by simp only [scanW]; rw [hr]; dsimp only; rw [if_neg hb]
        have e2 : leastW A (f + 1) m u = leastW A f (n + 1) (u + k) := by simp only [leastW]; rw [hr]; dsimp only; rw [if_neg hb]
        obtain ⟨i1, i2, i3⟩ := scan_prefix (A := A) f (n + 1) (u + k) (by omega)
        rw [e1, e2]
        refine ⟨i1, by omega, fun T hT ht g hg => ?_⟩
        have hle := scanW_le (L := A) f (n + 1) (u + k) (by omega)
        dsimp only at ht
        have hT2 : readF (LL (T.drop u)) = some (s, n, k) := by
          refine readF_local hr (by rw [LL_length, LL_length, List.length_drop, List.length_drop, hT]) ?_
          have e3 := congrArg (List.take (u + k)) ht
          rw [List.take_take, List.take_take, Nat.min_eq_left hle.2.1] at e3
          have e4 := congrArg (List.drop u) e3
          rw [List.drop_take, List.drop_take, Nat.add_sub_cancel_left] at e4
          rw [← LL_take, ← LL_take, e4]
        rw [scanW_step hT2 hb hg, i3 T hT ht g (by omega)]
        rfl
/-- Records one behind the other: their sectors. -/
noncomputable def layR (R : List (Int × List UInt8)) : List (List UInt8) := (R.map fun x => secsF x.1 x.2).flatten
theorem layR_cons (x : Int × List UInt8) (R : List (Int × List UInt8)) : layR (x :: R) = secsF x.1 x.2 ++ layR R := rfl
/-- Every sector is the old one, or has no number, or is the new one; where nothing new was written it is the old one. -/
structure TornR (q : Int) (T A B : List (List UInt8)) : Prop where
  ta : T.length = A.length
  tb : T.length = B.length
  low : ∀ i (h : i < A.length), numF A[i] < q
  each : ∀ i (h : i < T.length), T[i] = A[i]'(by omega) ∨ numF T[i] = 0 ∨ (T[i] = B[i]'(by omega) ∧ q ≤ numF T[i])
theorem TornR.drop {q : Int} {T A B : List (List UInt8)} (h : TornR q T A B) (k : Nat) : TornR q (T.drop k) (A.drop k) (B.drop k) := by
  refine ⟨by rw [List.length_drop, List.length_drop, h.ta], by rw [List.length_drop, List.length_drop, h.tb], fun i hi => ?_, fun i hi => ?_⟩
  · rw [List.getElem_drop]; exact h.low _ _
  · have := h.each (k + i) (by rw [List.length_drop] at hi; omega)
    simpa [List.getElem_drop] using this
/-- What is read with an old number stood there already. -/
theorem torn_low3 {q m : Int} {T A B : List (List UInt8)} {s' : List UInt8} {k : Nat} (h : TornR q T A B) (hr : readF T = some (s', m, k)) (hlow : m < q) : readF A = some (s', m, k) := by
  have hk := readF_pos hr
  have g2 : m ≠ 0 := by
    cases T with
    | nil => cases hr
    | cons x T' => have := readF_head hr; rw [this.1]; exact this.2.1
  refine readF_local hr h.ta ?_
  refine List.ext_getElem (by rw [List.length_take, List.length_take, h.ta]) fun j h1 h2 => ?_
  rw [List.getElem_take, List.getElem_take]
  have hj : j < k := by rw [List.length_take] at h1; omega
  have hpj := readF_pieces hr j hj
  rw [List.getD_eq_getElem?_getD, List.getElem?_eq_getElem (by omega), Option.getD_some] at hpj
  rcases h.each j (by omega) with e1 | e1 | e1
  · exact e1
  · rw [e1] at hpj; exact absurd hpj.symm g2
  · have := e1.2; omega
theorem torn_stop {q m : Int} {T A B : List (List UInt8)} (h : TornR q T A B) (hs : StopW A m ∨ q ≤ m) (hlow : ∀ s' m' k, readF T = some (s', m', k) → m' < q) : StopW T m := by
  intro s' m' k hr
  have h1 := hlow s' m' k hr
  rcases hs with hs | hs
  · exact hs s' m' k (torn_low3 h hr h1)
  · exact .inl (by omega)
/-- A record that is not whole is none, or an old one is read. -/
theorem torn_read {q n : Int} {T A B : List (List UInt8)} {s : List UInt8} {C : List (List UInt8)} (h : TornR q T A B) (hq : 0 < q) (hn : q ≤ n) (hn1 : n < 4294967296) (hs : s.length ≤ 2000) (hB : B = secsF n s ++ C) (hne : T.take (szN s.length) ≠ secsF n s) :
    ∀ s' m k, readF T = some (s', m, k) → m < q := by
  intro s' m k hr
  have hl := secsF_length n s
  have hp := sz_pos s.length
  have h9 := sz_le hs
  have hBl : szN s.length ≤ B.length := by rw [hB, List.length_append, hl]; omega
  have hTl : szN s.length ≤ T.length := by rw [h.tb]; exact hBl
  have hBi : ∀ i (hi : i < szN s.length), B[i]'(by omega) = secF n (allF s) (szN s.length) i := fun i hi => by
    subst hB
    rw [List.getElem_append_left (by rw [hl]; exact hi), secsF_get]
  -- a sector that is not the new one
  obtain ⟨i, hi, hbad⟩ : ∃ i, ∃ (hi : i < szN s.length), T[i]'(by omega) ≠ B[i]'(by omega) := by
    refine Classical.byContradiction fun hno => hne ?_
    refine List.ext_getElem (by rw [List.length_take, hl]; omega) fun i h1 h2 => ?_
    rw [List.getElem_take]
    rw [hl] at h2
    have := Classical.byContradiction fun hx : ¬ (T[i]'(by omega) = B[i]'(by omega)) => hno ⟨i, h2, hx⟩
    rw [this, hBi i h2, secsF_get]
  have hbn : numF (T[i]'(by omega)) ≠ n := by
    rcases h.each i (by omega) with e | e | e
    · rw [e]; have := h.low i (by rw [← h.ta]; omega); omega
    · rw [e]; omega
    · exact absurd e.1 hbad
  cases T with
  | nil => cases hr
  | cons x T' =>
    obtain ⟨g1, g2, g3⟩ := readF_head hr
    by_cases h0 : x = B[0]'(by omega)
    · have hx : x = secF n (allF s) (szN s.length) 0 := by rw [h0, hBi 0 (by omega)]
      have := read_other (L := x :: T') (x := x) (y := (x :: T')[i]'(by omega)) (k := szN s.length) (i := i) rfl (by rw [hx]; exact sec_many) (by omega) hi (List.getElem?_eq_getElem _) (by
        rw [hx, sec_num (by omega) hn1 (allF_length s) (by omega)]
        rw [hx] at hbn
        exact hbn)
      rw [this] at hr; cases hr
    · rcases h.each 0 (by simp) with e | e | e
      · have e : x = A[0]'(by rw [← h.ta]; simp) := e
        rw [g1, e]; exact h.low 0 _
      · exact absurd e g2
      · exact absurd e.1 h0
def risesW : Int → List (Int × List UInt8) → Prop
  | _, [] => True
  | m, x :: R => m ≤ x.1 ∧ x.1 ≤ 2147483648 ∧ x.2.length ≤ 2000 ∧ risesW (x.1 + 1) R
/-- What is read of new records behind the place where the elder scan ended: some of them, from the first on; at least those that are whole. -/
theorem torn_scan {q : Int} (hq : 0 < q) {T : List ByteArray} {f : Nat} : ∀ (R : List (Int × List UInt8)) (m n : Int) (u : Nat) (A B : List (List UInt8)), TornR q (LL (T.drop u)) A B → B = layR R ++ A.drop (layR R).length → risesW n R → q ≤ n → m ≤ n → (StopW A m ∨ q ≤ m) → T.length - u ≤ f →
    ∃ j u', j ≤ R.length ∧ scanW T f m u = ((R.take j).map (fun x => ofL x.2), u') ∧ (∀ i, i ≤ R.length → (LL (T.drop u)).take (layR (R.take i)).length = layR (R.take i) → i ≤ j) ∧ (LL (T.drop u)).take (layR (R.take j)).length = layR (R.take j)
  | [], m, n, u, A, B, h, hB, hR, hn, hm, hs, hf => by
    refine ⟨0, u, Nat.le_refl _, scan_stop (torn_stop h hs fun s' m' k hr => ?_), fun i hi _ => hi, rfl⟩
    have hB : B = A := by rw [hB]; rfl
    subst hB
    obtain ⟨x, T', hT⟩ : ∃ x T', LL (T.drop u) = x :: T' := by
      cases hx : LL (T.drop u) with
      | nil => rw [hx] at hr; cases hr
      | cons x T' => exact ⟨_, _, rfl⟩
    rw [hT] at hr h
    obtain ⟨g1, g2, g3⟩ := readF_head hr
    have hl := h.low 0 (by rw [← h.ta]; simp)
    rcases h.each 0 (by simp) with e | e | e
    · have e : x = B[0]'(by rw [← h.ta]; simp) := e
      rw [g1, e]; exact hl
    · exact absurd e g2
    · have e1 : x = B[0]'(by rw [← h.ta]; simp) := e.1
      rw [g1, e1]; exact hl
  | (n0, s) :: R, m, n, u, A, B, h, hB, hR, hn, hm, hs, hf => by
    obtain ⟨r1, r2, r3, r4⟩ := hR
    dsimp only at r1 r2 r3 r4
    rw [layR_cons, List.append_assoc] at hB
    dsimp only at hB
    have hl := secsF_length n0 s
    by_cases hw : (LL (T.drop u)).take (szN s.length) = secsF n0 s
    · -- the record is whole
      have hd : LL (T.drop (u + szN s.length)) = (LL (T.drop u)).drop (szN s.length) := by rw [← List.drop_drop, LL_drop]
      have hsp : LL (T.drop u) = secsF n0 s ++ LL (T.drop (u + szN s.length)) := by
        rw [hd, ← hw, List.take_append_drop]
      have hr : readF (LL (T.drop u)) = some (s, n0, szN s.length) := by rw [hsp]; exact read_made (by omega) (by omega) r3 _
      have hk := readF_pos hr
      rw [LL_length, List.length_drop] at hk
      have hT2 : TornR q (LL (T.drop (u + szN s.length))) (A.drop (szN s.length)) (B.drop (szN s.length)) := by
        rw [hd]; exact h.drop _
      obtain ⟨j, u', h1, h2, h3, h4⟩ := torn_scan hq R (n0 + 1) (n0 + 1) (u + szN s.length) _ _ hT2 (by
        rw [hB, List.drop_left' hl, List.drop_drop]
        congr 2
        rw [List.length_append, hl]) r4 (by omega) (Int.le_refl _) (.inr (by omega)) (Nat.le_trans (Nat.sub_le_sub_left (Nat.le_add_right _ _) _) hf)
      refine ⟨j + 1, u', by simp; omega, ?_, fun i hi ht => ?_, ?_⟩
      · rw [scanW_step hr (by omega) hf, h2]
        rfl
      · cases i with
        | zero => omega
        | succ i =>
          have : i ≤ j := by
            refine h3 i (by simpa using hi) ?_
            rw [List.take_succ_cons, layR_cons] at ht
            dsimp only at ht
            rw [List.length_append, hsp, List.take_length_add_append] at ht
            exact List.append_cancel_left ht
          omega
      · rw [List.take_succ_cons, layR_cons]
        dsimp only
        rw [List.length_append, hsp, List.take_length_add_append, h4]
    · refine ⟨0, u, Nat.zero_le _, scan_stop (torn_stop h hs (torn_read h hq (by omega) (by omega) r3 hB hw)), fun i hi ht => ?_, rfl⟩
      cases i with
      | zero => exact Nat.le_refl _
      | succ i =>
        refine absurd ?_ hw
        rw [List.take_succ_cons, layR_cons] at ht
        dsimp only at ht
        have e := congrArg (List.take (szN s.length)) ht
        rw [List.take_take, List.take_left' hl, Nat.min_eq_left (by rw [List.length_append, hl]; omega)] at e
        exact e
end Go.Proofs.YtdbiebnnogjccaaGreatDoor
