/- The walks of pannierref16: the same answers as package pack's. -/
import Derived.Test.YtdbiebnnogjccaaGreatDoorPkc
namespace Go.Proofs.YtdbiebnnogjccaaGreatDoor
open Go.RowKit

theorem ref16_sized (n : Int) (w : World) : Calls Tryz.prog 155 #[.int .i64 n] w fun e w' => e = .returned (.bool (sizeB n)) ∧ w = w' := by
  go_enter Tryz.func155, Tryz.ntmps155
  go_wp2
  all_goals (go_ret; exact ⟨by simp [sizeB, *], rfl⟩)
theorem ref16_Num_arg (v n : Int) (hn : sizeB n = false) (w : World) : Calls Tryz.prog 157 #[.int .u64 v, .int .i64 n] w fun e w' =>
    e = .returned (.tuple #[.string ⟨#[]⟩, .int .i64 1]) ∧ w = w' := by
  go_enter Tryz.func157, Tryz.ntmps157
  go_wp2_with fail
  refine (ref16_sized _ _).mono ?_; rintro e w' ⟨rfl, rfl⟩
  go_wp2_with fail
  go_ret2
  exact ⟨rfl, rfl⟩
theorem div_pow256 (v : Int) (k : Nat) : v / 256 ^ (k + 1) = v / 256 ^ k / 256 := by
  rw [Int.pow_succ, ← Int.ediv_ediv_of_nonneg (Int.pow_nonneg (by decide))]
theorem ret_strn {xs ys : List Int} {c : Int} (h : xs = ys) : Ending.returned (.tuple #[.string (strOfNums xs), .int .i64 c]) = .returned (.tuple #[.string (strOfNums ys), .int .i64 c]) := by rw [h]

set_option maxRecDepth 100000 in
set_option maxHeartbeats 2000000 in
theorem ref16_Num1 (v : Int) (h0 : 0 ≤ v) (h1 : v < 256) (w : World) : Calls Tryz.prog 157 #[.int .u64 v, .int .i64 1] w fun e w' => e = .returned (.tuple #[.string (strOfNums (lowBE v 1)), .int .i64 0]) ∧ Below w.heap.size w w' := by
  have hmk : ∀ w, (Instr.makeSlice 23 (.int .i64 1) (.int .i64 1)).run Tryz.prog w = .ok (.slice (some ⟨w.heap.size, 0, none⟩) 1 1) (w.alloc (.cells #[.int .u8 0] 5)) := fun _ => by kernel_rfl
  have hcv := conv_new w [v % 256]
  simp only [List.length_cons, List.length_nil, Nat.reduceAdd, List.map_cons, List.map_nil] at hcv
  have hd : (v / 256 != 0) = false := by rw [bne_eq_false_iff_eq]; omega
  go_enter Tryz.func157, Tryz.ntmps157
  go_wp2_with fail
  refine (ref16_sized _ _).mono ?_; rintro e w' ⟨rfl, rfl⟩
  go_wp2_with fail
  refine wp_loop_rounds 2 ?_
  rw [rounds_succ]
  go_wp2
  rw [rounds_succ]
  go_wp2
  go_ret2
  exact ⟨ret_strn (by simp only [lowBE, Int.pow_zero, Int.ediv_one]), (Below.refl _ _).alloc (Nat.le_refl _) _⟩
set_option maxRecDepth 100000 in
set_option maxHeartbeats 2000000 in
theorem ref16_Num1_long (v : Int) (h1 : 256 ≤ v) (h2 : v < 18446744073709551616) (w : World) : Calls Tryz.prog 157 #[.int .u64 v, .int .i64 1] w fun e w' => e = .returned (.tuple #[.string ⟨#[]⟩, .int .i64 2]) ∧ Below w.heap.size w w' := by
  have hmk : ∀ w, (Instr.makeSlice 23 (.int .i64 1) (.int .i64 1)).run Tryz.prog w = .ok (.slice (some ⟨w.heap.size, 0, none⟩) 1 1) (w.alloc (.cells #[.int .u8 0] 5)) := fun _ => by kernel_rfl
  have hd : (v / 256 != 0) = true := by rw [bne_iff_ne]; omega
  go_enter Tryz.func157, Tryz.ntmps157
  go_wp2_with fail
  refine (ref16_sized _ _).mono ?_; rintro e w' ⟨rfl, rfl⟩
  go_wp2_with fail
  refine wp_loop_rounds 2 ?_
  rw [rounds_succ]
  go_wp2
  rw [rounds_succ]
  go_wp2
  go_ret2
  exact ⟨rfl, (Below.refl _ _).alloc (Nat.le_refl _) _⟩
set_option maxRecDepth 100000 in
set_option maxHeartbeats 2000000 in
theorem ref16_Num2 (v : Int) (h0 : 0 ≤ v) (h1 : v < 65536) (w : World) : Calls Tryz.prog 157 #[.int .u64 v, .int .i64 2] w fun e w' => e = .returned (.tuple #[.string (strOfNums (lowBE v 2)), .int .i64 0]) ∧ Below w.heap.size w w' := by
  have hmk : ∀ w, (Instr.makeSlice 23 (.int .i64 2) (.int .i64 2)).run Tryz.prog w = .ok (.slice (some ⟨w.heap.size, 0, none⟩) 2 2) (w.alloc (.cells #[.int .u8 0, .int .u8 0] 5)) := fun _ => by kernel_rfl
  have hcv := conv_new w [v / 256 % 256, v % 256]
  simp only [List.length_cons, List.length_nil, Nat.reduceAdd, List.map_cons, List.map_nil] at hcv
  have hd : (v / 256 / 256 != 0) = false := by rw [bne_eq_false_iff_eq]; omega
  go_enter Tryz.func157, Tryz.ntmps157
  go_wp2_with fail
  refine (ref16_sized _ _).mono ?_; rintro e w' ⟨rfl, rfl⟩
  go_wp2_with fail
  refine wp_loop_rounds 3 ?_
  rw [rounds_succ]
  go_wp2
  rw [rounds_succ]
  go_wp2
  rw [rounds_succ]
  go_wp2
  go_ret2
  exact ⟨ret_strn (by simp only [lowBE, div_pow256, Int.pow_zero, Int.ediv_one]), (Below.refl _ _).alloc (Nat.le_refl _) _⟩
set_option maxRecDepth 100000 in
set_option maxHeartbeats 2000000 in
theorem ref16_Num2_long (v : Int) (h1 : 65536 ≤ v) (h2 : v < 18446744073709551616) (w : World) : Calls Tryz.prog 157 #[.int .u64 v, .int .i64 2] w fun e w' => e = .returned (.tuple #[.string ⟨#[]⟩, .int .i64 2]) ∧ Below w.heap.size w w' := by
  have hmk : ∀ w, (Instr.makeSlice 23 (.int .i64 2) (.int .i64 2)).run Tryz.prog w = .ok (.slice (some ⟨w.heap.size, 0, none⟩) 2 2) (w.alloc (.cells #[.int .u8 0, .int .u8 0] 5)) := fun _ => by kernel_rfl
  have hd : (v / 256 / 256 != 0) = true := by rw [bne_iff_ne]; omega
  go_enter Tryz.func157, Tryz.ntmps157
  go_wp2_with fail
  refine (ref16_sized _ _).mono ?_; rintro e w' ⟨rfl, rfl⟩
  go_wp2_with fail
  refine wp_loop_rounds 3 ?_
  rw [rounds_succ]
  go_wp2
  rw [rounds_succ]
  go_wp2
  rw [rounds_succ]
  go_wp2
  go_ret2
  exact ⟨rfl, (Below.refl _ _).alloc (Nat.le_refl _) _⟩
set_option maxRecDepth 100000 in
set_option maxHeartbeats 2000000 in
theorem ref16_Num4 (v : Int) (h0 : 0 ≤ v) (h1 : v < 4294967296) (w : World) : Calls Tryz.prog 157 #[.int .u64 v, .int .i64 4] w fun e w' => e = .returned (.tuple #[.string (strOfNums (lowBE v 4)), .int .i64 0]) ∧ Below w.heap.size w w' := by
  have hmk : ∀ w, (Instr.makeSlice 23 (.int .i64 4) (.int .i64 4)).run Tryz.prog w = .ok (.slice (some ⟨w.heap.size, 0, none⟩) 4 4) (w.alloc (.cells #[.int .u8 0, .int .u8 0, .int .u8 0, .int .u8 0] 5)) := fun _ => by kernel_rfl
  have hcv := conv_new w [v / 256 / 256 / 256 % 256, v / 256 / 256 % 256, v / 256 % 256, v % 256]
  simp only [List.length_cons, List.length_nil, Nat.reduceAdd, List.map_cons, List.map_nil] at hcv
  have hd : (v / 256 / 256 / 256 / 256 != 0) = false := by rw [bne_eq_false_iff_eq]; omega
  go_enter Tryz.func157, Tryz.ntmps157
  go_wp2_with fail
  refine (ref16_sized _ _).mono ?_; rintro e w' ⟨rfl, rfl⟩
  go_wp2_with fail
  refine wp_loop_rounds 5 ?_
  rw [rounds_succ]
  go_wp2
  rw [rounds_succ]
  go_wp2
  rw [rounds_succ]
  go_wp2
  rw [rounds_succ]
  go_wp2
  rw [rounds_succ]
  go_wp2
  go_ret2
  exact ⟨ret_strn (by simp only [lowBE, div_pow256, Int.pow_zero, Int.ediv_one]), (Below.refl _ _).alloc (Nat.le_refl _) _⟩
set_option maxRecDepth 100000 in
set_option maxHeartbeats 2000000 in
theorem ref16_Num4_long (v : Int) (h1 : 4294967296 ≤ v) (h2 : v < 18446744073709551616) (w : World) : Calls Tryz.prog 157 #[.int .u64 v, .int .i64 4] w fun e w' => e = .returned (.tuple #[.string ⟨#[]⟩, .int .i64 2]) ∧ Below w.heap.size w w' := by
  have hmk : ∀ w, (Instr.makeSlice 23 (.int .i64 4) (.int .i64 4)).run Tryz.prog w = .ok (.slice (some ⟨w.heap.size, 0, none⟩) 4 4) (w.alloc (.cells #[.int .u8 0, .int .u8 0, .int .u8 0, .int .u8 0] 5)) := fun _ => by kernel_rfl
  have hd : (v / 256 / 256 / 256 / 256 != 0) = true := by rw [bne_iff_ne]; omega
  go_enter Tryz.func157, Tryz.ntmps157
  go_wp2_with fail
  refine (ref16_sized _ _).mono ?_; rintro e w' ⟨rfl, rfl⟩
  go_wp2_with fail
  refine wp_loop_rounds 5 ?_
  rw [rounds_succ]
  go_wp2
  rw [rounds_succ]
  go_wp2
  rw [rounds_succ]
  go_wp2
  rw [rounds_succ]
  go_wp2
  rw [rounds_succ]
  go_wp2
  go_ret2
  exact ⟨rfl, (Below.refl _ _).alloc (Nat.le_refl _) _⟩
set_option maxRecDepth 100000 in
set_option maxHeartbeats 2000000 in
theorem ref16_Num8 (v : Int) (h0 : 0 ≤ v) (h1 : v < 18446744073709551616) (w : World) : Calls Tryz.prog 157 #[.int .u64 v, .int .i64 8] w fun e w' => e = .returned (.tuple #[.string (strOfNums (lowBE v 8)), .int .i64 0]) ∧ Below w.heap.size w w' := by
  have hmk : ∀ w, (Instr.makeSlice 23 (.int .i64 8) (.int .i64 8)).run Tryz.prog w = .ok (.slice (some ⟨w.heap.size, 0, none⟩) 8 8) (w.alloc (.cells #[.int .u8 0, .int .u8 0, .int .u8 0, .int .u8 0, .int .u8 0, .int .u8 0, .int .u8 0, .int .u8 0] 5)) := fun _ => by kernel_rfl
  have hcv := conv_new w [v / 256 / 256 / 256 / 256 / 256 / 256 / 256 % 256, v / 256 / 256 / 256 / 256 / 256 / 256 % 256, v / 256 / 256 / 256 / 256 / 256 % 256, v / 256 / 256 / 256 / 256 % 256, v / 256 / 256 / 256 % 256, v / 256 / 256 % 256, v / 256 % 256, v % 256]
  simp only [List.length_cons, List.length_nil, Nat.reduceAdd, List.map_cons, List.map_nil] at hcv
  have hd : (v / 256 / 256 / 256 / 256 / 256 / 256 / 256 / 256 != 0) = false := by rw [bne_eq_false_iff_eq]; omega
  go_enter Tryz.func157, Tryz.ntmps157
  go_wp2_with fail
  refine (ref16_sized _ _).mono ?_; rintro e w' ⟨rfl, rfl⟩
  go_wp2_with fail
  refine wp_loop_rounds 9 ?_
  rw [rounds_succ]
  go_wp2
  rw [rounds_succ]
  go_wp2
  rw [rounds_succ]
  go_wp2
  rw [rounds_succ]
  go_wp2
  rw [rounds_succ]
  go_wp2
  rw [rounds_succ]
  go_wp2
  rw [rounds_succ]
  go_wp2
  rw [rounds_succ]
  go_wp2
  rw [rounds_succ]
  go_wp2
  go_ret2
  exact ⟨ret_strn (by simp only [lowBE, div_pow256, Int.pow_zero, Int.ediv_one]), (Below.refl _ _).alloc (Nat.le_refl _) _⟩

theorem ref16_Num (v n : Int) (h0 : 0 ≤ v) (h1 : v < 18446744073709551616) (w : World) : Calls Tryz.prog 157 #[.int .u64 v, .int .i64 n] w fun e w' =>
    e = .returned (.tuple #[.string (numR v n).1, .int .i64 (numR v n).2]) ∧ Below w.heap.size w w' := by
  cases hs : sizeB n with
  | false =>
    have e1 : numR v n = (⟨#[]⟩, 1) := by simp [numR, hs]
    rw [e1]
    exact (ref16_Num_arg v n hs w).mono fun e w' ⟨he, hw⟩ => ⟨he, by rw [← hw]; exact Below.refl _ _⟩
  | true =>
    rcases sizeB_cases hs with rfl | rfl | rfl | rfl
    · by_cases hv : v < 256
      · have hn : ¬ (256 : Int) ≤ v := by omega
        have e1 : numR v 1 = (strOfNums (lowBE v 1), 0) := by simp [numR, hs, hn]
        rw [e1]; exact ref16_Num1 v h0 hv w
      · have hn : (256 : Int) ≤ v := by omega
        have e1 : numR v 1 = (⟨#[]⟩, 2) := by simp [numR, hs, hn]
        rw [e1]; exact ref16_Num1_long v hn h1 w
    · by_cases hv : v < 65536
      · have hn : ¬ (65536 : Int) ≤ v := by omega
        have e1 : numR v 2 = (strOfNums (lowBE v 2), 0) := by simp [numR, hs, hn]
        rw [e1]; exact ref16_Num2 v h0 hv w
      · have hn : (65536 : Int) ≤ v := by omega
        have e1 : numR v 2 = (⟨#[]⟩, 2) := by simp [numR, hs, hn]
        rw [e1]; exact ref16_Num2_long v hn h1 w
    · by_cases hv : v < 4294967296
      · have hn : ¬ (4294967296 : Int) ≤ v := by omega
        have e1 : numR v 4 = (strOfNums (lowBE v 4), 0) := by simp [numR, hs, hn]
        rw [e1]; exact ref16_Num4 v h0 hv w
      · have hn : (4294967296 : Int) ≤ v := by omega
        have e1 : numR v 4 = (⟨#[]⟩, 2) := by simp [numR, hs, hn]
        rw [e1]; exact ref16_Num4_long v hn h1 w
    · have e1 : numR v 8 = (strOfNums (lowBE v 8), 0) := by simp [numR, hs]
      rw [e1]; exact ref16_Num8 v h0 h1 w

/-- Must: the number as uint64. -/
def mustR (v n : Int) : ByteArray := (numR (v % 18446744073709551616) n).1
theorem ref16_Must (v n : Int) (h0 : 0 ≤ v) (h1 : v < 9223372036854775808) (w : World) : Calls Tryz.prog 131 #[.int .i64 v, .int .i64 n] w fun e w' =>
    e = .returned (.string (numR v n).1) ∧ Below w.heap.size w w' := by
  have hw : IntKind.u64.wrap v = v := by rw [IntKind.wrap_u64, Int.emod_eq_of_lt h0 (by omega)]
  have Hw := Lib.hid hw; clear hw
  go_enter Tryz.func131, Tryz.ntmps131
  go_wp2_with fail
  try rw [Hw.out]
  refine (ref16_Num _ _ h0 (by omega) _).mono ?_; rintro e w1 ⟨rfl, hb1⟩
  go_wp2_with fail
  go_ret
  exact ⟨rfl, hb1⟩
/-! ### Take, Cut -/
theorem ref16_Take_bad (b : ByteArray) (a n : Int) (hb : b.size ≤ 140737488351232) (c : Int) (h : takeR b a n = (0, 0, c)) (hc : c ≠ 0) (w : World) : Calls Tryz.prog 129 #[.string b, .int .i64 a, .int .i64 n] w fun e w' =>
    e = .returned (.tuple #[.int .u64 0, .int .i64 0, .int .i64 c]) ∧ w = w' := by
  unfold takeR at h
  cases hs : sizeB n with
  | false =>
    rw [if_pos hs] at h
    obtain rfl : c = 1 := by simpa using h.symm
    clear h
    go_enter Tryz.func129, Tryz.ntmps129
    go_wp2_with fail
    refine (ref16_sized _ _).mono ?_; rintro e w' ⟨rfl, rfl⟩
    go_wp2_with fail
    go_ret3
    exact ⟨rfl, rfl⟩
  | true =>
    rw [if_neg (by simp [hs])] at h
    have hn' : (!sizeB n) = false := by rw [hs]; rfl
    clear hs
    by_cases h1 : a < 0 ∨ (b.size : Int) < a ∨ (b.size : Int) - a < n
    · rw [if_pos h1] at h
      obtain rfl : c = 11 := by simpa using h.symm
      have H := Lib.hid h1; clear h h1
      by_cases h1 : a < 0
      · go_enter Tryz.func129, Tryz.ntmps129
        go_wp2_with fail
        refine (ref16_sized _ _).mono ?_; rintro e w' ⟨rfl, rfl⟩
        go_wp2_with fail
        go_ret3
        exact ⟨rfl, rfl⟩
      · by_cases h2 : (b.size : Int) < a
        · go_enter Tryz.func129, Tryz.ntmps129
          go_wp2_with fail
          refine (ref16_sized _ _).mono ?_; rintro e w' ⟨rfl, rfl⟩
          go_wp2_with fail
          go_ret3
          exact ⟨rfl, rfl⟩
        · have h3 : (b.size : Int) - a < n := by have := H.out; omega
          go_enter Tryz.func129, Tryz.ntmps129
          go_wp2_with fail
          refine (ref16_sized _ _).mono ?_; rintro e w' ⟨rfl, rfl⟩
          go_wp2_with fail
          go_ret3
          exact ⟨rfl, rfl⟩
    · rw [if_neg h1] at h
      have := (Prod.mk.inj (Prod.mk.inj h).2).2
      exact absurd this.symm hc
theorem mul256 (x c : Int) (h0 : 0 ≤ x) (h1 : x < 72057594037927936) (h2 : 0 ≤ c) (h3 : c < 256) : IntKind.u64.wrap (IntKind.u64.wrap (x * 256) + IntKind.u64.wrap c) = x * 256 + c := by
  rw [IntKind.wrap_u64, IntKind.wrap_u64, IntKind.wrap_u64]; omega
set_option maxRecDepth 100000 in
set_option maxHeartbeats 1000000 in
theorem ref16_Take_ok (b : ByteArray) (a n : Nat) (hb : b.size ≤ 140737488351232) (hn : sizeB n = true) (h : a + n ≤ b.size) (w : World) : Calls Tryz.prog 129 #[.string b, .int .i64 a, .int .i64 n] w fun e w' =>
    e = .returned (.tuple #[.int .u64 (valBE ((b.data.toList.drop a).take n)), .int .i64 ((a : Int) + n), .int .i64 0]) ∧ w = w' := by
  have hn' : (!sizeB n) = false := by rw [hn]; rfl
  have h1 : ¬ (a : Int) < 0 := by omega
  have h2 : ¬ (b.size : Int) < (a : Int) := by omega
  have h3 : ¬ (b.size : Int) - (a : Int) < (n : Int) := by omega
  have hn8 : n ≤ 8 := by have := sizeB_cases hn; omega
  have hln : b.data.toList.length = b.size := by rw [Array.length_toList, ByteArray.size_data]
  have Hln := Lib.hid hln; clear hln
  have b1 : decide ((a : Int) < 0) = false := decide_eq_false h1
  have b2 : decide (b.size < a) = false := decide_eq_false (by omega)
  have b3 : decide ((b.size : Int) - (a : Int) < (n : Int)) = false := decide_eq_false h3
  go_enter Tryz.func129, Tryz.ntmps129
  go_wp2_with fail
  refine (ref16_sized _ _).mono ?_; rintro e w' ⟨rfl, rfl⟩
  go_wp2_with fail
  go_loop [9, 10] (fun v i => ∃ k : Nat, k ≤ n ∧ i = .int .i64 k ∧ v = .int .u64 (valBE ((b.data.toList.drop a).take k))) (fun _ i => n - (intOf i).toNat)
  case atStart => exact ⟨0, Nat.zero_le _, rfl, rfl⟩
  case round =>
    obtain ⟨k, hk, rfl, rfl⟩ := hrel
    by_cases hlt : k < n
    · have hbd := valBE_bd k ((b.data.toList.drop a).take k) (by rw [List.length_take, List.length_drop, Hln.out]; omega)
      have hp : (256 : Int) ^ k ≤ 72057594037927936 := by
        have : (256 : Nat) ^ k ≤ 256 ^ 7 := Nat.pow_le_pow_right (by decide) (by omega)
        have e : ((256 ^ k : Nat) : Int) = (256 : Int) ^ k := by simp
        omega
      have hgd : (b.data.toList.drop a).getD k 0 = b[a + k] := by
        have hq : a + k < b.data.size := by rw [ByteArray.size_data]; omega
        simp [List.getD, List.getElem?_drop, ByteArray.getElem_eq_getElem_data, Array.getElem?_eq_getElem hq]
      have hst := mul256 (valBE ((b.data.toList.drop a).take k)) (b[a + k].toNat : Int) hbd.1 (by omega) (by omega) (by have := b[a + k].toNat_lt; omega)
      have hsn := take_snocB (b.data.toList.drop a) k (by rw [List.length_drop, Hln.out]; omega)
      have HS : Hid (IntKind.u64.wrap (IntKind.u64.wrap (valBE ((b.data.toList.drop a).take k) * 256) + IntKind.u64.wrap (b[a + k].toNat : Int)) = valBE ((b.data.toList.drop a).take (k + 1))) := by rw [hsn, valBE_snoc, hgd]; exact hst
      have h5 : (a : Int) + (k : Int) < (b.size : Int) := by omega
      clear hbd hp hst hsn hgd
      go_wp2
      go_round
      case rel => exact ⟨k + 1, by omega, by go_num, by have := HS.out; simp at this ⊢; exact this⟩
      case measure => simp [intOf]; omega
    · go_wp2
      go_ret3
      obtain rfl : k = n := by omega
      exact ⟨rfl, rfl⟩
theorem ref16_Take (b : ByteArray) (a n : Int) (hb : b.size ≤ 140737488351232) (w : World) : Calls Tryz.prog 129 #[.string b, .int .i64 a, .int .i64 n] w fun e w' =>
    e = .returned (.tuple #[.int .u64 (takeR b a n).1, .int .i64 (takeR b a n).2.1, .int .i64 (takeR b a n).2.2]) ∧ w = w' := by
  by_cases h : sizeB n = false ∨ (a < 0 ∨ (b.size : Int) < a ∨ (b.size : Int) - a < n)
  · have : ∃ c, takeR b a n = (0, 0, c) ∧ c ≠ 0 := by
      unfold takeR
      by_cases hs : sizeB n = false
      · exact ⟨1, by rw [if_pos hs], by decide⟩
      · exact ⟨11, by rw [if_neg hs, if_pos (h.resolve_left hs)], by decide⟩
    obtain ⟨c, e1, hc⟩ := this
    have := ref16_Take_bad b a n hb c e1 hc w
    rw [e1]; exact this
  · have hs : sizeB n = true := by cases hx : sizeB n <;> simp_all
    have hn := sizeB_cases hs
    have h' := fun x => h (.inr x)
    obtain ⟨A, rfl⟩ := Int.eq_ofNat_of_zero_le (show 0 ≤ a by omega)
    obtain ⟨N, rfl⟩ := Int.eq_ofNat_of_zero_le (show 0 ≤ n by omega)
    have e1 : takeR b A N = (valBE ((b.data.toList.drop A).take N), (A : Int) + N, 0) := by rw [takeR, if_neg (by simp [hs]), if_neg h']; rfl
    rw [e1]
    exact ref16_Take_ok b A N hb hs (by omega) w
theorem takeR2_bad {b : ByteArray} {a : Int} (h : (takeR b a 2).2.2 ≠ 0) : takeR b a 2 = (0, 0, 11) := by
  unfold takeR at h ⊢
  have hs : sizeB 2 = true := by decide
  rw [if_neg (by simp [hs])] at h ⊢
  by_cases hc : a < 0 ∨ (b.size : Int) < a ∨ (b.size : Int) - a < 2
  · rw [if_pos hc]
  · rw [if_neg hc] at h; exact absurd rfl h
end Go.Proofs.YtdbiebnnogjccaaGreatDoor
