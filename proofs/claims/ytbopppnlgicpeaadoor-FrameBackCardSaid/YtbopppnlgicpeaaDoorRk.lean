/- The walks of pannierref16: the same answers as package pack's. -/
import Derived.Test.YtbopppnlgicpeaaDoorPkc
namespace Go.Proofs.YtbopppnlgicpeaaDoor
open Go.RowKit

theorem ref16_sized (n : Int) (w : World) : Calls Tryd.prog 100 #[.int .i64 n] w fun e w' => e = .returned (.bool (sizeB n)) ∧ w = w' := by
  go_enter Tryd.func100, Tryd.ntmps100
  go_wp2
  all_goals (go_ret; exact ⟨by simp [sizeB, *], rfl⟩)
theorem ref16_Num_arg (v n : Int) (hn : sizeB n = false) (w : World) : Calls Tryd.prog 83 #[.int .u64 v, .int .i64 n] w fun e w' =>
    e = .returned (.tuple #[.string ⟨#[]⟩, .int .i64 1]) ∧ w = w' := by
  go_enter Tryd.func83, Tryd.ntmps83
  go_wp2_with fail
  refine (ref16_sized _ _).mono ?_; rintro e w' ⟨rfl, rfl⟩
  go_wp2_with fail
  go_ret2
  exact ⟨rfl, rfl⟩
theorem div_pow256 (v : Int) (k : Nat) : v / 256 ^ (k + 1) = v / 256 ^ k / 256 := by
  rw [Int.pow_succ, ← Int.ediv_ediv_of_nonneg (Int.pow_nonneg (by decide))]
theorem ret_strn {xs ys : List Int} {c : Int} (h : xs = ys) : Ending.returned (.tuple #[.string (strOfNums xs), .int .i64 c]) = .returned (.tuple #[.string (strOfNums ys), .int .i64 c]) := by rw [h]

set_option maxRecDepth 100000 in
set_option maxHeartbeats 2000000 in
theorem ref16_Num1 (v : Int) (h0 : 0 ≤ v) (h1 : v < 256) (w : World) : Calls Tryd.prog 83 #[.int .u64 v, .int .i64 1] w fun e w' => e = .returned (.tuple #[.string (strOfNums (lowBE v 1)), .int .i64 0]) ∧ Below w.heap.size w w' := by
  have hmk : ∀ w, (Instr.makeSlice 22 (.int .i64 1) (.int .i64 1)).run Tryd.prog w = .ok (.slice (some ⟨w.heap.size, 0, none⟩) 1 1) (w.alloc (.cells #[.int .u8 0] 5)) := fun _ => by kernel_rfl
  have hcv := conv_new w [v % 256]
  simp only [List.length_cons, List.length_nil, Nat.reduceAdd, List.map_cons, List.map_nil] at hcv
  have hd : (v / 256 != 0) = false := by rw [bne_eq_false_iff_eq]; omega
  go_enter Tryd.func83, Tryd.ntmps83
  go_wp2_with fail
  refine (ref16_sized _ _).mono ?_; rintro e w' ⟨rfl, rfl⟩
  go_wp2_with fail
  refine wp_loop_rounds 2 ?_
  rw [rounds_succ]
  go_wp2
  rw [rounds_succ]
  go_wp2
  go_ret2
  exact ⟨ret_strn (by simp only [lowBE, Int.pow_zero, Int.ediv_one]), (Below.refl _ _).alloc (Nat.le_refl _) _⟩
set_option maxRecDepth 100000 in
set_option maxHeartbeats 2000000 in
theorem ref16_Num1_long (v : Int) (h1 : 256 ≤ v) (h2 : v < 18446744073709551616) (w : World) : Calls Tryd.prog 83 #[.int .u64 v, .int .i64 1] w fun e w' => e = .returned (.tuple #[.string ⟨#[]⟩, .int .i64 2]) ∧ Below w.heap.size w w' := by
  have hmk : ∀ w, (Instr.makeSlice 22 (.int .i64 1) (.int .i64 1)).run Tryd.prog w = .ok (.slice (some ⟨w.heap.size, 0, none⟩) 1 1) (w.alloc (.cells #[.int .u8 0] 5)) := fun _ => by kernel_rfl
  have hd : (v / 256 != 0) = true := by rw [bne_iff_ne]; omega
  go_enter Tryd.func83, Tryd.ntmps83
  go_wp2_with fail
  refine (ref16_sized _ _).mono ?_; rintro e w' ⟨rfl, rfl⟩
  go_wp2_with fail
  refine wp_loop_rounds 2 ?_
  rw [rounds_succ]
  go_wp2
  rw [rounds_succ]
  go_wp2
  go_ret2
  exact ⟨rfl, (Below.refl _ _).alloc (Nat.le_refl _) _⟩
set_option maxRecDepth 100000 in
set_option maxHeartbeats 2000000 in
theorem ref16_Num2 (v : Int) (h0 : 0 ≤ v) (h1 : v < 65536) (w : World) : Calls Tryd.prog 83 #[.int .u64 v, .int .i64 2] w fun e w' => e = .returned (.tuple #[.string (strOfNums (lowBE v 2)), .int .i64 0]) ∧ Below w.heap.size w w' := by
  have hmk : ∀ w, (Instr.makeSlice 22 (.int .i64 2) (.int .i64 2)).run Tryd.prog w = .ok (.slice (some ⟨w.heap.size, 0, none⟩) 2 2) (w.alloc (.cells #[.int .u8 0, .int .u8 0] 5)) := fun _ => by kernel_rfl
  have hcv := conv_new w [v / 256 % 256, v % 256]
  simp only [List.length_cons, List.length_nil, Nat.reduceAdd, List.map_cons, List.map_nil] at hcv
  have hd : (v / 256 / 256 != 0) = false := by rw [bne_eq_false_iff_eq]; omega
  go_enter Tryd.func83, Tryd.ntmps83
  go_wp2_with fail
  refine (ref16_sized _ _).mono ?_; rintro e w' ⟨rfl, rfl⟩
  go_wp2_with fail
  refine wp_loop_rounds 3 ?_
  rw [rounds_succ]
  go_wp2
  rw [rounds_succ]
  go_wp2
  rw [rounds_succ]
  go_wp2
  go_ret2
  exact ⟨ret_strn (by simp only [lowBE, div_pow256, Int.pow_zero, Int.ediv_one]), (Below.refl _ _).alloc (Nat.le_refl _) _⟩
set_option maxRecDepth 100000 in
set_option maxHeartbeats 2000000 in
theorem ref16_Num2_long (v : Int) (h1 : 65536 ≤ v) (h2 : v < 18446744073709551616) (w : World) : Calls Tryd.prog 83 #[.int .u64 v, .int .i64 2] w fun e w' => e = .returned (.tuple #[.string ⟨#[]⟩, .int .i64 2]) ∧ Below w.heap.size w w' := by
  have hmk : ∀ w, (Instr.makeSlice 22 (.int .i64 2) (.int .i64 2)).run Tryd.prog w = .ok (.slice (some ⟨w.heap.size, 0, none⟩) 2 2) (w.alloc (.cells #[.int .u8 0, .int .u8 0] 5)) := fun _ => by kernel_rfl
  have hd : (v / 256 / 256 != 0) = true := by rw [bne_iff_ne]; omega
  go_enter Tryd.func83, Tryd.ntmps83
  go_wp2_with fail
  refine (ref16_sized _ _).mono ?_; rintro e w' ⟨rfl, rfl⟩
  go_wp2_with fail
  refine wp_loop_rounds 3 ?_
  rw [rounds_succ]
  go_wp2
  rw [rounds_succ]
  go_wp2
  rw [rounds_succ]
  go_wp2
  go_ret2
  exact ⟨rfl, (Below.refl _ _).alloc (Nat.le_refl _) _⟩
set_option maxRecDepth 100000 in
set_option maxHeartbeats 2000000 in
theorem ref16_Num4 (v : Int) (h0 : 0 ≤ v) (h1 : v < 4294967296) (w : World) : Calls Tryd.prog 83 #[.int .u64 v, .int .i64 4] w fun e w' => e = .returned (.tuple #[.string (strOfNums (lowBE v 4)), .int .i64 0]) ∧ Below w.heap.size w w' := by
  have hmk : ∀ w, (Instr.makeSlice 22 (.int .i64 4) (.int .i64 4)).run Tryd.prog w = .ok (.slice (some ⟨w.heap.size, 0, none⟩) 4 4) (w.alloc (.cells #[.int .u8 0, .int .u8 0, .int .u8 0, .int .u8 0] 5)) := fun _ => by kernel_rfl
  have hcv := conv_new w [v / 256 / 256 / 256 % 256, v / 256 / 256 % 256, v / 256 % 256, v % 256]
  simp only [List.length_cons, List.length_nil, Nat.reduceAdd, List.map_cons, List.map_nil] at hcv
  have hd : (v / 256 / 256 / 256 / 256 != 0) = false := by rw [bne_eq_false_iff_eq]; omega
  go_enter Tryd.func83, Tryd.ntmps83
  go_wp2_with fail
  refine (ref16_sized _ _).mono ?_; rintro e w' ⟨rfl, rfl⟩
  go_wp2_with fail
  refine wp_loop_rounds 5 ?_
  rw [rounds_succ]
  go_wp2
  rw [rounds_succ]
  go_wp2
  rw [rounds_succ]
  go_wp2
  rw [rounds_succ]
  go_wp2
  rw [rounds_succ]
  go_wp2
  go_ret2
  exact ⟨ret_strn (by simp only [lowBE, div_pow256, Int.pow_zero, Int.ediv_one]), (Below.refl _ _).alloc (Nat.le_refl _) _⟩
set_option maxRecDepth 100000 in
set_option maxHeartbeats 2000000 in
theorem ref16_Num4_long (v : Int) (h1 : 4294967296 ≤ v) (h2 : v < 18446744073709551616) (w : World) : Calls Tryd.prog 83 #[.int .u64 v, .int .i64 4] w fun e w' => e = .returned (.tuple #[.string ⟨#[]⟩, .int .i64 2]) ∧ Below w.heap.size w w' := by
  have hmk : ∀ w, (Instr.makeSlice 22 (.int .i64 4) (.int .i64 4)).run Tryd.prog w = .ok (.slice (some ⟨w.heap.size, 0, none⟩) 4 4) (w.alloc (.cells #[.int .u8 0, .int .u8 0, .int .u8 0, .int .u8 0] 5)) := fun _ => by kernel_rfl
  have hd : (v / 256 / 256 / 256 / 256 != 0) = true := by rw [bne_iff_ne]; omega
  go_enter Tryd.func83, Tryd.ntmps83
  go_wp2_with fail
  refine (ref16_sized _ _).mono ?_; rintro e w' ⟨rfl, rfl⟩
  go_wp2_with fail
  refine wp_loop_rounds 5 ?_
  rw [rounds_succ]
  go_wp2
  rw [rounds_succ]
  go_wp2
  rw [rounds_succ]
  go_wp2
  rw [rounds_succ]
  go_wp2
  rw [rounds_succ]
  go_wp2
  go_ret2
  exact ⟨rfl, (Below.refl _ _).alloc (Nat.le_refl _) _⟩
set_option maxRecDepth 100000 in
set_option maxHeartbeats 2000000 in
theorem ref16_Num8 (v : Int) (h0 : 0 ≤ v) (h1 : v < 18446744073709551616) (w : World) : Calls Tryd.prog 83 #[.int .u64 v, .int .i64 8] w fun e w' => e = .returned (.tuple #[.string (strOfNums (lowBE v 8)), .int .i64 0]) ∧ Below w.heap.size w w' := by
  have hmk : ∀ w, (Instr.makeSlice 22 (.int .i64 8) (.int .i64 8)).run Tryd.prog w = .ok (.slice (some ⟨w.heap.size, 0, none⟩) 8 8) (w.alloc (.cells #[.int .u8 0, .int .u8 0, .int .u8 0, .int .u8 0, .int .u8 0, .int .u8 0, .int .u8 0, .int .u8 0] 5)) := fun _ => by kernel_rfl
  have hcv := conv_new w [v / 256 / 256 / 256 / 256 / 256 / 256 / 256 % 256, v / 256 / 256 / 256 / 256 / 256 / 256 % 256, v / 256 / 256 / 256 / 256 / 256 % 256, v / 256 / 256 / 256 / 256 % 256, v / 256 / 256 / 256 % 256, v / 256 / 256 % 256, v / 256 % 256, v % 256]
  simp only [List.length_cons, List.length_nil, Nat.reduceAdd, List.map_cons, List.map_nil] at hcv
  have hd : (v / 256 / 256 / 256 / 256 / 256 / 256 / 256 / 256 != 0) = false := by rw [bne_eq_false_iff_eq]; omega
  go_enter Tryd.func83, Tryd.ntmps83
  go_wp2_with fail
  refine (ref16_sized _ _).mono ?_; rintro e w' ⟨rfl, rfl⟩
  go_wp2_with fail
  refine wp_loop_rounds 9 ?_
  rw [rounds_succ]
  go_wp2
  rw [rounds_succ]
  go_wp2
  rw [rounds_succ]
  go_wp2
  rw [rounds_succ]
  go_wp2
  rw [rounds_succ]
  go_wp2
  rw [rounds_succ]
  go_wp2
  rw [rounds_succ]
  go_wp2
  rw [rounds_succ]
  go_wp2
  rw [rounds_succ]
  go_wp2
  go_ret2
  exact ⟨ret_strn (by simp only [lowBE, div_pow256, Int.pow_zero, Int.ediv_one]), (Below.refl _ _).alloc (Nat.le_refl _) _⟩

theorem ref16_Num (v n : Int) (h0 : 0 ≤ v) (h1 : v < 18446744073709551616) (w : World) : Calls Tryd.prog 83 #[.int .u64 v, .int .i64 n] w fun e w' =>
    e = .returned (.tuple #[.string (numR v n).1, .int .i64 (numR v n).2]) ∧ Below w.heap.size w w' := by
  cases hs : sizeB n with
  | false =>
    have e1 : numR v n = (⟨#[]⟩, 1) := by simp [numR, hs]
    rw [e1]
    exact (ref16_Num_arg v n hs w).mono fun e w' ⟨he, hw⟩ => ⟨he, by rw [← hw]; exact Below.refl _ _⟩
  | true =>
    rcases sizeB_cases hs with rfl | rfl | rfl | rfl
    · by_cases hv : v < 256
      · have hn : ¬ (256 : Int) ≤ v := by omega
        have e1 : numR v 1 = (strOfNums (lowBE v 1), 0) := by simp [numR, hs, hn]
        rw [e1]; exact ref16_Num1 v h0 hv w
      · have hn : (256 : Int) ≤ v := by omega
        have e1 : numR v 1 = (⟨#[]⟩, 2) := by simp [numR, hs, hn]
        rw [e1]; exact ref16_Num1_long v hn h1 w
    · by_cases hv : v < 65536
      · have hn : ¬ (65536 : Int) ≤ v := by omega
        have e1 : numR v 2 = (strOfNums (lowBE v 2), 0) := by simp [numR, hs, hn]
        rw [e1]; exact ref16_Num2 v h0 hv w
      · have hn : (65536 : Int) ≤ v := by omega
        have e1 : numR v 2 = (⟨#[]⟩, 2) := by simp [numR, hs, hn]
        rw [e1]; exact ref16_Num2_long v hn h1 w
    · by_cases hv : v < 4294967296
      · have hn : ¬ (4294967296 : Int) ≤ v := by omega
        have e1 : numR v 4 = (strOfNums (lowBE v 4), 0) := by simp [numR, hs, hn]
        rw [e1]; exact ref16_Num4 v h0 hv w
      · have hn : (4294967296 : Int) ≤ v := by omega
        have e1 : numR v 4 = (⟨#[]⟩, 2) := by simp [numR, hs, hn]
        rw [e1]; exact ref16_Num4_long v hn h1 w
    · have e1 : numR v 8 = (strOfNums (lowBE v 8), 0) := by simp [numR, hs]
      rw [e1]; exact ref16_Num8 v h0 h1 w

/-- Must: the number as uint64. -/
def mustR (v n : Int) : ByteArray := (numR (v % 18446744073709551616) n).1
theorem ref16_Must (v n : Int) (h0 : 0 ≤ v) (h1 : v < 9223372036854775808) (w : World) : Calls Tryd.prog 68 #[.int .i64 v, .int .i64 n] w fun e w' =>
    e = .returned (.string (numR v n).1) ∧ Below w.heap.size w w' := by
  have hw : IntKind.u64.wrap v = v := by rw [IntKind.wrap_u64, Int.emod_eq_of_lt h0 (by omega)]
  have Hw := Lib.hid hw; clear hw
  go_enter Tryd.func68, Tryd.ntmps68
  go_wp2_with fail
  try rw [Hw.out]
  refine (ref16_Num _ _ h0 (by omega) _).mono ?_; rintro e w1 ⟨rfl, hb1⟩
  go_wp2_with fail
  go_ret
  exact ⟨rfl, hb1⟩
/-! ### Take, Cut -/
theorem mul256 (x c : Int) (h0 : 0 ≤ x) (h1 : x < 72057594037927936) (h2 : 0 ≤ c) (h3 : c < 256) : IntKind.u64.wrap (IntKind.u64.wrap (x * 256) + IntKind.u64.wrap c) = x * 256 + c := by
  rw [IntKind.wrap_u64, IntKind.wrap_u64, IntKind.wrap_u64]; omega
theorem takeR2_bad {b : ByteArray} {a : Int} (h : (takeR b a 2).2.2 ≠ 0) : takeR b a 2 = (0, 0, 11) := by
  unfold takeR at h ⊢
  have hs : sizeB 2 = true := by decide
  rw [if_neg (by simp [hs])] at h ⊢
  by_cases hc : a < 0 ∨ (b.size : Int) < a ∨ (b.size : Int) - a < 2
  · rw [if_pos hc]
  · rw [if_neg hc] at h; exact absurd rfl h
end Go.Proofs.YtbopppnlgicpeaaDoor
