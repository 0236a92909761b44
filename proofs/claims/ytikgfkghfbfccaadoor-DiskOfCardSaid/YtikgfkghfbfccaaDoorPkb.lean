/- The walks of package pack: numbers and texts. -/
import Derived.Test.YtikgfkghfbfccaaDoorPk
namespace Go.Proofs.YtikgfkghfbfccaaDoor
open Go.RowKit

/-! ### numbers as bytes -/
theorem conv_new (w : World) (xs : List Int) : (convert 41 9 (.slice (some ⟨w.heap.size, 0, none⟩) xs.length xs.length)).run Tryd.prog (w.alloc (.cells (xs.map (Value.int .u8)).toArray 5)) = .ok (.string (strOfNums xs)) (w.alloc (.cells (xs.map (Value.int .u8)).toArray 5)) :=
  run_convert_bytes_arg _ 41 5 Tryd.underlying41 Tryd.underlying5 w.heap.size 0 xs.length xs.length xs rfl (fun i hi => by
    rw [Nat.zero_add, World.cell?_alloc_new]; simp [hi]) 9 Tryd.underlying9

theorem ret_str2 {xs ys : List Int} (h : xs = ys) : Ending.returned (.tuple #[.string (strOfNums xs), .nilIface]) = .returned (.tuple #[.string (strOfNums ys), .nilIface]) := by rw [h]
set_option maxRecDepth 100000 in
set_option maxHeartbeats 2000000 in
theorem pack_num1 (v : Int) (h0 : 0 ≤ v) (h1 : v < 256) (w : World) : Calls Tryd.prog 102 #[.int .u64 v, .int .i64 1] w fun e w' => e = .returned (.tuple #[.string (strOfNums (lowBE v 1)), .nilIface]) ∧ Below w.heap.size w w' := by
  have hmk : ∀ w, (Instr.makeSlice 41 (.int .i64 1) (.int .i64 1)).run Tryd.prog w = .ok (.slice (some ⟨w.heap.size, 0, none⟩) 1 1) (w.alloc (.cells #[.int .u8 0] 5)) := fun _ => by kernel_rfl
  have hcv := conv_new w [v]
  simp only [List.length_cons, List.length_nil, Nat.reduceAdd, List.map_cons, List.map_nil] at hcv
  go_enter Tryd.func102, Tryd.ntmps102
  go_wp2_with fail
  refine (pack_size _ _).mono ?_; rintro e w' ⟨rfl, rfl⟩
  go_wp2_with fail
  refine wp_loop_rounds 2 ?_
  rw [rounds_succ]
  go_wp2
  rw [rounds_succ]
  go_wp2
  go_ret2
  exact ⟨ret_str2 (by simp only [lowBE, Int.pow_zero, Int.ediv_one]; first | rfl | (congr 1; omega)), (Below.refl _ _).alloc (Nat.le_refl _) _⟩
set_option maxRecDepth 100000 in
set_option maxHeartbeats 2000000 in
theorem pack_num2 (v : Int) (h0 : 0 ≤ v) (h1 : v < 65536) (w : World) : Calls Tryd.prog 102 #[.int .u64 v, .int .i64 2] w fun e w' => e = .returned (.tuple #[.string (strOfNums (lowBE v 2)), .nilIface]) ∧ Below w.heap.size w w' := by
  have hmk : ∀ w, (Instr.makeSlice 41 (.int .i64 2) (.int .i64 2)).run Tryd.prog w = .ok (.slice (some ⟨w.heap.size, 0, none⟩) 2 2) (w.alloc (.cells #[.int .u8 0, .int .u8 0] 5)) := fun _ => by kernel_rfl
  have hcv := conv_new w [v / 256, v % 256]
  simp only [List.length_cons, List.length_nil, Nat.reduceAdd, List.map_cons, List.map_nil] at hcv
  go_enter Tryd.func102, Tryd.ntmps102
  go_wp2_with fail
  refine (pack_size _ _).mono ?_; rintro e w' ⟨rfl, rfl⟩
  go_wp2_with fail
  refine wp_loop_rounds 3 ?_
  rw [rounds_succ]
  go_wp2
  rw [rounds_succ]
  go_wp2
  rw [rounds_succ]
  go_wp2
  go_ret2
  exact ⟨ret_str2 (by simp only [lowBE, Int.pow_zero, Int.ediv_one]; first | rfl | (congr 1; omega)), (Below.refl _ _).alloc (Nat.le_refl _) _⟩
set_option maxRecDepth 100000 in
set_option maxHeartbeats 2000000 in
theorem pack_num4 (v : Int) (h0 : 0 ≤ v) (h1 : v < 4294967296) (w : World) : Calls Tryd.prog 102 #[.int .u64 v, .int .i64 4] w fun e w' => e = .returned (.tuple #[.string (strOfNums (lowBE v 4)), .nilIface]) ∧ Below w.heap.size w w' := by
  have hmk : ∀ w, (Instr.makeSlice 41 (.int .i64 4) (.int .i64 4)).run Tryd.prog w = .ok (.slice (some ⟨w.heap.size, 0, none⟩) 4 4) (w.alloc (.cells #[.int .u8 0, .int .u8 0, .int .u8 0, .int .u8 0] 5)) := fun _ => by kernel_rfl
  have hcv := conv_new w [v / 16777216, v / 65536 % 256, v / 256 % 256, v % 256]
  simp only [List.length_cons, List.length_nil, Nat.reduceAdd, List.map_cons, List.map_nil] at hcv
  go_enter Tryd.func102, Tryd.ntmps102
  go_wp2_with fail
  refine (pack_size _ _).mono ?_; rintro e w' ⟨rfl, rfl⟩
  go_wp2_with fail
  refine wp_loop_rounds 5 ?_
  rw [rounds_succ]
  go_wp2
  rw [rounds_succ]
  go_wp2
  rw [rounds_succ]
  go_wp2
  rw [rounds_succ]
  go_wp2
  rw [rounds_succ]
  go_wp2
  go_ret2
  exact ⟨ret_str2 (by simp only [lowBE, Int.pow_zero, Int.ediv_one]; first | rfl | (congr 1; omega)), (Below.refl _ _).alloc (Nat.le_refl _) _⟩
set_option maxRecDepth 100000 in
set_option maxHeartbeats 2000000 in
theorem pack_num8 (v : Int) (h0 : 0 ≤ v) (h1 : v < 18446744073709551616) (w : World) : Calls Tryd.prog 102 #[.int .u64 v, .int .i64 8] w fun e w' => e = .returned (.tuple #[.string (strOfNums (lowBE v 8)), .nilIface]) ∧ Below w.heap.size w w' := by
  have hmk : ∀ w, (Instr.makeSlice 41 (.int .i64 8) (.int .i64 8)).run Tryd.prog w = .ok (.slice (some ⟨w.heap.size, 0, none⟩) 8 8) (w.alloc (.cells #[.int .u8 0, .int .u8 0, .int .u8 0, .int .u8 0, .int .u8 0, .int .u8 0, .int .u8 0, .int .u8 0] 5)) := fun _ => by kernel_rfl
  have hcv := conv_new w [v / 72057594037927936, v / 281474976710656 % 256, v / 1099511627776 % 256, v / 4294967296 % 256, v / 16777216 % 256, v / 65536 % 256, v / 256 % 256, v % 256]
  simp only [List.length_cons, List.length_nil, Nat.reduceAdd, List.map_cons, List.map_nil] at hcv
  go_enter Tryd.func102, Tryd.ntmps102
  go_wp2_with fail
  refine (pack_size _ _).mono ?_; rintro e w' ⟨rfl, rfl⟩
  go_wp2_with fail
  refine wp_loop_rounds 9 ?_
  rw [rounds_succ]
  go_wp2
  rw [rounds_succ]
  go_wp2
  rw [rounds_succ]
  go_wp2
  rw [rounds_succ]
  go_wp2
  rw [rounds_succ]
  go_wp2
  rw [rounds_succ]
  go_wp2
  rw [rounds_succ]
  go_wp2
  rw [rounds_succ]
  go_wp2
  rw [rounds_succ]
  go_wp2
  go_ret2
  exact ⟨ret_str2 (by simp only [lowBE, Int.pow_zero, Int.ediv_one]; first | rfl | (congr 1; omega)), (Below.refl _ _).alloc (Nat.le_refl _) _⟩

/-! ### errors as codes -/
/-- The error value ev has the code c in w. -/
def ErrIs (w : World) (ev : Value) (c : Int) : Prop :=
  (c = 0 ∧ ev = .nilIface) ∨ (c ≠ 0 ∧ ∃ b : Nat, ev = .iface 205 (.pointer (some ⟨b, 0, none⟩)) ∧ b < w.heap.size ∧ w.cell? ⟨b, 1, none⟩ = some (.int .i64 c))
theorem ErrIs.nil (w : World) : ErrIs w .nilIface 0 := .inl ⟨rfl, rfl⟩
theorem ErrIs.new (w : World) (a c : Int) (hc : c ≠ 0) : ErrIs (w.alloc (.cells #[.int .i64 a, .int .i64 c] 208)) (.iface 205 (.pointer (some ⟨w.heap.size, 0, none⟩))) c :=
  .inr ⟨hc, w.heap.size, rfl, by simp, by simp⟩
theorem below_alloc1 (w : World) (o : Obj) : Below w.heap.size w (w.alloc o) := (Below.refl _ _).alloc (Nat.le_refl _) _

theorem told_any (ev : Value) (c : Int) (w : World) (he : EtIs w) (h : ErrIs w ev c) :
    Calls Tryd.prog 103 #[ev] w fun e w' => e = .returned (.int .i64 c) ∧ Below w.heap.size w w' := by
  rcases h with ⟨rfl, rfl⟩ | ⟨hc, b, rfl, hb, hx⟩
  · exact told_nil w
  · exact told_hit b c w he hb hx

/-! ### Num -/
theorem pack_num_arg (v n : Int) (hn : sizeB n = false) (w : World) : Calls Tryd.prog 102 #[.int .u64 v, .int .i64 n] w fun e w' =>
    e = .returned (.tuple #[.string ⟨#[]⟩, .iface 205 (.pointer (some ⟨w.heap.size, 0, none⟩))]) ∧ w.alloc (.cells #[.int .i64 0, .int .i64 1] 208) = w' := by
  go_enter Tryd.func102, Tryd.ntmps102
  go_wp2_with fail
  refine (pack_size _ _).mono ?_; rintro e w' ⟨rfl, rfl⟩
  go_wp2_with fail
  refine (pack_fail _ _ _).mono ?_; rintro e w' ⟨rfl, rfl⟩
  go_wp2_with fail
  go_ret2
  exact ⟨rfl, rfl⟩
theorem pack_num1_long (v : Int) (h1 : 256 ≤ v) (w : World) : Calls Tryd.prog 102 #[.int .u64 v, .int .i64 1] w fun e w' =>
    e = .returned (.tuple #[.string ⟨#[]⟩, .iface 205 (.pointer (some ⟨w.heap.size, 0, none⟩))]) ∧ w.alloc (.cells #[.int .i64 0, .int .i64 2] 208) = w' := by
  have hd : (v / 256 != 0) = true := by rw [bne_iff_ne]; omega
  have hz : (!sizeB 1) = false := by decide
  go_enter Tryd.func102, Tryd.ntmps102
  go_wp2_with fail
  refine (pack_size _ _).mono ?_; rintro e w' ⟨rfl, rfl⟩
  go_wp2_with fail
  refine (pack_fail _ _ _).mono ?_; rintro e w' ⟨rfl, rfl⟩
  go_wp2_with fail
  go_ret2
  exact ⟨rfl, rfl⟩
theorem pack_num2_long (v : Int) (h1 : 65536 ≤ v) (w : World) : Calls Tryd.prog 102 #[.int .u64 v, .int .i64 2] w fun e w' =>
    e = .returned (.tuple #[.string ⟨#[]⟩, .iface 205 (.pointer (some ⟨w.heap.size, 0, none⟩))]) ∧ w.alloc (.cells #[.int .i64 0, .int .i64 2] 208) = w' := by
  have hd : (v / 65536 != 0) = true := by rw [bne_iff_ne]; omega
  have hz : (!sizeB 2) = false := by decide
  go_enter Tryd.func102, Tryd.ntmps102
  go_wp2_with fail
  refine (pack_size _ _).mono ?_; rintro e w' ⟨rfl, rfl⟩
  go_wp2_with fail
  refine (pack_fail _ _ _).mono ?_; rintro e w' ⟨rfl, rfl⟩
  go_wp2_with fail
  go_ret2
  exact ⟨rfl, rfl⟩
theorem pack_num4_long (v : Int) (h1 : 4294967296 ≤ v) (w : World) : Calls Tryd.prog 102 #[.int .u64 v, .int .i64 4] w fun e w' =>
    e = .returned (.tuple #[.string ⟨#[]⟩, .iface 205 (.pointer (some ⟨w.heap.size, 0, none⟩))]) ∧ w.alloc (.cells #[.int .i64 0, .int .i64 2] 208) = w' := by
  have hd : (v / 4294967296 != 0) = true := by rw [bne_iff_ne]; omega
  have hz : (!sizeB 4) = false := by decide
  go_enter Tryd.func102, Tryd.ntmps102
  go_wp2_with fail
  refine (pack_size _ _).mono ?_; rintro e w' ⟨rfl, rfl⟩
  go_wp2_with fail
  refine (pack_fail _ _ _).mono ?_; rintro e w' ⟨rfl, rfl⟩
  go_wp2_with fail
  go_ret2
  exact ⟨rfl, rfl⟩
theorem pack_num (v n : Int) (h0 : 0 ≤ v) (h1 : v < 18446744073709551616) (w : World) : Calls Tryd.prog 102 #[.int .u64 v, .int .i64 n] w fun e w' =>
    ∃ ev, e = .returned (.tuple #[.string (numR v n).1, ev]) ∧ ErrIs w' ev (numR v n).2 ∧ Below w.heap.size w w' := by
  have ok : ∀ k : Nat, numR v n = (strOfNums (lowBE v k), 0) → (Calls Tryd.prog 102 #[.int .u64 v, .int .i64 n] w fun e w' => e = .returned (.tuple #[.string (strOfNums (lowBE v k)), .nilIface]) ∧ Below w.heap.size w w') → Calls Tryd.prog 102 #[.int .u64 v, .int .i64 n] w fun e w' =>
    ∃ ev, e = .returned (.tuple #[.string (numR v n).1, ev]) ∧ ErrIs w' ev (numR v n).2 ∧ Below w.heap.size w w' :=
    fun k hk h => h.mono fun e w' ⟨he, hb⟩ => ⟨_, by rw [hk]; exact he, by rw [hk]; exact ErrIs.nil _, hb⟩
  have bad : ∀ c : Int, c ≠ 0 → numR v n = (⟨#[]⟩, c) → (Calls Tryd.prog 102 #[.int .u64 v, .int .i64 n] w fun e w' => e = .returned (.tuple #[.string ⟨#[]⟩, .iface 205 (.pointer (some ⟨w.heap.size, 0, none⟩))]) ∧ w.alloc (.cells #[.int .i64 0, .int .i64 c] 208) = w') → Calls Tryd.prog 102 #[.int .u64 v, .int .i64 n] w fun e w' =>
    ∃ ev, e = .returned (.tuple #[.string (numR v n).1, ev]) ∧ ErrIs w' ev (numR v n).2 ∧ Below w.heap.size w w' :=
    fun c hc hk h => h.mono fun e w' ⟨he, hb⟩ => ⟨_, by rw [hk]; exact he, by rw [hk, ← hb]; exact ErrIs.new _ _ _ hc, by rw [← hb]; exact below_alloc1 _ _⟩
  cases hs : sizeB n with
  | false => exact bad 1 (by decide) (by simp [numR, hs]) (pack_num_arg v n hs w)
  | true =>
    rcases sizeB_cases hs with rfl | rfl | rfl | rfl
    · by_cases hv : v < 256
      · have hn : ¬ (256 : Int) ≤ v := by omega
        exact ok 1 (by simp [numR, hs, hn]) (pack_num1 v h0 hv w)
      · have hn : (256 : Int) ≤ v := by omega
        exact bad 2 (by decide) (by simp [numR, hs, hn]) (pack_num1_long v hn w)
    · by_cases hv : v < 65536
      · have hn : ¬ (65536 : Int) ≤ v := by omega
        exact ok 2 (by simp [numR, hs, hn]) (pack_num2 v h0 hv w)
      · have hn : (65536 : Int) ≤ v := by omega
        exact bad 2 (by decide) (by simp [numR, hs, hn]) (pack_num2_long v hn w)
    · by_cases hv : v < 4294967296
      · have hn : ¬ (4294967296 : Int) ≤ v := by omega
        exact ok 4 (by simp [numR, hs, hn]) (pack_num4 v h0 hv w)
      · have hn : (4294967296 : Int) ≤ v := by omega
        exact bad 2 (by decide) (by simp [numR, hs, hn]) (pack_num4_long v hn w)
    · exact ok 8 (by simp [numR, hs]) (pack_num8 v h0 h1 w)
theorem pack_Num (v n : Int) (h0 : 0 ≤ v) (h1 : v < 18446744073709551616) (w : World) (he : EtIs w) : Calls Tryd.prog 85 #[.int .u64 v, .int .i64 n] w fun e w' =>
    e = .returned (.tuple #[.string (numR v n).1, .int .i64 (numR v n).2]) ∧ Below w.heap.size w w' := by
  go_enter Tryd.func85, Tryd.ntmps85
  go_wp2_with fail
  refine (pack_num _ _ h0 h1 _).mono ?_; rintro e w1 ⟨ev, rfl, hev, hb⟩
  go_wp2_with fail
  refine (told_any _ _ _ (he.below hb) hev).mono ?_; rintro e w2 ⟨rfl, hb2⟩
  go_wp2_with fail
  go_ret2
  exact ⟨rfl, hb.trans (hb2.mono hb.size)⟩

/-! ### Text -/
end Go.Proofs.YtikgfkghfbfccaaDoor
