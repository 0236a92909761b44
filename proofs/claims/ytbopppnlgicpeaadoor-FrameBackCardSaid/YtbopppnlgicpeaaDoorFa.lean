/- Frames (layer 18): the leaves: Size, number, num, Num, and the reference's. -/
import Derived.Test.YtbopppnlgicpeaaDoorFp
import Derived.Test.YtbopppnlgicpeaaDoorRk
import Derived.Test.YtbopppnlgicpeaaDoorCt
namespace Go.Proofs.YtbopppnlgicpeaaDoor
open Go.RowKit
theorem ret_i64 {a b : Int} (h : a = b) : Ending.returned (.int .i64 a) = .returned (.int .i64 b) := by rw [h]
theorem ret_u32 {a b : Int} (h : a = b) : Ending.returned (.int .u32 a) = .returned (.int .u32 b) := by rw [h]
theorem ret_str {a b : ByteArray} (h : a = b) : Ending.returned (.string a) = .returned (.string b) := by rw [h]
theorem frame_Size (n : Int) (w : World) : Calls Tryd.prog 43 #[.int .i64 n] w fun e w' => e = .returned (.int .i64 (sizeF n)) ∧ w = w' := by
  by_cases h1 : n < 0
  · have e : sizeF n = 0 := by unfold sizeF; rw [if_pos (.inl h1)]
    rw [e]; clear e
    go_enter Tryd.func43, Tryd.ntmps43
    go_wp2_with fail
    go_ret
    exact ⟨rfl, rfl⟩
  · by_cases h2 : 2000 < n
    · have e : sizeF n = 0 := by unfold sizeF; rw [if_pos (.inr h2)]
      rw [e]; clear e
      go_enter Tryd.func43, Tryd.ntmps43
      go_wp2_with fail
      go_ret
      exact ⟨rfl, rfl⟩
    · have e : sizeF n = (n + 8 + 244 - 1) / 244 := by unfold sizeF; rw [if_neg (by omega)]; omega
      rw [e]; clear e
      have h3 : 0 ≤ n := by omega
      have h4 : n ≤ 2000 := by omega
      go_enter Tryd.func43, Tryd.ntmps43
      go_wp2_with fail
      go_ret
      exact ⟨rfl, rfl⟩
theorem ref18_Size (n : Int) (w : World) : Calls Tryd.prog 44 #[.int .i64 n] w fun e w' => e = .returned (.int .i64 (sizeF n)) ∧ w = w' := by
  by_cases h1 : n < 0
  · have e : sizeF n = 0 := by unfold sizeF; rw [if_pos (.inl h1)]
    rw [e]; clear e
    go_enter Tryd.func44, Tryd.ntmps44
    go_wp2_with fail
    go_ret
    exact ⟨rfl, rfl⟩
  · by_cases h2 : 2000 < n
    · have e : sizeF n = 0 := by unfold sizeF; rw [if_pos (.inr h2)]
      rw [e]; clear e
      go_enter Tryd.func44, Tryd.ntmps44
      go_wp2_with fail
      go_ret
      exact ⟨rfl, rfl⟩
    · have e : sizeF n = (n + 8 + 244 - 1) / 244 := by unfold sizeF; rw [if_neg (by omega)]; omega
      rw [e]; clear e
      have h3 : 0 ≤ n := by omega
      have h4 : n ≤ 2000 := by omega
      go_enter Tryd.func44, Tryd.ntmps44
      go_wp2_with fail
      go_ret
      exact ⟨rfl, rfl⟩
theorem mk_nums (n : Int) (h0 : 0 ≤ n) (h1 : n < 4294967296) : strOfNums [n % 256, n / 256 % 256, n / 65536 % 256, n / 16777216] = ofL (mkL n) := by
  have e : n / 16777216 % 256 = n / 16777216 := by omega
  rw [← e]
  refine bytes_ext ?_
  rw [ofL_list, strOfNums_data]
  simp [mkL, beBytes, lowBE]
set_option maxRecDepth 100000 in
theorem frame_number (n : Int) (h0 : 0 ≤ n) (h1 : n < 4294967296) (w : World) : Calls Tryd.prog 67 #[.int .u32 n] w fun e w' => e = .returned (.string (ofL (mkL n))) ∧ Below w.heap.size w w' := by
  have hcv := conv_new w [n % 256, n / 256 % 256, n / 65536 % 256, n / 16777216]
  simp only [List.length_cons, List.length_nil, Nat.reduceAdd, List.map_cons, List.map_nil] at hcv
  go_enter Tryd.func67, Tryd.ntmps67
  go_wp2_with fail
  go_ret
  exact ⟨ret_str (mk_nums n h0 h1), (Below.refl _ _).alloc (Nat.le_refl _) _⟩
set_option maxRecDepth 100000 in
theorem ref18_mark (n : Int) (h0 : 0 ≤ n) (h1 : n < 4294967296) (w : World) : Calls Tryd.prog 70 #[.int .u32 n] w fun e w' => e = .returned (.string (ofL (mkL n))) ∧ Below w.heap.size w w' := by
  have hcv := conv_new w [n % 256, n / 256 % 256, n / 65536 % 256, n / 16777216]
  simp only [List.length_cons, List.length_nil, Nat.reduceAdd, List.map_cons, List.map_nil] at hcv
  go_enter Tryd.func70, Tryd.ntmps70
  go_wp2_with fail
  go_ret
  exact ⟨ret_str (mk_nums n h0 h1), (Below.refl _ _).alloc (Nat.le_refl _) _⟩
theorem num_be {v : Int} {n : Nat} (hn : n = 1 ∨ n = 2 ∨ n = 4) (h0 : 0 ≤ v) (h1 : v < 256 ^ n) : numR v n = (ofL (beBytes v n), 0) := by
  have e : strOfNums (lowBE v n) = ofL (beBytes v n) := bytes_ext (by rw [strOfNums_list, ofL_list])
  unfold numR
  rcases hn with rfl | rfl | rfl <;> (rw [← e]; simp [sizeB]; omega)
/-- num(v, n), where v goes into n bytes. -/
theorem frame_num (v : Int) (n : Nat) (hn : n = 1 ∨ n = 2 ∨ n = 4) (h0 : 0 ≤ v) (h1 : v < 256 ^ n) (w : World) (he : EtIs w) : Calls Tryd.prog 64 #[.int .u64 v, .int .i64 n] w fun e w' => e = .returned (.string (ofL (beBytes v n))) ∧ Below w.heap.size w w' := by
  have hv : v < 18446744073709551616 := by rcases hn with rfl | rfl | rfl <;> omega
  have C := Lib.hid (pack_Num_eq (num_be hn h0 h1) h0 hv w he)
  clear h0 h1 hv hn he
  go_enter Tryd.func64, Tryd.ntmps64
  go_wp2_with fail
  refine C.out.mono ?_; rintro e w1 ⟨rfl, hb⟩
  go_wp2_with fail
  go_ret
  exact ⟨rfl, hb⟩
theorem frame_num4 (v : Int) (h0 : 0 ≤ v) (h1 : v < 4294967296) (w : World) (he : EtIs w) : Calls Tryd.prog 64 #[.int .u64 v, .int .i64 4] w fun e w' => e = .returned (.string (ofL (beBytes v 4))) ∧ Below w.heap.size w w' :=
  frame_num v 4 (.inr (.inr rfl)) h0 (by omega) w he
theorem frame_num2 (v : Int) (h0 : 0 ≤ v) (h1 : v < 65536) (w : World) (he : EtIs w) : Calls Tryd.prog 64 #[.int .u64 v, .int .i64 2] w fun e w' => e = .returned (.string (ofL (beBytes v 2))) ∧ Below w.heap.size w w' :=
  frame_num v 2 (.inr (.inl rfl)) h0 (by omega) w he
theorem TblIs.below {w w' : World} (h : TblIs w) (hb : Below w.heap.size w w') : TblIs w' := by
  refine ⟨Nat.lt_of_lt_of_le h.1 hb.size, fun i hi => ?_⟩
  have hlt : 5 < w.heap.size := by
    have := h.2 i hi
    exact World.block_lt_of_cell? w ⟨5, i, none⟩ this
  rw [hb.cell (p := ⟨5, i, none⟩) hlt]; exact h.2 i hi
end Go.Proofs.YtbopppnlgicpeaaDoor
