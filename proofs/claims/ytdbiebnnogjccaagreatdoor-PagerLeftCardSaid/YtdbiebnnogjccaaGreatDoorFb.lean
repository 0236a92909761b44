/- Frames (layer 18): the leaves: Size, number, num, Num, and the reference's. -/
import Derived.Test.YtdbiebnnogjccaaGreatDoorFp
import Derived.Test.YtdbiebnnogjccaaGreatDoorRk
import Derived.Test.YtdbiebnnogjccaaGreatDoorCt
import Derived.Deep.QuietTactic
import Derived.BigQuiet
import Derived.Lib.Strings
namespace Go.Proofs.YtdbiebnnogjccaaGreatDoor
open Go.RowKit
theorem ret_i64 {a b : Int} (h : a = b) : Ending.returned (.int .i64 a) = .returned (.int .i64 b) := by rw [h]
theorem ret_u32 {a b : Int} (h : a = b) : Ending.returned (.int .u32 a) = .returned (.int .u32 b) := by rw [h]
theorem ret_str {a b : ByteArray} (h : a = b) : Ending.returned (.string a) = .returned (.string b) := by rw [h]
theorem frame_Size (n : Int) (w : World) : Calls Tryz.prog 119 #[.int .i64 n] w fun e w' => e = .returned (.int .i64 (sizeF n)) ∧ w = w' := by
  by_cases h1 : n < 0
  · have e : sizeF n = 0 := by unfold sizeF; rw [if_pos (.inl h1)]
    rw [e]; clear e
    go_enter Tryz.func119, Tryz.ntmps119
    go_wp2_with fail
    go_ret
    exact ⟨rfl, rfl⟩
  · by_cases h2 : 2000 < n
    · have e : sizeF n = 0 := by unfold sizeF; rw [if_pos (.inr h2)]
      rw [e]; clear e
      go_enter Tryz.func119, Tryz.ntmps119
      go_wp2_with fail
      go_ret
      exact ⟨rfl, rfl⟩
    · have e : sizeF n = (n + 8 + 244 - 1) / 244 := by unfold sizeF; rw [if_neg (by omega)]; omega
      rw [e]; clear e
      have h3 : 0 ≤ n := by omega
      have h4 : n ≤ 2000 := by omega
      go_enter Tryz.func119, Tryz.ntmps119
      go_wp2_with fail
      go_ret
      exact ⟨rfl, rfl⟩
theorem ref18_Size (n : Int) (w : World) : Calls Tryz.prog 87 #[.int .i64 n] w fun e w' => e = .returned (.int .i64 (sizeF n)) ∧ w = w' := by
  by_cases h1 : n < 0
  · have e : sizeF n = 0 := by unfold sizeF; rw [if_pos (.inl h1)]
    rw [e]; clear e
    go_enter Tryz.func87, Tryz.ntmps87
    go_wp2_with fail
    go_ret
    exact ⟨rfl, rfl⟩
  · by_cases h2 : 2000 < n
    · have e : sizeF n = 0 := by unfold sizeF; rw [if_pos (.inr h2)]
      rw [e]; clear e
      go_enter Tryz.func87, Tryz.ntmps87
      go_wp2_with fail
      go_ret
      exact ⟨rfl, rfl⟩
    · have e : sizeF n = (n + 8 + 244 - 1) / 244 := by unfold sizeF; rw [if_neg (by omega)]; omega
      rw [e]; clear e
      have h3 : 0 ≤ n := by omega
      have h4 : n ≤ 2000 := by omega
      go_enter Tryz.func87, Tryz.ntmps87
      go_wp2_with fail
      go_ret
      exact ⟨rfl, rfl⟩
theorem mk_nums (n : Int) (h0 : 0 ≤ n) (h1 : n < 4294967296) : strOfNums [n % 256, n / 256 % 256, n / 65536 % 256, n / 16777216] = ofL (mkL n) := by
  have e : n / 16777216 % 256 = n / 16777216 := by omega
  rw [← e]
  refine bytes_ext ?_
  rw [ofL_list, strOfNums_data]
  simp [mkL, beBytes, lowBE]
set_option maxRecDepth 100000 in
theorem frame_number (n : Int) (h0 : 0 ≤ n) (h1 : n < 4294967296) (w : World) : Calls Tryz.prog 123 #[.int .u32 n] w fun e w' => e = .returned (.string (ofL (mkL n))) ∧ Below w.heap.size w w' := by
  have hcv := conv_new w [n % 256, n / 256 % 256, n / 65536 % 256, n / 16777216]
  simp only [List.length_cons, List.length_nil, Nat.reduceAdd, List.map_cons, List.map_nil] at hcv
  go_enter Tryz.func123, Tryz.ntmps123
  go_wp2_with fail
  go_ret
  exact ⟨ret_str (mk_nums n h0 h1), (Below.refl _ _).alloc (Nat.le_refl _) _⟩
set_option maxRecDepth 100000 in
theorem ref18_mark (n : Int) (h0 : 0 ≤ n) (h1 : n < 4294967296) (w : World) : Calls Tryz.prog 132 #[.int .u32 n] w fun e w' => e = .returned (.string (ofL (mkL n))) ∧ Below w.heap.size w w' := by
  have hcv := conv_new w [n % 256, n / 256 % 256, n / 65536 % 256, n / 16777216]
  simp only [List.length_cons, List.length_nil, Nat.reduceAdd, List.map_cons, List.map_nil] at hcv
  go_enter Tryz.func132, Tryz.ntmps132
  go_wp2_with fail
  go_ret
  exact ⟨ret_str (mk_nums n h0 h1), (Below.refl _ _).alloc (Nat.le_refl _) _⟩
theorem num_be {v : Int} {n : Nat} (hn : n = 1 ∨ n = 2 ∨ n = 4) (h0 : 0 ≤ v) (h1 : v < 256 ^ n) : numR v n = (ofL (beBytes v n), 0) := by
  have e : strOfNums (lowBE v n) = ofL (beBytes v n) := bytes_ext (by rw [strOfNums_list, ofL_list])
  unfold numR
  rcases hn with rfl | rfl | rfl <;> (rw [← e]; simp [sizeB]; omega)
/-- num(v, n), where v goes into n bytes. -/
theorem frame_num (v : Int) (n : Nat) (hn : n = 1 ∨ n = 2 ∨ n = 4) (h0 : 0 ≤ v) (h1 : v < 256 ^ n) (w : World) (he : EtIs w) : Calls Tryz.prog 120 #[.int .u64 v, .int .i64 n] w fun e w' => e = .returned (.string (ofL (beBytes v n))) ∧ Below w.heap.size w w' := by
  have hv : v < 18446744073709551616 := by rcases hn with rfl | rfl | rfl <;> omega
  have C := Lib.hid (pack_Num_eq (num_be hn h0 h1) h0 hv w he)
  clear h0 h1 hv hn he
  go_enter Tryz.func120, Tryz.ntmps120
  go_wp2_with fail
  refine C.out.mono ?_; rintro e w1 ⟨rfl, hb⟩
  go_wp2_with fail
  go_ret
  exact ⟨rfl, hb⟩
theorem frame_num4 (v : Int) (h0 : 0 ≤ v) (h1 : v < 4294967296) (w : World) (he : EtIs w) : Calls Tryz.prog 120 #[.int .u64 v, .int .i64 4] w fun e w' => e = .returned (.string (ofL (beBytes v 4))) ∧ Below w.heap.size w w' :=
  frame_num v 4 (.inr (.inr rfl)) h0 (by omega) w he
theorem frame_num2 (v : Int) (h0 : 0 ≤ v) (h1 : v < 65536) (w : World) (he : EtIs w) : Calls Tryz.prog 120 #[.int .u64 v, .int .i64 2] w fun e w' => e = .returned (.string (ofL (beBytes v 2))) ∧ Below w.heap.size w w' :=
  frame_num v 2 (.inr (.inl rfl)) h0 (by omega) w he
theorem TblIs.below {w w' : World} (h : TblIs w) (hb : Below w.heap.size w w') : TblIs w' := by
  refine ⟨Nat.lt_of_lt_of_le h.1 hb.size, fun i hi => ?_⟩
  have hlt : 14 < w.heap.size := by
    have := h.2 i hi
    exact World.block_lt_of_cell? w ⟨14, i, none⟩ this
  rw [hb.cell (p := ⟨14, i, none⟩) hlt]; exact h.2 i hi
end Go.Proofs.YtdbiebnnogjccaaGreatDoor

/- Frames (layer 18): Num and End: a number of a whole sector. -/
namespace Go.Proofs.YtdbiebnnogjccaaGreatDoor
open Go.RowKit
theorem extract_list (s : ByteArray) (i j : Nat) : (s.extract i j).data.toList = (s.data.toList.drop i).take (j - i) := by
  simp [ByteArray.data_extract]
theorem below_dN (w : World) (n : Nat) : Below w.heap.size w (w.drewN n) := ⟨rfl, rfl, rfl, Nat.le_refl _, fun _ _ => rfl⟩
theorem or_add {a b i : Nat} (h : a < 2 ^ i) : a ||| b * 2 ^ i = a + b * 2 ^ i := by
  rw [Nat.or_comm, ← Nat.shiftLeft_eq, ← Nat.shiftLeft_add_eq_or_of_lt h, Nat.add_comm]
theorem or4 {c0 c1 c2 c3 : Nat} (h0 : c0 < 256) (h1 : c1 < 256) (h2 : c2 < 256) (h3 : c3 < 256) :
    bits .or .u32 (bits .or .u32 (bits .or .u32 ((c0 : Int) % 4294967296) ((c1 : Int) % 4294967296 * 256 % 4294967296)) ((c2 : Int) % 4294967296 * 65536 % 4294967296)) ((c3 : Int) % 4294967296 * 16777216 % 4294967296) = ((c0 + c1 * 256 + c2 * 65536 + c3 * 16777216 : Nat) : Int) := by
  have e0 : (c0 : Int) % 4294967296 = (c0 : Nat) := by omega
  have e1 : (c1 : Int) % 4294967296 * 256 % 4294967296 = ((c1 * 256 : Nat) : Int) := by omega
  have e2 : (c2 : Int) % 4294967296 * 65536 % 4294967296 = ((c2 * 65536 : Nat) : Int) := by omega
  have e3 : (c3 : Int) % 4294967296 * 16777216 % 4294967296 = ((c3 * 16777216 : Nat) : Int) := by omega
  have o1 : c0 ||| c1 * 256 = c0 + c1 * 256 := or_add (i := 8) (by omega)
  have o2 : c0 + c1 * 256 ||| c2 * 65536 = c0 + c1 * 256 + c2 * 65536 := or_add (i := 16) (by omega)
  have o3 : c0 + c1 * 256 + c2 * 65536 ||| c3 * 16777216 = c0 + c1 * 256 + c2 * 65536 + c3 * 16777216 := or_add (i := 24) (by omega)
  rw [e0, e1, e2, e3, u32_or_nat _ _ (by omega) (by omega), o1, u32_or_nat _ _ (by omega) (by omega), o2, u32_or_nat _ _ (by omega) (by omega), o3]
theorem valLE4 (b0 b1 b2 b3 : UInt8) : valLE [b0, b1, b2, b3] = ((b0.toNat + b1.toNat * 256 + b2.toNat * 65536 + b3.toNat * 16777216 : Nat) : Int) := by
  simp [valLE, valBE]; omega
theorem take4 (b : ByteArray) (h : 4 ≤ b.size) : b.data.toList.take 4 = [b[0], b[1], b[2], b[3]] := by
  apply List.ext_getElem
  · simp; omega
  · intro i h1 h2
    have hi : i < 4 := by simpa using h2
    rw [List.getElem_take]
    match i, hi with
    | 0, _ => simp [ByteArray.getElem_eq_getElem_data]
    | 1, _ => simp [ByteArray.getElem_eq_getElem_data]
    | 2, _ => simp [ByteArray.getElem_eq_getElem_data]
    | 3, _ => simp [ByteArray.getElem_eq_getElem_data]
set_option maxRecDepth 100000 in
theorem frame_NumQ (b : ByteArray) (w : World) : Calls Tryz.prog 118 #[.string b] w fun e w' => e = .returned (.int .u32 (numF b.data.toList)) ∧ ∃ n, w' = w.drewN n := by
  by_cases h : b.size = 256
  · have hl : (((b.size : Nat) : Int) != 256) = false := by rw [h]; rfl
    have e : numF b.data.toList = if b.data.toList.take 4 = b.data.toList.drop 252 then valLE (b.data.toList.take 4) else 0 := by
      unfold numF; rw [size_list, h]; simp
    rw [e]; clear e
    have x1 : (b.extract 0 4).toList = b.data.toList.take 4 := by rw [Lib.toList_data, extract_list]; simp
    have x2 : (b.extract 252 256).toList = b.data.toList.drop 252 := by
      rw [Lib.toList_data, extract_list]; exact List.take_of_length_le (by rw [List.length_drop, size_list, h]; omega)
    have l1 : (0 : Int) < (b.size : Int) := by omega
    have l2 : (4 : Int) ≤ (b.size : Int) := by omega
    have l3 : (252 : Int) ≤ (b.size : Int) := by omega
    by_cases hq : b.data.toList.take 4 = b.data.toList.drop 252
    · have hqb : ((b.extract 0 4).toList == (b.extract 252 256).toList) = true := by rw [x1, x2, hq]; simp
      rw [if_pos hq]
      clear x1 x2 hq
      go_enter Tryz.func118, Tryz.ntmps118
      go_wp2_with fail
      go_quiet (fail)
      go_wp2_with fail
      go_quiet (fail)
      go_wp2_with fail
      go_ret
      exact ⟨by rw [or4 (UInt8.toNat_lt _) (UInt8.toNat_lt _) (UInt8.toNat_lt _) (UInt8.toNat_lt _), take4 b (by omega), valLE4]; rfl, by rw [World.drewN_drewN]; exact ⟨_, rfl⟩⟩
    · have hqb : ((b.extract 0 4).toList == (b.extract 252 256).toList) = false := by rw [x1, x2]; simpa using hq
      rw [if_neg hq]
      clear x1 x2 hq
      go_enter Tryz.func118, Tryz.ntmps118
      go_wp2_with fail
      go_quiet (fail)
      go_wp2_with fail
      go_ret
      exact ⟨rfl, _, rfl⟩
  · have hl : (((b.size : Nat) : Int) != 256) = true := by rw [bne_iff_ne]; omega
    have e : numF b.data.toList = 0 := by unfold numF; rw [if_neg (by rw [size_list]; omega)]
    rw [e]; clear e
    go_enter Tryz.func118, Tryz.ntmps118
    go_wp2_with fail
    go_quiet (fail)
    go_wp2_with fail
    go_ret
    exact ⟨rfl, _, rfl⟩
theorem frame_Num (b : ByteArray) (w : World) : Calls Tryz.prog 118 #[.string b] w fun e w' => e = .returned (.int .u32 (numF b.data.toList)) ∧ Below w.heap.size w w' :=
  (frame_NumQ b w).mono fun _ _ ⟨he, n, hn⟩ => ⟨he, by rw [hn]; exact below_dN w n⟩
end Go.Proofs.YtdbiebnnogjccaaGreatDoor
