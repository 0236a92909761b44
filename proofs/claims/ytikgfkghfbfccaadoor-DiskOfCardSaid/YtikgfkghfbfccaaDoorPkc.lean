/- The walks of package pack: what stands at a place of bytes. -/
import Derived.Test.YtikgfkghfbfccaaDoorPkb
import Derived.Lib.ConvBytes
namespace Go.Proofs.YtikgfkghfbfccaaDoor
open Go.RowKit

/-- One byte more behind a number. -/
theorem shl8_or (x c : Int) (h0 : 0 ≤ x) (h1 : x < 72057594037927936) (h2 : 0 ≤ c) (h3 : c < 256) : bits .or .u64 (IntKind.u64.wrap (x * 256)) (IntKind.u64.wrap c) = x * 256 + c := by
  rw [IntKind.wrap_u64, IntKind.wrap_u64, Int.emod_eq_of_lt (by omega) (by omega), Int.emod_eq_of_lt (by omega) (by omega), u64_or _ _ (by omega) (by omega) (by omega) (by omega)]
  obtain ⟨X, rfl⟩ := Int.eq_ofNat_of_zero_le h0
  obtain ⟨C, rfl⟩ := Int.eq_ofNat_of_zero_le h2
  have e : ((X : Int) * 256).toNat = X <<< 8 := by rw [Nat.shiftLeft_eq]; omega
  have : X <<< 8 ||| C = X <<< 8 + C := by rw [Nat.shiftLeft_add_eq_or_of_lt (by omega)]
  rw [e, Int.toNat_natCast, this, Nat.shiftLeft_eq]
  omega
theorem pack_take_arg (b : ByteArray) (a n : Int) (hn : sizeB n = false) (w : World) : Calls Tryd.prog 125 #[.string b, .int .i64 a, .int .i64 n] w fun e w' =>
    e = .returned (.tuple #[.int .u64 0, .int .i64 0, .iface 205 (.pointer (some ⟨w.heap.size, 0, none⟩))]) ∧ w.alloc (.cells #[.int .i64 a, .int .i64 1] 208) = w' := by
  go_enter Tryd.func125, Tryd.ntmps125
  go_wp2_with fail
  refine (pack_size _ _).mono ?_; rintro e w' ⟨rfl, rfl⟩
  go_wp2_with fail
  refine (pack_fail _ _ _).mono ?_; rintro e w' ⟨rfl, rfl⟩
  go_wp2_with fail
  go_ret3
  exact ⟨rfl, rfl⟩

theorem pack_take_form (b : ByteArray) (a n : Int) (hb : b.size ≤ 140737488351232) (hn : sizeB n = true) (h : a < 0 ∨ (b.size : Int) < a ∨ (b.size : Int) - a < n) (w : World) : Calls Tryd.prog 125 #[.string b, .int .i64 a, .int .i64 n] w fun e w' =>
    e = .returned (.tuple #[.int .u64 0, .int .i64 0, .iface 205 (.pointer (some ⟨w.heap.size, 0, none⟩))]) ∧ w.alloc (.cells #[.int .i64 a, .int .i64 11] 208) = w' := by
  have hn' : (!sizeB n) = false := by rw [hn]; rfl
  have H := Lib.hid h; clear h
  by_cases h1 : a < 0
  · go_enter Tryd.func125, Tryd.ntmps125
    go_wp2_with fail
    refine (pack_size _ _).mono ?_; rintro e w' ⟨rfl, rfl⟩
    go_wp2_with fail
    refine (pack_fail _ _ _).mono ?_; rintro e w' ⟨rfl, rfl⟩
    go_wp2_with fail
    go_ret3
    exact ⟨rfl, rfl⟩
  · by_cases h2 : (b.size : Int) < a
    · go_enter Tryd.func125, Tryd.ntmps125
      go_wp2_with fail
      refine (pack_size _ _).mono ?_; rintro e w' ⟨rfl, rfl⟩
      go_wp2_with fail
      refine (pack_fail _ _ _).mono ?_; rintro e w' ⟨rfl, rfl⟩
      go_wp2_with fail
      go_ret3
      exact ⟨rfl, rfl⟩
    · have h3 : (b.size : Int) - a < n := by have := H.out; omega
      go_enter Tryd.func125, Tryd.ntmps125
      go_wp2_with fail
      refine (pack_size _ _).mono ?_; rintro e w' ⟨rfl, rfl⟩
      go_wp2_with fail
      refine (pack_fail _ _ _).mono ?_; rintro e w' ⟨rfl, rfl⟩
      go_wp2_with fail
      go_ret3
      exact ⟨rfl, rfl⟩

set_option maxRecDepth 100000 in
set_option maxHeartbeats 1000000 in
theorem pack_take_ok (b : ByteArray) (a n : Nat) (hb : b.size ≤ 140737488351232) (hn : sizeB n = true) (h : a + n ≤ b.size) (w : World) : Calls Tryd.prog 125 #[.string b, .int .i64 a, .int .i64 n] w fun e w' =>
    e = .returned (.tuple #[.int .u64 (valBE ((b.data.toList.drop a).take n)), .int .i64 ((a : Int) + n), .nilIface]) ∧ Below w.heap.size w w' := by
  have hn' : (!sizeB n) = false := by rw [hn]; rfl
  have h1 : ¬ (a : Int) < 0 := by omega
  have h2 : ¬ (b.size : Int) < (a : Int) := by omega
  have h3 : ¬ (b.size : Int) - (a : Int) < (n : Int) := by omega
  have hsl : ∀ W : World, (Instr.slice 9 (.string b) (some (.int .i64 (a : Int))) (some (.int .i64 ((a : Int) + (n : Int)))) none).run Tryd.prog W = .ok (.string (b.extract a (a + n))) W := fun W => by
    rw [run_slice_string W 9 b .i64 .i64 _ _ Tryd.underlying9 (by omega) (by omega) (by omega)]; congr 3 <;> omega
  obtain ⟨x, hx, hxs, hxl⟩ : ∃ x, b.extract a (a + n) = x ∧ x.size = n ∧ x.data.toList = (b.data.toList.drop a).take n := ⟨_, rfl, by simp; omega, by simp [List.extract_eq_take_drop]⟩
  rw [hx] at hsl
  clear hx
  have Hxl := Lib.hid hxl; clear hxl
  obtain ⟨c, w1, hcv, hcl, hbl⟩ : ∃ (c : Nat) (w1 : World), (convert 9 41 (.string x)).run Tryd.prog w = .ok (.slice (some ⟨w.heap.size, 0, none⟩) n c) w1 ∧ (∀ j, j < n → w1.cell? ⟨w.heap.size, j, none⟩ = some (.int .u8 (x.data.toList.getD j 0).toNat)) ∧ Below w.heap.size w w1 := by
    refine ⟨_, _, by rw [Lib.run_convert_string_bytes w 9 41 5 x Tryd.underlying9 Tryd.underlying41 Tryd.underlying5, hxs], fun j hj => Lib.bytesWorld_cell w _ x j (by omega), ?_⟩
    exact ⟨rfl, rfl, rfl, by rw [Lib.bytesWorld_size]; omega, fun k hk => Lib.bytesWorld_at_old w _ x k hk⟩
  have hln : x.data.toList.length = n := by rw [Array.length_toList, ByteArray.size_data]; exact hxs
  have Hln := Lib.hid hln; clear hxs hln
  go_enter Tryd.func125, Tryd.ntmps125
  go_wp2_with fail
  refine (pack_size _ _).mono ?_; rintro e w' ⟨rfl, rfl⟩
  go_wp2_with fail
  go_loop [9, 45] (fun v i => ∃ k : Nat, k ≤ n ∧ i = .int .i64 k ∧ v = .int .u64 (valBE (x.data.toList.take k))) (fun _ i => n - (intOf i).toNat)
  case atStart => exact ⟨0, Nat.zero_le _, rfl, rfl⟩
  case round =>
    obtain ⟨k, hk, rfl, rfl⟩ := hrel
    by_cases hlt : k < n
    · have hc := hcl k hlt
      have hbd := valBE_bd k (x.data.toList.take k) (by rw [List.length_take, Hln.out]; omega)
      have hp : (256 : Int) ^ k ≤ 72057594037927936 := by
        have hk7 : k ≤ 7 := by have := sizeB_cases hn; omega
        have : (256 : Nat) ^ k ≤ 256 ^ 7 := Nat.pow_le_pow_right (by decide) hk7
        have e : ((256 ^ k : Nat) : Int) = (256 : Int) ^ k := by simp
        omega
      have hst := shl8_or (valBE (x.data.toList.take k)) ((x.data.toList.getD k 0).toNat : Int) hbd.1 (by omega) (by omega) (by have := (x.data.toList.getD k 0).toNat_lt; omega)
      have hsn := take_snocB x.data.toList k (by rw [Hln.out]; omega)
      have HS : Hid (bits .or .u64 (IntKind.u64.wrap (valBE (x.data.toList.take k) * 256)) (IntKind.u64.wrap ((x.data.toList.getD k 0).toNat : Int)) = valBE (x.data.toList.take (k + 1))) := by rw [hsn, valBE_snoc]; exact hst
      clear hbd hp hst hsn
      go_wp2
      go_round
      case rel => exact ⟨k + 1, by omega, by go_num, by have := HS.out; simp at this ⊢; exact this⟩
      case measure => simp [intOf]; omega
    · go_wp2
      go_ret3
      obtain rfl : k = n := by omega
      exact ⟨by rw [← Hxl.out, List.take_of_length_le (by rw [Hln.out]; omega)]; rfl, hbl⟩

theorem pack_take (b : ByteArray) (a n : Int) (hb : b.size ≤ 140737488351232) (w : World) : Calls Tryd.prog 125 #[.string b, .int .i64 a, .int .i64 n] w fun e w' =>
    ∃ ev, e = .returned (.tuple #[.int .u64 (takeR b a n).1, .int .i64 (takeR b a n).2.1, ev]) ∧ ErrIs w' ev (takeR b a n).2.2 ∧ Below w.heap.size w w' := by
  have bad : ∀ c : Int, c ≠ 0 → takeR b a n = (0, 0, c) → (Calls Tryd.prog 125 #[.string b, .int .i64 a, .int .i64 n] w fun e w' => e = .returned (.tuple #[.int .u64 0, .int .i64 0, .iface 205 (.pointer (some ⟨w.heap.size, 0, none⟩))]) ∧ w.alloc (.cells #[.int .i64 a, .int .i64 c] 208) = w') → Calls Tryd.prog 125 #[.string b, .int .i64 a, .int .i64 n] w fun e w' =>
    ∃ ev, e = .returned (.tuple #[.int .u64 (takeR b a n).1, .int .i64 (takeR b a n).2.1, ev]) ∧ ErrIs w' ev (takeR b a n).2.2 ∧ Below w.heap.size w w' :=
    fun c hc hk h => h.mono fun e w' ⟨he, hb⟩ => ⟨_, by rw [hk]; exact he, by rw [hk, ← hb]; exact ErrIs.new _ _ _ hc, by rw [← hb]; exact below_alloc1 _ _⟩
  cases hs : sizeB n with
  | false => exact bad 1 (by decide) (by simp [takeR, hs]) (pack_take_arg b a n hs w)
  | true =>
    by_cases h : a < 0 ∨ (b.size : Int) < a ∨ (b.size : Int) - a < n
    · exact bad 11 (by decide) (by rw [takeR, if_neg (by simp [hs]), if_pos h]) (pack_take_form b a n hb hs h w)
    · have hn := sizeB_cases hs
      obtain ⟨A, rfl⟩ := Int.eq_ofNat_of_zero_le (show 0 ≤ a by omega)
      obtain ⟨N, rfl⟩ := Int.eq_ofNat_of_zero_le (show 0 ≤ n by omega)
      have e1 : takeR b A N = (valBE ((b.data.toList.drop A).take N), (A : Int) + N, 0) := by rw [takeR, if_neg (by simp [hs]), if_neg h]; rfl
      rw [e1]
      exact (pack_take_ok b A N hb hs (by omega) w).mono fun e w' ⟨he, hb⟩ => ⟨.nilIface, he, ErrIs.nil _, hb⟩

theorem pack_Take (b : ByteArray) (a n : Int) (hb : b.size ≤ 140737488351232) (w : World) (he : EtIs w) : Calls Tryd.prog 104 #[.string b, .int .i64 a, .int .i64 n] w fun e w' =>
    e = .returned (.tuple #[.int .u64 (takeR b a n).1, .int .i64 (takeR b a n).2.1, .int .i64 (takeR b a n).2.2]) ∧ Below w.heap.size w w' := by
  go_enter Tryd.func104, Tryd.ntmps104
  go_wp2_with fail
  refine (pack_take _ _ _ hb _).mono ?_; rintro e w1 ⟨ev, rfl, hev, hb1⟩
  go_wp2_with fail
  refine (told_any _ _ _ (he.below hb1) hev).mono ?_; rintro e w2 ⟨rfl, hb2⟩
  go_wp2_with fail
  go_ret3
  exact ⟨rfl, hb1.trans (hb2.mono hb1.size)⟩

/-! ### Cut -/
/-! ### the same, with the answer by an equation -/
theorem pack_Num_eq {v n : Int} {r : ByteArray} {c : Int} (hr : numR v n = (r, c)) (h0 : 0 ≤ v) (h1 : v < 18446744073709551616) (w : World) (he : EtIs w) : Calls Tryd.prog 85 #[.int .u64 v, .int .i64 n] w fun e w' =>
    e = .returned (.tuple #[.string r, .int .i64 c]) ∧ Below w.heap.size w w' := by
  have := pack_Num v n h0 h1 w he
  rw [hr] at this; exact this
theorem pack_Take_eq {b : ByteArray} {a n r t c : Int} (hr : takeR b a n = (r, t, c)) (hb : b.size ≤ 140737488351232) (w : World) (he : EtIs w) : Calls Tryd.prog 104 #[.string b, .int .i64 a, .int .i64 n] w fun e w' =>
    e = .returned (.tuple #[.int .u64 r, .int .i64 t, .int .i64 c]) ∧ Below w.heap.size w w' := by
  have := pack_Take b a n hb w he
  rw [hr] at this; exact this
end Go.Proofs.YtikgfkghfbfccaaDoor
