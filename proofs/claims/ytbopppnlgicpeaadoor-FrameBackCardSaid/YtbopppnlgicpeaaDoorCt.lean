/- The walks of crc.Next and of pannierref15. -/
import Derived.Test.YtbopppnlgicpeaaDoorCs
namespace Go.Proofs.YtbopppnlgicpeaaDoor
open Go.RowKit
theorem low_bit (d : Nat) (hd : d < 4294967296) : bits .and .u32 (d : Int) 1 = ((d % 2 : Nat) : Int) := by
  have := u32_and_nat d 1 hd (by decide)
  rw [nat_mask1] at this
  exact this
theorem bit_test (d b m : Nat) (hd : d < 4294967296) (hb : b < 256) : (bits .and .u32 (d : Int) 1 != bits .and .u32 ((b : Int) / 2 ^ m) 1) = (d % 2 != b / 2 ^ m % 2) := by
  have e : (b : Int) / 2 ^ m = ((b / 2 ^ m : Nat) : Int) := by simp
  have hl : b / 2 ^ m < 4294967296 := Nat.lt_of_le_of_lt (Nat.div_le_self _ _) (by omega)
  rw [e, low_bit d hd, low_bit _ hl, Bool.eq_iff_iff, bne_iff_ne, bne_iff_ne]
  omega
theorem xorP (d : Nat) (hd : d < 4294967296) : bits .xor .u32 ((d : Int) / 2) 3988292384 = ((d / 2 ^^^ P32 : Nat) : Int) := by
  have e : (d : Int) / 2 = ((d / 2 : Nat) : Int) := by omega
  rw [e]
  exact u32_xor_nat (d / 2) 3988292384 (by omega) (by decide)
set_option maxHeartbeats 1000000 in
theorem ref15_through (c0 : Nat) (h0 : c0 < 4294967296) (s : ByteArray) (hs : s.size ≤ 140737488351232) (w : World) :
    Calls Tryd.prog 84 #[.int .u32 c0, .string s] w fun e w' => e = .returned (.int .u32 (F c0 s.data.toList : Nat)) ∧ w = w' := by
  go_enter Tryd.func84, Tryd.ntmps84
  go_wp2_with fail
  go_loop [0, 5] (fun c i => ∃ k : Nat, k ≤ s.size ∧ i = .int .i64 k ∧ c = .int .u32 (F c0 (s.data.toList.take k) : Nat)) (fun _ i => s.size - (intOf i).toNat)
  case atStart => exact ⟨0, Nat.zero_le _, rfl, rfl⟩
  case round =>
    obtain ⟨k, hk, rfl, rfl⟩ := hrel
    obtain ⟨c, hn⟩ : ∃ n, n = F c0 (s.data.toList.take k) := ⟨_, rfl⟩
    have ln : c < 4294967296 := by rw [hn]; exact F_lt _ _ h0
    rw [← hn]
    have Hn := Lib.hid hn
    clear hn
    by_cases hlt : k < s.size
    · have hi : (k : Int) < (s.size : Int) := by omega
      go_wp2_with fail
      have hb := s[k].toNat_lt
      go_loop [0, 6] (fun c' j => ∃ m : Nat, m ≤ 8 ∧ j = .int .i64 m ∧ c' = .int .u32 (bitN c s[k].toNat m : Nat)) (fun _ j => 8 - (intOf j).toNat)
      case atStart => exact ⟨0, Nat.zero_le _, rfl, rfl⟩
      case round =>
        obtain ⟨m, hm, rfl, rfl⟩ := hrel
        obtain ⟨d, hd⟩ : ∃ d, d = bitN c s[k].toNat m := ⟨_, rfl⟩
        have ld : d < 4294967296 := by rw [hd]; exact bitN_lt _ _ ln _
        rw [← hd]
        have Hd := Lib.hid hd
        clear hd
        by_cases hm8 : m < 8
        · have hi8 : (m : Int) < 8 := by omega
          have ht := bit_test d s[k].toNat m ld hb
          have hstep : Hid (bitN c s[k].toNat (m + 1) = L1 (d ^^^ s[k].toNat / 2 ^ m % 2)) := by show bitN c s[k].toNat (m + 1) = _; rw [Hd.out]; rfl
          by_cases hq : d % 2 = s[k].toNat / 2 ^ m % 2
          · have hl : Hid (L1 (d ^^^ s[k].toNat / 2 ^ m % 2) = d / 2) := bit_like d _ (by omega) hq
            have ht' : (bits .and .u32 (d : Int) 1 != bits .and .u32 ((s[k].toNat : Int) / 2 ^ m) 1) = false := by rw [ht, hq]; simp
            clear ht hq
            go_wp2_with fail
            go_round
            case rel => exact ⟨m + 1, by omega, by go_num, by rw [hstep.out, hl.out]; rfl⟩
            case measure => simp [intOf]; omega
          · have hl : Hid (L1 (d ^^^ s[k].toNat / 2 ^ m % 2) = d / 2 ^^^ P32) := bit_unlike d _ (by omega) hq
            have ht' : (bits .and .u32 (d : Int) 1 != bits .and .u32 ((s[k].toNat : Int) / 2 ^ m) 1) = true := by rw [ht, bne_iff_ne]; exact hq
            have hp := xorP d ld
            clear ht hq
            go_wp2_with fail
            go_round
            case rel => exact ⟨m + 1, by omega, by go_num, by rw [hstep.out, hl.out]⟩
            case measure => simp [intOf]; omega
        · have hi8 : ¬ (m : Int) < 8 := by omega
          have hm' : m = 8 := by omega
          subst hm'
          have h8 : Hid (d = Z (c ^^^ s[k].toNat)) := by show d = _; rw [Hd.out]; exact bitN_8 _ _ hb
          go_wp2_with fail
          go_round
          case rel => exact ⟨k + 1, by omega, by go_num, by rw [take_snocS s k hlt, F_snoc, ← Hn.out, h8.out]⟩
          case measure => simp [intOf]; omega
    · have hi : ¬ (k : Int) < (s.size : Int) := by omega
      have hk' : s.data.toList.take k = s.data.toList := List.take_of_length_le (by rw [size_list]; omega)
      have hf := Hn.out
      rw [hk'] at hf
      have Hf := Lib.hid hf
      clear hf hk'
      go_wp2_with fail
      go_ret
      exact ⟨by rw [Hf.out]; rfl, rfl⟩
set_option maxRecDepth 100000 in
theorem ref15_Sum (s : ByteArray) (hs : s.size ≤ 140737488351232) (w : World) :
    Calls Tryd.prog 69 #[.string s] w fun e w' => e = .returned (.int .u32 (sumN s.data.toList : Nat)) ∧ w = w' := by
  have h := ref15_through ones ones_lt s hs w
  have e : ((ones : Nat) : Int) = 4294967295 := by rw [ones_eq]; rfl
  rw [e] at h
  have H := Lib.hid h
  clear h e
  have l1 := F_lt s.data.toList ones ones_lt
  have e2 := not32_bits (F ones s.data.toList) l1
  have hs' : sumN s.data.toList = not32 (F ones s.data.toList) := rfl
  rw [hs']
  obtain ⟨n, hn⟩ : ∃ n, n = F ones s.data.toList := ⟨_, rfl⟩
  rw [← hn] at H e2 ⊢
  clear hn l1 hs'
  go_enter Tryd.func69, Tryd.ntmps69
  go_wp2_with fail
  refine H.out.mono ?_; rintro e w1 ⟨rfl, rfl⟩
  go_wp2_with fail
  go_ret
  exact ⟨rfl, rfl⟩
theorem F_one (n b : Nat) (hb : b < 256) : F n (strOfNums [(b : Int)]).data.toList = stepN n b := by
  rw [strOfNums_data, stepN_eq _ _ hb]
  show Z (n ^^^ (UInt8.ofNat (b : Int).toNat).toNat) = _
  have : (UInt8.ofNat (b : Int).toNat).toNat = b := by
    rw [Int.toNat_natCast, UInt8.toNat_ofNat']; omega
  rw [this]
end Go.Proofs.YtbopppnlgicpeaaDoor
