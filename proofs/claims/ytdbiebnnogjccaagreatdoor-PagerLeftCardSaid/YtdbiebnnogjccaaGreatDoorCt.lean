/- The walks of packages addr (Good, Fine) and edit.Good, and of their references. -/
import Derived.Test.YtdbiebnnogjccaaGreatDoorPkc
import Derived.WalkLawsBesides
import Derived.Outline
import Derived.Test.YtdbiebnnogjccaaGreatDoorCp
import Derived.Test.YtdbiebnnogjccaaGreatDoorPuB
import Derived.Laws.BitsAllLaws
import Derived.RowKit
import Derived.LoopTactic
namespace Go.Proofs.YtdbiebnnogjccaaGreatDoor
open Go.RowKit

theorem ret_bool {a b : Bool} (h : a = b) : Ending.returned (.bool a) = .returned (.bool b) := by rw [h]
theorem bcell {W w1 : World} (hb : Below W.heap.size W w1) : (∀ b o, b < W.heap.size → w1.cell? ⟨b, o, none⟩ = W.cell? ⟨b, o, none⟩) ∧ (∀ b o, b < W.heap.size → w1.frozen? ⟨b, o, none⟩ = W.frozen? ⟨b, o, none⟩) :=
  ⟨fun b o h => hb.cell (p := ⟨b, o, none⟩) h, fun b o h => hb.frozen (p := ⟨b, o, none⟩) h⟩
theorem bstep {w a b : World} (h : Below w.heap.size w a) (k : Below a.heap.size a b) : Below w.heap.size w b := h.trans (k.mono h.size)
theorem below_a1 (w : World) (o : Obj) : Below w.heap.size w (w.alloc o) := (Below.refl _ _).alloc (Nat.le_refl _) _
theorem below_a2 (w : World) (o p : Obj) : Below w.heap.size w ((w.alloc o).alloc p) := bstep (below_a1 _ _) (below_a1 _ _)
def goodA (r c : Int) : Bool := decide (1 ≤ r) && decide (r ≤ 1000) && decide (1 ≤ c) && decide (c ≤ 50)
def fineR (fr fc tr tc : Int) : Bool := goodA fr fc && goodA tr tc && decide (fr ≤ tr) && decide (fc ≤ tc)
end Go.Proofs.YtdbiebnnogjccaaGreatDoor

/- The walks of package crc. -/
namespace Go.Proofs.YtdbiebnnogjccaaGreatDoor
open Go.RowKit
/-- The laid table's cells. -/
def TblIs (w : World) : Prop := 0 < w.heap.size ∧ ∀ i : Nat, i < 16 → w.cell? ⟨14, i, none⟩ = some (.int .u32 (tbl i : Nat))
theorem tbl_lt (i : Nat) : tbl i < 4294967296 := by
  by_cases h : i < 16
  · revert h; revert i; decide
  · unfold tbl
    rw [List.getD, List.getElem?_eq_none (by simp; omega)]
    decide
theorem xor16 (x i : Nat) (hx : x < 4294967296) : bits .xor .u32 ((x : Int) / 16) ((tbl i : Nat) : Int) = ((x / 16 ^^^ tbl i : Nat) : Int) := by
  have e : (x : Int) / 16 = ((x / 16 : Nat) : Int) := by omega
  rw [e, u32_xor_nat _ _ (by omega) (tbl_lt i)]
theorem and15 (x y : Nat) (hx : x < 4294967296) (hy : y < 4294967296) : bits .and .u32 (bits .xor .u32 (x : Int) (y : Int)) 15 = (((x ^^^ y) % 16 : Nat) : Int) := by
  rw [u32_xor_nat _ _ hx hy]
  have := u32_and_nat (x ^^^ y) 15 (xor_lt hx hy) (by decide)
  rw [nat_mask4] at this
  exact this
set_option maxRecDepth 100000 in
theorem crc_step (n b : Nat) (hn : n < 4294967296) (hb : b < 256) (w : World) (ht : TblIs w) :
    Calls Tryz.prog 150 #[.int .u32 n, .int .u8 b] w fun e w' => e = .returned (.int .u32 (stepN n b : Nat)) ∧ w = w' := by
  obtain ⟨i1, hi1⟩ : ∃ i, i = (n ^^^ b) % 16 := ⟨_, rfl⟩
  have l1 : i1 < 16 := by omega
  have e1 : bits .and .u32 (bits .xor .u32 (n : Int) (b : Int)) 15 = (i1 : Int) := by rw [hi1]; exact and15 n b hn (by omega)
  have q1 := ht.2 i1 l1
  obtain ⟨m, hm⟩ : ∃ m, m = n / 16 ^^^ tbl i1 := ⟨_, rfl⟩
  have lm : m < 4294967296 := by rw [hm]; exact xor_lt (by omega) (tbl_lt _)
  have e2 : bits .xor .u32 ((n : Int) / 16) ((tbl i1 : Nat) : Int) = (m : Int) := by rw [hm]; exact xor16 n i1 hn
  obtain ⟨i2, hi2⟩ : ∃ i, i = (m ^^^ b / 16) % 16 := ⟨_, rfl⟩
  have l2 : i2 < 16 := by omega
  have e3 : bits .and .u32 (bits .xor .u32 (m : Int) ((b : Int) / 16)) 15 = (i2 : Int) := by
    have e : (b : Int) / 16 = ((b / 16 : Nat) : Int) := by omega
    rw [hi2, e]; exact and15 m (b / 16) lm (by omega)
  have q2 := ht.2 i2 l2
  have e4 : bits .xor .u32 ((m : Int) / 16) ((tbl i2 : Nat) : Int) = ((m / 16 ^^^ tbl i2 : Nat) : Int) := xor16 m i2 lm
  have hs : stepN n b = m / 16 ^^^ tbl i2 := by rw [hi2, hm, hi1]; rfl
  rw [hs]
  obtain ⟨r, hr⟩ : ∃ r, r = m / 16 ^^^ tbl i2 := ⟨_, rfl⟩
  rw [← hr] at e4 ⊢
  have j1 : (i1 : Int) < 16 := by omega
  have j2 : (i2 : Int) < 16 := by omega
  have hb1 : (b : Int) % 4294967296 = (b : Int) := by omega
  have hb2 : (b : Int) / 16 % 4294967296 = (b : Int) / 16 := by omega
  clear hi1 hi2 hm hr hs ht lm l1 l2
  go_enter Tryz.func150, Tryz.ntmps150
  go_wp2_with fail
  go_ret
  exact ⟨rfl, rfl⟩

theorem not32_bits (n : Nat) (hn : n < 4294967296) : bits .xor .u32 IntKind.u32.max (n : Int) = ((not32 n : Nat) : Int) := by
  have e : IntKind.u32.max = ((4294967295 : Nat) : Int) := by decide
  rw [e, u32_xor_nat _ _ (by decide) hn]
  unfold not32
  rw [ones_eq]
theorem take_snocS (s : ByteArray) (k : Nat) (h : k < s.size) : s.data.toList.take (k + 1) = s.data.toList.take k ++ [s[k]] := by
  have hq : k < s.data.toList.length := by rw [size_list]; exact h
  rw [List.take_succ_eq_append_getElem hq]
  simp [ByteArray.getElem_eq_getElem_data]
set_option maxHeartbeats 1000000 in
theorem crc_Sum (s : ByteArray) (hs : s.size ≤ 140737488351232) (w : World) (ht : TblIs w) :
    Calls Tryz.prog 121 #[.string s] w fun e w' => e = .returned (.int .u32 (sumN s.data.toList : Nat)) ∧ w = w' := by
  have St := Lib.hid (fun n b hn hb => crc_step n b hn hb w ht)
  clear ht
  go_enter Tryz.func121, Tryz.ntmps121
  go_wp2_with fail
  go_loop [3, 7] (fun n i => ∃ k : Nat, k ≤ s.size ∧ i = .int .i64 k ∧ n = .int .u32 (F ones (s.data.toList.take k) : Nat)) (fun _ i => s.size - (intOf i).toNat)
  case atStart => exact ⟨0, Nat.zero_le _, rfl, by show _ = Value.int .u32 ((ones : Nat) : Int); rw [ones_eq]; rfl⟩
  case round =>
    obtain ⟨k, hk, rfl, rfl⟩ := hrel
    obtain ⟨n, hn⟩ : ∃ n, n = F ones (s.data.toList.take k) := ⟨_, rfl⟩
    have ln : n < 4294967296 := by rw [hn]; exact F_lt _ _ ones_lt
    rw [← hn]
    have Hn := Lib.hid hn
    clear hn
    by_cases hlt : k < s.size
    · have hi : (k : Int) < (s.size : Int) := by omega
      go_wp2_with fail
      refine (St.out n s[k].toNat ln s[k].toNat_lt).mono ?_; rintro e w1 ⟨rfl, rfl⟩
      go_wp2_with fail
      go_round
      case rel => exact ⟨k + 1, by omega, by go_num, by rw [take_snocS s k hlt, F_snoc, ← Hn.out, stepN_eq _ _ s[k].toNat_lt]⟩
      case measure => simp [intOf]; omega
    · have hi : ¬ (k : Int) < (s.size : Int) := by omega
      go_wp2_with fail
      go_ret
      have hk' : s.data.toList.take k = s.data.toList := List.take_of_length_le (by rw [size_list]; omega)
      have := Hn.out
      rw [hk'] at this
      exact ⟨by rw [not32_bits n ln, this]; rfl, rfl⟩
end Go.Proofs.YtdbiebnnogjccaaGreatDoor

/- The walks of crc.Next and of pannierref15. -/
namespace Go.Proofs.YtdbiebnnogjccaaGreatDoor
open Go.RowKit
theorem low_bit (d : Nat) (hd : d < 4294967296) : bits .and .u32 (d : Int) 1 = ((d % 2 : Nat) : Int) := by
  have := u32_and_nat d 1 hd (by decide)
  rw [nat_mask1] at this
  exact this
theorem bit_test (d b m : Nat) (hd : d < 4294967296) (hb : b < 256) : (bits .and .u32 (d : Int) 1 != bits .and .u32 ((b : Int) / 2 ^ m) 1) = (d % 2 != b / 2 ^ m % 2) := by
  have e : (b : Int) / 2 ^ m = ((b / 2 ^ m : Nat) : Int) := by simp
  have hl : b / 2 ^ m < 4294967296 := Nat.lt_of_le_of_lt (Nat.div_le_self _ _) (by omega)
  rw [e, low_bit d hd, low_bit _ hl, Bool.eq_iff_iff, bne_iff_ne, bne_iff_ne]
  omega
theorem xorP (d : Nat) (hd : d < 4294967296) : bits .xor .u32 ((d : Int) / 2) 3988292384 = ((d / 2 ^^^ P32 : Nat) : Int) := by
  have e : (d : Int) / 2 = ((d / 2 : Nat) : Int) := by omega
  rw [e]
  exact u32_xor_nat (d / 2) 3988292384 (by omega) (by decide)
set_option maxHeartbeats 1000000 in
theorem ref15_through (c0 : Nat) (h0 : c0 < 4294967296) (s : ByteArray) (hs : s.size ≤ 140737488351232) (w : World) :
    Calls Tryz.prog 156 #[.int .u32 c0, .string s] w fun e w' => e = .returned (.int .u32 (F c0 s.data.toList : Nat)) ∧ w = w' := by
  go_enter Tryz.func156, Tryz.ntmps156
  go_wp2_with fail
  go_loop [0, 5] (fun c i => ∃ k : Nat, k ≤ s.size ∧ i = .int .i64 k ∧ c = .int .u32 (F c0 (s.data.toList.take k) : Nat)) (fun _ i => s.size - (intOf i).toNat)
  case atStart => exact ⟨0, Nat.zero_le _, rfl, rfl⟩
  case round =>
    obtain ⟨k, hk, rfl, rfl⟩ := hrel
    obtain ⟨c, hn⟩ : ∃ n, n = F c0 (s.data.toList.take k) := ⟨_, rfl⟩
    have ln : c < 4294967296 := by rw [hn]; exact F_lt _ _ h0
    rw [← hn]
    have Hn := Lib.hid hn
    clear hn
    by_cases hlt : k < s.size
    · have hi : (k : Int) < (s.size : Int) := by omega
      go_wp2_with fail
      have hb := s[k].toNat_lt
      go_loop [0, 6] (fun c' j => ∃ m : Nat, m ≤ 8 ∧ j = .int .i64 m ∧ c' = .int .u32 (bitN c s[k].toNat m : Nat)) (fun _ j => 8 - (intOf j).toNat)
      case atStart => exact ⟨0, Nat.zero_le _, rfl, rfl⟩
      case round =>
        obtain ⟨m, hm, rfl, rfl⟩ := hrel
        obtain ⟨d, hd⟩ : ∃ d, d = bitN c s[k].toNat m := ⟨_, rfl⟩
        have ld : d < 4294967296 := by rw [hd]; exact bitN_lt _ _ ln _
        rw [← hd]
        have Hd := Lib.hid hd
        clear hd
        by_cases hm8 : m < 8
        · have hi8 : (m : Int) < 8 := by omega
          have ht := bit_test d s[k].toNat m ld hb
          have hstep : Hid (bitN c s[k].toNat (m + 1) = L1 (d ^^^ s[k].toNat / 2 ^ m % 2)) := by show bitN c s[k].toNat (m + 1) = _; rw [Hd.out]; rfl
          by_cases hq : d % 2 = s[k].toNat / 2 ^ m % 2
          · have hl : Hid (L1 (d ^^^ s[k].toNat / 2 ^ m % 2) = d / 2) := bit_like d _ (by omega) hq
            have ht' : (bits .and .u32 (d : Int) 1 != bits .and .u32 ((s[k].toNat : Int) / 2 ^ m) 1) = false := by rw [ht, hq]; simp
            clear ht hq
            go_wp2_with fail
            go_round
            case rel => exact ⟨m + 1, by omega, by go_num, by rw [hstep.out, hl.out]; rfl⟩
            case measure => simp [intOf]; omega
          · have hl : Hid (L1 (d ^^^ s[k].toNat / 2 ^ m % 2) = d / 2 ^^^ P32) := bit_unlike d _ (by omega) hq
            have ht' : (bits .and .u32 (d : Int) 1 != bits .and .u32 ((s[k].toNat : Int) / 2 ^ m) 1) = true := by rw [ht, bne_iff_ne]; exact hq
            have hp := xorP d ld
            clear ht hq
            go_wp2_with fail
            go_round
            case rel => exact ⟨m + 1, by omega, by go_num, by rw [hstep.out, hl.out]⟩
            case measure => simp [intOf]; omega
        · have hi8 : ¬ (m : Int) < 8 := by omega
          have hm' : m = 8 := by omega
          subst hm'
          have h8 : Hid (d = Z (c ^^^ s[k].toNat)) := by show d = _; rw [Hd.out]; exact bitN_8 _ _ hb
          go_wp2_with fail
          go_round
          case rel => exact ⟨k + 1, by omega, by go_num, by rw [take_snocS s k hlt, F_snoc, ← Hn.out, h8.out]⟩
          case measure => simp [intOf]; omega
    · have hi : ¬ (k : Int) < (s.size : Int) := by omega
      have hk' : s.data.toList.take k = s.data.toList := List.take_of_length_le (by rw [size_list]; omega)
      have hf := Hn.out
      rw [hk'] at hf
      have Hf := Lib.hid hf
      clear hf hk'
      go_wp2_with fail
      go_ret
      exact ⟨by rw [Hf.out]; rfl, rfl⟩
set_option maxRecDepth 100000 in
theorem ref15_Sum (s : ByteArray) (hs : s.size ≤ 140737488351232) (w : World) :
    Calls Tryz.prog 130 #[.string s] w fun e w' => e = .returned (.int .u32 (sumN s.data.toList : Nat)) ∧ w = w' := by
  have h := ref15_through ones ones_lt s hs w
  have e : ((ones : Nat) : Int) = 4294967295 := by rw [ones_eq]; rfl
  rw [e] at h
  have H := Lib.hid h
  clear h e
  have l1 := F_lt s.data.toList ones ones_lt
  have e2 := not32_bits (F ones s.data.toList) l1
  have hs' : sumN s.data.toList = not32 (F ones s.data.toList) := rfl
  rw [hs']
  obtain ⟨n, hn⟩ : ∃ n, n = F ones s.data.toList := ⟨_, rfl⟩
  rw [← hn] at H e2 ⊢
  clear hn l1 hs'
  go_enter Tryz.func130, Tryz.ntmps130
  go_wp2_with fail
  refine H.out.mono ?_; rintro e w1 ⟨rfl, rfl⟩
  go_wp2_with fail
  go_ret
  exact ⟨rfl, rfl⟩
theorem F_one (n b : Nat) (hb : b < 256) : F n (strOfNums [(b : Int)]).data.toList = stepN n b := by
  rw [strOfNums_data, stepN_eq _ _ hb]
  show Z (n ^^^ (UInt8.ofNat (b : Int).toNat).toNat) = _
  have : (UInt8.ofNat (b : Int).toNat).toNat = b := by
    rw [Int.toNat_natCast, UInt8.toNat_ofNat']; omega
  rw [this]
end Go.Proofs.YtdbiebnnogjccaaGreatDoor
