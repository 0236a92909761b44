/- The walks of package crc. -/
import Derived.Test.YtbopppnlgicpeaaDoorCp
import Derived.Test.YtbopppnlgicpeaaDoorFr
import Derived.Test.YtbopppnlgicpeaaDoorEd
import Derived.Test.YtbopppnlgicpeaaDoorPuB
import Derived.Laws.BitsAllLaws
import Derived.RowKit
import Derived.LoopTactic
namespace Go.Proofs.YtbopppnlgicpeaaDoor
open Go.RowKit
/-- The laid table's cells. -/
def TblIs (w : World) : Prop := 0 < w.heap.size ∧ ∀ i : Nat, i < 16 → w.cell? ⟨5, i, none⟩ = some (.int .u32 (tbl i : Nat))
theorem tbl_lt (i : Nat) : tbl i < 4294967296 := by
  by_cases h : i < 16
  · revert h; revert i; decide
  · unfold tbl
    rw [List.getD, List.getElem?_eq_none (by simp; omega)]
    decide
theorem xor16 (x i : Nat) (hx : x < 4294967296) : bits .xor .u32 ((x : Int) / 16) ((tbl i : Nat) : Int) = ((x / 16 ^^^ tbl i : Nat) : Int) := by
  have e : (x : Int) / 16 = ((x / 16 : Nat) : Int) := by omega
  rw [e, u32_xor_nat _ _ (by omega) (tbl_lt i)]
theorem and15 (x y : Nat) (hx : x < 4294967296) (hy : y < 4294967296) : bits .and .u32 (bits .xor .u32 (x : Int) (y : Int)) 15 = (((x ^^^ y) % 16 : Nat) : Int) := by
  rw [u32_xor_nat _ _ hx hy]
  have := u32_and_nat (x ^^^ y) 15 (xor_lt hx hy) (by decide)
  rw [nat_mask4] at this
  exact this
set_option maxRecDepth 100000 in
theorem crc_step (n b : Nat) (hn : n < 4294967296) (hb : b < 256) (w : World) (ht : TblIs w) :
    Calls Tryd.prog 78 #[.int .u32 n, .int .u8 b] w fun e w' => e = .returned (.int .u32 (stepN n b : Nat)) ∧ w = w' := by
  obtain ⟨i1, hi1⟩ : ∃ i, i = (n ^^^ b) % 16 := ⟨_, rfl⟩
  have l1 : i1 < 16 := by omega
  have e1 : bits .and .u32 (bits .xor .u32 (n : Int) (b : Int)) 15 = (i1 : Int) := by rw [hi1]; exact and15 n b hn (by omega)
  have q1 := ht.2 i1 l1
  obtain ⟨m, hm⟩ : ∃ m, m = n / 16 ^^^ tbl i1 := ⟨_, rfl⟩
  have lm : m < 4294967296 := by rw [hm]; exact xor_lt (by omega) (tbl_lt _)
  have e2 : bits .xor .u32 ((n : Int) / 16) ((tbl i1 : Nat) : Int) = (m : Int) := by rw [hm]; exact xor16 n i1 hn
  obtain ⟨i2, hi2⟩ : ∃ i, i = (m ^^^ b / 16) % 16 := ⟨_, rfl⟩
  have l2 : i2 < 16 := by omega
  have e3 : bits .and .u32 (bits .xor .u32 (m : Int) ((b : Int) / 16)) 15 = (i2 : Int) := by
    have e : (b : Int) / 16 = ((b / 16 : Nat) : Int) := by omega
    rw [hi2, e]; exact and15 m (b / 16) lm (by omega)
  have q2 := ht.2 i2 l2
  have e4 : bits .xor .u32 ((m : Int) / 16) ((tbl i2 : Nat) : Int) = ((m / 16 ^^^ tbl i2 : Nat) : Int) := xor16 m i2 lm
  have hs : stepN n b = m / 16 ^^^ tbl i2 := by rw [hi2, hm, hi1]; rfl
  rw [hs]
  obtain ⟨r, hr⟩ : ∃ r, r = m / 16 ^^^ tbl i2 := ⟨_, rfl⟩
  rw [← hr] at e4 ⊢
  have j1 : (i1 : Int) < 16 := by omega
  have j2 : (i2 : Int) < 16 := by omega
  have hb1 : (b : Int) % 4294967296 = (b : Int) := by omega
  have hb2 : (b : Int) / 16 % 4294967296 = (b : Int) / 16 := by omega
  clear hi1 hi2 hm hr hs ht lm l1 l2
  go_enter Tryd.func78, Tryd.ntmps78
  go_wp2_with fail
  go_ret
  exact ⟨rfl, rfl⟩

theorem not32_bits (n : Nat) (hn : n < 4294967296) : bits .xor .u32 IntKind.u32.max (n : Int) = ((not32 n : Nat) : Int) := by
  have e : IntKind.u32.max = ((4294967295 : Nat) : Int) := by decide
  rw [e, u32_xor_nat _ _ (by decide) hn]
  unfold not32
  rw [ones_eq]
theorem take_snocS (s : ByteArray) (k : Nat) (h : k < s.size) : s.data.toList.take (k + 1) = s.data.toList.take k ++ [s[k]] := by
  have hq : k < s.data.toList.length := by rw [size_list]; exact h
  rw [List.take_succ_eq_append_getElem hq]
  simp [ByteArray.getElem_eq_getElem_data]
set_option maxHeartbeats 1000000 in
theorem crc_Sum (s : ByteArray) (hs : s.size ≤ 140737488351232) (w : World) (ht : TblIs w) :
    Calls Tryd.prog 65 #[.string s] w fun e w' => e = .returned (.int .u32 (sumN s.data.toList : Nat)) ∧ w = w' := by
  have St := Lib.hid (fun n b hn hb => crc_step n b hn hb w ht)
  clear ht
  go_enter Tryd.func65, Tryd.ntmps65
  go_wp2_with fail
  go_loop [3, 7] (fun n i => ∃ k : Nat, k ≤ s.size ∧ i = .int .i64 k ∧ n = .int .u32 (F ones (s.data.toList.take k) : Nat)) (fun _ i => s.size - (intOf i).toNat)
  case atStart => exact ⟨0, Nat.zero_le _, rfl, by show _ = Value.int .u32 ((ones : Nat) : Int); rw [ones_eq]; rfl⟩
  case round =>
    obtain ⟨k, hk, rfl, rfl⟩ := hrel
    obtain ⟨n, hn⟩ : ∃ n, n = F ones (s.data.toList.take k) := ⟨_, rfl⟩
    have ln : n < 4294967296 := by rw [hn]; exact F_lt _ _ ones_lt
    rw [← hn]
    have Hn := Lib.hid hn
    clear hn
    by_cases hlt : k < s.size
    · have hi : (k : Int) < (s.size : Int) := by omega
      go_wp2_with fail
      refine (St.out n s[k].toNat ln s[k].toNat_lt).mono ?_; rintro e w1 ⟨rfl, rfl⟩
      go_wp2_with fail
      go_round
      case rel => exact ⟨k + 1, by omega, by go_num, by rw [take_snocS s k hlt, F_snoc, ← Hn.out, stepN_eq _ _ s[k].toNat_lt]⟩
      case measure => simp [intOf]; omega
    · have hi : ¬ (k : Int) < (s.size : Int) := by omega
      go_wp2_with fail
      go_ret
      have hk' : s.data.toList.take k = s.data.toList := List.take_of_length_le (by rw [size_list]; omega)
      have := Hn.out
      rw [hk'] at this
      exact ⟨by rw [not32_bits n ln, this]; rfl, rfl⟩
end Go.Proofs.YtbopppnlgicpeaaDoor
