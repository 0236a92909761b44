/- Frames (layer 18): the reference's End; zeros. -/
import Derived.Test.YtbopppnlgicpeaaDoorFk
namespace Go.Proofs.YtbopppnlgicpeaaDoor
open Go.RowKit
theorem valLE_cons (c : UInt8) (l : List UInt8) : valLE (c :: l) = (c.toNat : Int) + 256 * valLE l := by
  unfold valLE
  rw [List.reverse_cons, valBE_snoc]; omega
theorem valLE_bd {l : List UInt8} {n : Nat} (h : l.length = n) : 0 ≤ valLE l ∧ valLE l < 256 ^ n := valBE_bd n _ (by rw [List.length_reverse, h])
theorem or_byte {n c : Nat} (hn : n < 16777216) (hc : c < 256) : bits .or .u32 ((n : Int) * 256) ((c : Int) % 4294967296) = ((n * 256 + c : Nat) : Int) := by
  have e1 : (n : Int) * 256 = ((n * 256 : Nat) : Int) := by omega
  have e2 : (c : Int) % 4294967296 = ((c : Nat) : Int) := by omega
  have o1 : n * 256 ||| c = n * 256 + c := by rw [Nat.or_comm, or_add (i := 8) (by omega), Nat.add_comm]
  rw [e1, e2, u32_or_nat _ _ (by omega) (by omega), o1]
set_option maxHeartbeats 1000000 in
theorem ref18_End (s : ByteArray) (hs : s.size = 4) (w : World) : Calls Tryd.prog 48 #[.string s] w fun e w' => e = .returned (.int .u32 (valLE s.data.toList)) ∧ w = w' := by
  have hl : s.data.toList.length = 4 := by rw [size_list, hs]
  have z : (s.size : Int) - 1 = ((4 : Nat) : Int) - 1 := by rw [hs]
  have hd : Hid (∀ k (h : k < s.size), valLE (s.data.toList.drop k) = ((s[k]'h).toNat : Int) + 256 * valLE (s.data.toList.drop (k + 1))) := fun k h => by
    rw [List.drop_eq_getElem_cons (by rw [size_list]; exact h), valLE_cons]
    simp [ByteArray.getElem_eq_getElem_data]
  have hb : Hid (∀ k, 1 ≤ k → 0 ≤ valLE (s.data.toList.drop k) ∧ valLE (s.data.toList.drop k) < 16777216) := fun k hk => by
    have h := valLE_bd (l := s.data.toList.drop k) rfl
    have h2 : (s.data.toList.drop k).length ≤ 3 := by rw [List.length_drop]; omega
    have h3 : (256 : Int) ^ (s.data.toList.drop k).length ≤ 16777216 := by
      generalize (s.data.toList.drop k).length = j at h2
      rcases (show j = 0 ∨ j = 1 ∨ j = 2 ∨ j = 3 by omega) with rfl | rfl | rfl | rfl <;> decide
    omega
  have Hs := Lib.hid hs
  have bz : s.size ≤ 4 := by omega
  clear hs hl
  go_enter Tryd.func48, Tryd.ntmps48
  go_wp2_with fail
  go_loop [3, 4] (fun n i => ∃ k : Nat, k ≤ 4 ∧ i = .int .i64 ((k : Int) - 1) ∧ n = .int .u32 (valLE (s.data.toList.drop k))) (fun _ i => (intOf i + 1).toNat)
  case atStart =>
    refine ⟨4, by omega, rfl, ?_⟩
    rw [List.drop_of_length_le (by rw [size_list]; omega)]; rfl
  case round =>
    obtain ⟨k, hk, rfl, rfl⟩ := hrel
    clear z
    cases k with
    | zero =>
      have h1 : ¬ (0 : Int) ≤ ((0 : Nat) : Int) - 1 := by decide
      go_wp2_with fail
      go_ret
      exact ⟨rfl, rfl⟩
    | succ k =>
      have hbk := hb.out (k + 1) (by omega)
      have hks : k < s.size := by have := Hs.out; omega
      have hdk := hd.out k hks
      obtain ⟨n, hn⟩ : ∃ n : Nat, (n : Int) = valLE (s.data.toList.drop (k + 1)) := ⟨(valLE (s.data.toList.drop (k + 1))).toNat, by omega⟩
      rw [← hn] at hbk hdk ⊢
      have e1 : ((k + 1 : Nat) : Int) - 1 = (k : Int) := by omega
      rw [e1]
      have i0 : (0 : Int) ≤ (k : Int) := by omega
      have i1 : (k : Int) < (s.size : Int) := by omega
      have ho := or_byte (n := n) (c := s[k].toNat) (by omega) s[k].toNat_lt
      have HD : Hid (valLE (s.data.toList.drop k) = ((n * 256 + s[k].toNat : Nat) : Int)) := by show _ = _; rw [hdk]; omega
      clear hdk hn e1
      go_wp2_with fail
      go_round
      case rel => exact ⟨k, by omega, rfl, by rw [HD.out, Int.natCast_add, Int.natCast_mul]; rfl⟩
      case measure => simp [intOf]
end Go.Proofs.YtbopppnlgicpeaaDoor
