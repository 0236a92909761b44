/- The walks of package crc. -/
import Derived.Test.YtikgfkghfbfccaaDoorCp
import Derived.Test.YtikgfkghfbfccaaDoorFr
import Derived.Test.YtikgfkghfbfccaaDoorEd
import Derived.Test.YtikgfkghfbfccaaDoorPuB
import Derived.Laws.BitsAllLaws
import Derived.RowKit
import Derived.LoopTactic
namespace Go.Proofs.YtikgfkghfbfccaaDoor
open Go.RowKit
theorem tbl_lt (i : Nat) : tbl i < 4294967296 := by
  by_cases h : i < 16
  · revert h; revert i; decide
  · unfold tbl
    rw [List.getD, List.getElem?_eq_none (by simp; omega)]
    decide
theorem xor16 (x i : Nat) (hx : x < 4294967296) : bits .xor .u32 ((x : Int) / 16) ((tbl i : Nat) : Int) = ((x / 16 ^^^ tbl i : Nat) : Int) := by
  have e : (x : Int) / 16 = ((x / 16 : Nat) : Int) := by omega
  rw [e, u32_xor_nat _ _ (by omega) (tbl_lt i)]
theorem and15 (x y : Nat) (hx : x < 4294967296) (hy : y < 4294967296) : bits .and .u32 (bits .xor .u32 (x : Int) (y : Int)) 15 = (((x ^^^ y) % 16 : Nat) : Int) := by
  rw [u32_xor_nat _ _ hx hy]
  have := u32_and_nat (x ^^^ y) 15 (xor_lt hx hy) (by decide)
  rw [nat_mask4] at this
  exact this
theorem not32_bits (n : Nat) (hn : n < 4294967296) : bits .xor .u32 IntKind.u32.max (n : Int) = ((not32 n : Nat) : Int) := by
  have e : IntKind.u32.max = ((4294967295 : Nat) : Int) := by decide
  rw [e, u32_xor_nat _ _ (by decide) hn]
  unfold not32
  rw [ones_eq]
theorem take_snocS (s : ByteArray) (k : Nat) (h : k < s.size) : s.data.toList.take (k + 1) = s.data.toList.take k ++ [s[k]] := by
  have hq : k < s.data.toList.length := by rw [size_list]; exact h
  rw [List.take_succ_eq_append_getElem hq]
  simp [ByteArray.getElem_eq_getElem_data]
end Go.Proofs.YtikgfkghfbfccaaDoor
