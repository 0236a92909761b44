import Derived.Test.YtikgfkghfbfccaaDoorCp
import Derived.Test.YtikgfkghfbfccaaDoorFr
import Derived.Test.YtikgfkghfbfccaaDoorEd
import Derived.Test.YtikgfkghfbfccaaDoorPuB
import Derived.Laws.BitsAllLaws
import Derived.RowKit
import Derived.LoopTactic
/- The walks of package crc. -/
namespace Go.Proofs.YtikgfkghfbfccaaDoor
open Go.RowKit
theorem tbl_lt (i : Nat) : tbl i < 4294967296 := by
  by_cases h : i < 16
  · revert h; revert i; decide
  · unfold tbl
    rw [List.getD, List.getElem?_eq_none (by simp; omega)]
    decide
theorem xor16 (x i : Nat) (hx : x < 4294967296) : bits .xor .u32 ((x : Int) / 16) ((tbl i : Nat) : Int) = ((x / 16 ^^^ tbl i : Nat) : Int) := by
  have e : (x : Int) / 16 = ((x / 16 : Nat) : Int) := by omega
  rw [e, u32_xor_nat _ _ (by omega) (tbl_lt i)]
theorem and15 (x y : Nat) (hx : x < 4294967296) (hy : y < 4294967296) : bits .and .u32 (bits .xor .u32 (x : Int) (y : Int)) 15 = (((x ^^^ y) % 16 : Nat) : Int) := by
  rw [u32_xor_nat _ _ hx hy]
  have := u32_and_nat (x ^^^ y) 15 (xor_lt hx hy) (by decide)
  rw [nat_mask4] at this
  exact this
theorem not32_bits (n : Nat) (hn : n < 4294967296) : bits .xor .u32 IntKind.u32.max (n : Int) = ((not32 n : Nat) : Int) := by
  have e : IntKind.u32.max = ((4294967295 : Nat) : Int) := by decide
  rw [e, u32_xor_nat _ _ (by decide) hn]
  unfold not32
  rw [ones_eq]
theorem take_snocS (s : ByteArray) (k : Nat) (h : k < s.size) : s.data.toList.take (k + 1) = s.data.toList.take k ++ [s[k]] := by
  have hq : k < s.data.toList.length := by rw [size_list]; exact h
  rw [List.take_succ_eq_append_getElem hq]
  simp [ByteArray.getElem_eq_getElem_data]
end Go.Proofs.YtikgfkghfbfccaaDoor

/- The walks of crc.Next and of pannierref15. -/
namespace Go.Proofs.YtikgfkghfbfccaaDoor
open Go.RowKit
theorem low_bit (d : Nat) (hd : d < 4294967296) : bits .and .u32 (d : Int) 1 = ((d % 2 : Nat) : Int) := by
  have := u32_and_nat d 1 hd (by decide)
  rw [nat_mask1] at this
  exact this
theorem bit_test (d b m : Nat) (hd : d < 4294967296) (hb : b < 256) : (bits .and .u32 (d : Int) 1 != bits .and .u32 ((b : Int) / 2 ^ m) 1) = (d % 2 != b / 2 ^ m % 2) := by
  have e : (b : Int) / 2 ^ m = ((b / 2 ^ m : Nat) : Int) := by simp
  have hl : b / 2 ^ m < 4294967296 := Nat.lt_of_le_of_lt (Nat.div_le_self _ _) (by omega)
  rw [e, low_bit d hd, low_bit _ hl, Bool.eq_iff_iff, bne_iff_ne, bne_iff_ne]
  omega
theorem xorP (d : Nat) (hd : d < 4294967296) : bits .xor .u32 ((d : Int) / 2) 3988292384 = ((d / 2 ^^^ P32 : Nat) : Int) := by
  have e : (d : Int) / 2 = ((d / 2 : Nat) : Int) := by omega
  rw [e]
  exact u32_xor_nat (d / 2) 3988292384 (by omega) (by decide)
theorem F_one (n b : Nat) (hb : b < 256) : F n (strOfNums [(b : Int)]).data.toList = stepN n b := by
  rw [strOfNums_data, stepN_eq _ _ hb]
  show Z (n ^^^ (UInt8.ofNat (b : Int).toNat).toNat) = _
  have : (UInt8.ofNat (b : Int).toNat).toNat = b := by
    rw [Int.toNat_natCast, UInt8.toNat_ofNat']; omega
  rw [this]
end Go.Proofs.YtikgfkghfbfccaaDoor
