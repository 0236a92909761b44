/- The walks of crc.Next and of pannierref15. -/
import Derived.Test.YtikgfkghfbfccaaDoorCs
namespace Go.Proofs.YtikgfkghfbfccaaDoor
open Go.RowKit
theorem low_bit (d : Nat) (hd : d < 4294967296) : bits .and .u32 (d : Int) 1 = ((d % 2 : Nat) : Int) := by
  have := u32_and_nat d 1 hd (by decide)
  rw [nat_mask1] at this
  exact this
theorem bit_test (d b m : Nat) (hd : d < 4294967296) (hb : b < 256) : (bits .and .u32 (d : Int) 1 != bits .and .u32 ((b : Int) / 2 ^ m) 1) = (d % 2 != b / 2 ^ m % 2) := by
  have e : (b : Int) / 2 ^ m = ((b / 2 ^ m : Nat) : Int) := by simp
  have hl : b / 2 ^ m < 4294967296 := Nat.lt_of_le_of_lt (Nat.div_le_self _ _) (by omega)
  rw [e, low_bit d hd, low_bit _ hl, Bool.eq_iff_iff, bne_iff_ne, bne_iff_ne]
  omega
theorem xorP (d : Nat) (hd : d < 4294967296) : bits .xor .u32 ((d : Int) / 2) 3988292384 = ((d / 2 ^^^ P32 : Nat) : Int) := by
  have e : (d : Int) / 2 = ((d / 2 : Nat) : Int) := by omega
  rw [e]
  exact u32_xor_nat (d / 2) 3988292384 (by omega) (by decide)
theorem F_one (n b : Nat) (hb : b < 256) : F n (strOfNums [(b : Int)]).data.toList = stepN n b := by
  rw [strOfNums_data, stepN_eq _ _ hb]
  show Z (n ^^^ (UInt8.ofNat (b : Int).toNat).toNat) = _
  have : (UInt8.ofNat (b : Int).toNat).toNat = b := by
    rw [Int.toNat_natCast, UInt8.toNat_ofNat']; omega
  rw [this]
end Go.Proofs.YtikgfkghfbfccaaDoor
