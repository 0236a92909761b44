import Derived.Test.YtikgfkghfbfccaaDoorFp
import Derived.Test.YtikgfkghfbfccaaDoorRk
import Derived.Test.YtikgfkghfbfccaaDoorCt
import Derived.Deep.QuietTactic
import Derived.BigQuiet
import Derived.Lib.Strings
/- Frames (layer 18): the leaves: Size, number, num, Num, and the reference's. -/
namespace Go.Proofs.YtikgfkghfbfccaaDoor
open Go.RowKit
theorem ret_i64 {a b : Int} (h : a = b) : Ending.returned (.int .i64 a) = .returned (.int .i64 b) := by rw [h]
theorem ret_u32 {a b : Int} (h : a = b) : Ending.returned (.int .u32 a) = .returned (.int .u32 b) := by rw [h]
theorem ret_str {a b : ByteArray} (h : a = b) : Ending.returned (.string a) = .returned (.string b) := by rw [h]
theorem mk_nums (n : Int) (h0 : 0 ≤ n) (h1 : n < 4294967296) : strOfNums [n % 256, n / 256 % 256, n / 65536 % 256, n / 16777216] = ofL (mkL n) := by
  have e : n / 16777216 % 256 = n / 16777216 := by omega
  rw [← e]
  refine bytes_ext ?_
  rw [ofL_list, strOfNums_data]
  simp [mkL, beBytes, lowBE]
theorem num_be {v : Int} {n : Nat} (hn : n = 1 ∨ n = 2 ∨ n = 4) (h0 : 0 ≤ v) (h1 : v < 256 ^ n) : numR v n = (ofL (beBytes v n), 0) := by
  have e : strOfNums (lowBE v n) = ofL (beBytes v n) := bytes_ext (by rw [strOfNums_list, ofL_list])
  unfold numR
  rcases hn with rfl | rfl | rfl <;> (rw [← e]; simp [sizeB]; omega)
end Go.Proofs.YtikgfkghfbfccaaDoor

/- Frames (layer 18): Num and End: a number of a whole sector. -/
namespace Go.Proofs.YtikgfkghfbfccaaDoor
open Go.RowKit
theorem extract_list (s : ByteArray) (i j : Nat) : (s.extract i j).data.toList = (s.data.toList.drop i).take (j - i) := by
  simp [ByteArray.data_extract]
theorem below_dN (w : World) (n : Nat) : Below w.heap.size w (w.drewN n) := ⟨rfl, rfl, rfl, Nat.le_refl _, fun _ _ => rfl⟩
theorem or_add {a b i : Nat} (h : a < 2 ^ i) : a ||| b * 2 ^ i = a + b * 2 ^ i := by
  rw [Nat.or_comm, ← Nat.shiftLeft_eq, ← Nat.shiftLeft_add_eq_or_of_lt h, Nat.add_comm]
theorem or4 {c0 c1 c2 c3 : Nat} (h0 : c0 < 256) (h1 : c1 < 256) (h2 : c2 < 256) (h3 : c3 < 256) :
    bits .or .u32 (bits .or .u32 (bits .or .u32 ((c0 : Int) % 4294967296) ((c1 : Int) % 4294967296 * 256 % 4294967296)) ((c2 : Int) % 4294967296 * 65536 % 4294967296)) ((c3 : Int) % 4294967296 * 16777216 % 4294967296) = ((c0 + c1 * 256 + c2 * 65536 + c3 * 16777216 : Nat) : Int) := by
  have e0 : (c0 : Int) % 4294967296 = (c0 : Nat) := by omega
  have e1 : (c1 : Int) % 4294967296 * 256 % 4294967296 = ((c1 * 256 : Nat) : Int) := by omega
  have e2 : (c2 : Int) % 4294967296 * 65536 % 4294967296 = ((c2 * 65536 : Nat) : Int) := by omega
  have e3 : (c3 : Int) % 4294967296 * 16777216 % 4294967296 = ((c3 * 16777216 : Nat) : Int) := by omega
  have o1 : c0 ||| c1 * 256 = c0 + c1 * 256 := or_add (i := 8) (by omega)
  have o2 : c0 + c1 * 256 ||| c2 * 65536 = c0 + c1 * 256 + c2 * 65536 := or_add (i := 16) (by omega)
  have o3 : c0 + c1 * 256 + c2 * 65536 ||| c3 * 16777216 = c0 + c1 * 256 + c2 * 65536 + c3 * 16777216 := or_add (i := 24) (by omega)
  rw [e0, e1, e2, e3, u32_or_nat _ _ (by omega) (by omega), o1, u32_or_nat _ _ (by omega) (by omega), o2, u32_or_nat _ _ (by omega) (by omega), o3]
theorem valLE4 (b0 b1 b2 b3 : UInt8) : valLE [b0, b1, b2, b3] = ((b0.toNat + b1.toNat * 256 + b2.toNat * 65536 + b3.toNat * 16777216 : Nat) : Int) := by
  simp [valLE, valBE]; omega
theorem take4 (b : ByteArray) (h : 4 ≤ b.size) : b.data.toList.take 4 = [b[0], b[1], b[2], b[3]] := by
  apply List.ext_getElem
  · simp; omega
  · intro i h1 h2
    have hi : i < 4 := by simpa using h2
    rw [List.getElem_take]
    match i, hi with
    | 0, _ => simp [ByteArray.getElem_eq_getElem_data]
    | 1, _ => simp [ByteArray.getElem_eq_getElem_data]
    | 2, _ => simp [ByteArray.getElem_eq_getElem_data]
    | 3, _ => simp [ByteArray.getElem_eq_getElem_data]
end Go.Proofs.YtikgfkghfbfccaaDoor
