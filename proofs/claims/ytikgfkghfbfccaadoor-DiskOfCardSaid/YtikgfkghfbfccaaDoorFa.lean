/- Frames (layer 18): the leaves: Size, number, num, Num, and the reference's. -/
import Derived.Test.YtikgfkghfbfccaaDoorFp
import Derived.Test.YtikgfkghfbfccaaDoorRk
import Derived.Test.YtikgfkghfbfccaaDoorCt
namespace Go.Proofs.YtikgfkghfbfccaaDoor
open Go.RowKit
theorem ret_i64 {a b : Int} (h : a = b) : Ending.returned (.int .i64 a) = .returned (.int .i64 b) := by rw [h]
theorem ret_u32 {a b : Int} (h : a = b) : Ending.returned (.int .u32 a) = .returned (.int .u32 b) := by rw [h]
theorem ret_str {a b : ByteArray} (h : a = b) : Ending.returned (.string a) = .returned (.string b) := by rw [h]
theorem mk_nums (n : Int) (h0 : 0 ≤ n) (h1 : n < 4294967296) : strOfNums [n % 256, n / 256 % 256, n / 65536 % 256, n / 16777216] = ofL (mkL n) := by
  have e : n / 16777216 % 256 = n / 16777216 := by omega
  rw [← e]
  refine bytes_ext ?_
  rw [ofL_list, strOfNums_data]
  simp [mkL, beBytes, lowBE]
theorem num_be {v : Int} {n : Nat} (hn : n = 1 ∨ n = 2 ∨ n = 4) (h0 : 0 ≤ v) (h1 : v < 256 ^ n) : numR v n = (ofL (beBytes v n), 0) := by
  have e : strOfNums (lowBE v n) = ofL (beBytes v n) := bytes_ext (by rw [strOfNums_list, ofL_list])
  unfold numR
  rcases hn with rfl | rfl | rfl <;> (rw [← e]; simp [sizeB]; omega)
end Go.Proofs.YtikgfkghfbfccaaDoor
