/- The walks of pannierref16: the same answers as package pack's. -/
import Derived.Test.YtikgfkghfbfccaaDoorPkc
namespace Go.Proofs.YtikgfkghfbfccaaDoor
open Go.RowKit

theorem div_pow256 (v : Int) (k : Nat) : v / 256 ^ (k + 1) = v / 256 ^ k / 256 := by
  rw [Int.pow_succ, ← Int.ediv_ediv_of_nonneg (Int.pow_nonneg (by decide))]
theorem ret_strn {xs ys : List Int} {c : Int} (h : xs = ys) : Ending.returned (.tuple #[.string (strOfNums xs), .int .i64 c]) = .returned (.tuple #[.string (strOfNums ys), .int .i64 c]) := by rw [h]

/-- Must: the number as uint64. -/
def mustR (v n : Int) : ByteArray := (numR (v % 18446744073709551616) n).1
/-! ### Take, Cut -/
theorem mul256 (x c : Int) (h0 : 0 ≤ x) (h1 : x < 72057594037927936) (h2 : 0 ≤ c) (h3 : c < 256) : IntKind.u64.wrap (IntKind.u64.wrap (x * 256) + IntKind.u64.wrap c) = x * 256 + c := by
  rw [IntKind.wrap_u64, IntKind.wrap_u64, IntKind.wrap_u64]; omega
theorem takeR2_bad {b : ByteArray} {a : Int} (h : (takeR b a 2).2.2 ≠ 0) : takeR b a 2 = (0, 0, 11) := by
  unfold takeR at h ⊢
  have hs : sizeB 2 = true := by decide
  rw [if_neg (by simp [hs])] at h ⊢
  by_cases hc : a < 0 ∨ (b.size : Int) < a ∨ (b.size : Int) - a < 2
  · rw [if_pos hc]
  · rw [if_neg hc] at h; exact absurd rfl h
end Go.Proofs.YtikgfkghfbfccaaDoor
