/- Frames (layer 18): Make. -/
import Derived.Test.YtikgfkghfbfccaaDoorFb
import Derived.Test.YtikgfkghfbfccaaDoorSl
import Derived.Test.YtikgfkghfbfccaaDoorSh
import Derived.Deep.RegionHeld3
import Derived.LoopTactic
namespace Go.Proofs.YtikgfkghfbfccaaDoor
open Go.RowKit
theorem repeatL_zero : ∀ c : Nat, Lib.repeatL [(0 : UInt8)] c = List.replicate c 0
  | 0 => rfl
  | c + 1 => by
    show [0] ++ Lib.repeatL [0] c = _
    rw [repeatL_zero c, List.replicate_succ]; rfl
theorem Tryd.info9 : (Tryd.prog.info? 9).map (fun i => (i.zero, i.size, i.bytes)) = some (some (.string ⟨#[]⟩), 1, 16) := by kernel_rfl
theorem ofL_append (a b : List UInt8) : ofL a ++ ofL b = ofL (a ++ b) := bytes_ext (by rw [list_append, ofL_list, ofL_list, ofL_list])
end Go.Proofs.YtikgfkghfbfccaaDoor
