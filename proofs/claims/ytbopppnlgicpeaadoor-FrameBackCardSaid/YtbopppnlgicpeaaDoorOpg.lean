/- How an argument of the type [2]int is opened. -/
import Derived.Test.YtbopppnlgicpeaaDoorOpf
import Derived.ProofKit
import Derived.OpenShut
import Derived.Below
import Derived.Carry
namespace Go.Proofs.YtbopppnlgicpeaaDoor
open Go.ChangeShapes Go.WideShapes Go.RowKit
theorem arr2i64_under : Tryd.prog.underlying 75 = some (.array 2 3) := by kernel_rfl
theorem arr2i64_cells : Tryd.prog.cellsOf 75 = 2 := by kernel_rfl
theorem onei64_cells : Tryd.prog.cellsOf 3 = 1 := by kernel_rfl
section
variable {H : Type} {enc : TypeId × Value → H} {W : World} {base : Nat} {sp : Nat → Bool} {held : Bool} {r : Reach} {b0 : Nat} {v : Value} {d : DataW H} {p : List MemPlace}
set_option maxRecDepth 100000 in
theorem open_a2i64 (hv : Value.okWide Tryd.prog W r b0 75 v) (h : DataW.Trod enc Tryd.prog W base sp held 75 v d p) :
    ∃ x y : Int, v = .agg #[.int .i64 x, .int .i64 y] ∧ (Lit.int .i64 x).wf = true ∧ (Lit.int .i64 y).wf = true :=
  open_a2 arr2i64_under arr2i64_cells onei64_cells Tryd.underlying3 hv h
end
end Go.Proofs.YtbopppnlgicpeaaDoor
