/- What the condition on errors.errorType gives a walk; a world that meets it. After the kit's worked text Toyas. -/
import Derived.Test.YtoebldemcgahnaaGreatDoorRows
import Derived.Test.YtoebldemcgahnaaGreatDoorPkc
import Derived.ChangeSame
import Derived.ChangeVars
import Derived.JoinedOf
import Derived.RowKit
import Derived.RowKitTokens
import Derived.LaidLaws
import Derived.LaidHandle
import Derived.Stop.Joined
namespace Go.Proofs.YtoebldemcgahnaaGreatDoor
open Go.ChangeShapes Go.WideShapes Go.RowKit

theorem sown : ownKnob Tryz.prog.godebug = none := by kernel_rfl
theorem set_glob : Tryz.prog.globalNamed "errors.errorType" = some 9 := by kernel_rfl
theorem set_rt : (Tryz.prog.cutTypes.find? (·.1 == "internal/reflectlite.rtype")).map (·.2) = some 223 := by kernel_rfl
theorem set_oneRow : ((List.range 321).filter fun t => Tryz.prog.rowNamed t [101, 114, 114, 111, 114]) = [121] := by kernel_rfl
theorem set_size : Tryz.prog.types.size = 321 := by kernel_rfl

def laidE {H : Type} : List (String × DataW H) := [("errors.errorType", Rows.laid_errors_errorType)]
/-- The variable's one cell. -/
theorem et_of_laid {W : World} (h : laidMetH Tryz.prog [("errors.errorType", Rows.laid_errors_errorType)] W) : EtIs W := by
  have h' : laidMet Tryz.prog [] W ∧ handlesMet Tryz.prog [("errors.errorType", Rows.laid_errors_errorType)] W := h
  obtain ⟨name, u, ty, e1, e2, e3, e4, e5⟩ := h'.2 _ (List.mem_singleton.2 rfl)
  have en : name = [101, 114, 114, 111, 114] := (Option.some.inj e1).symm
  subst en
  obtain rfl := Option.some.inj (set_rt.symm.trans e2)
  have hm : ty ∈ (List.range 321).filter fun t => Tryz.prog.rowNamed t [101, 114, 114, 111, 114] := List.mem_filter.2 ⟨List.mem_range.2 (by rw [← set_size]; exact e3), e4⟩
  rw [set_oneRow] at hm
  obtain rfl := List.mem_singleton.1 hm
  have hh : typeHandle Tryz.prog 121 = .pointer (some ⟨13, 121, none⟩) := by kernel_rfl
  rw [hh] at e5
  unfold EtIs
  simpa using World.var?_cell set_glob e5 0

/-- A world that meets the condition: the settled one, the variable's cell laid. -/
noncomputable def laidWorldE (os : Os) : World :=
  let w0 := World.holding Tryz.prog os ⟨#[], #[], []⟩
  { w0 with heap := w0.heap.modify 9 fun
      | .cells _ t frozen => .cells #[.iface 223 (.agg #[.pointer (some ⟨13, 121, none⟩)])] t frozen
      | o => o }
theorem laidWorldE_met (os : Os) (args : Array Value) : laidMetH Tryz.prog [("errors.errorType", Rows.laid_errors_errorType)] ((laidWorldE os).forCall (fun _ _ => 0) ⟨#[], args, []⟩).memory :=
  laidMetH_of_parts (laidMet_nil _ _) (by kernel_rfl)
end Go.Proofs.YtoebldemcgahnaaGreatDoor
