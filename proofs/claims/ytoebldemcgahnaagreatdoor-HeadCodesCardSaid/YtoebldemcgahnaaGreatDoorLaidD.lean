/- What the disk rows' condition on the laid variables gives a walk; a world that meets it. -/
import Derived.Test.YtoebldemcgahnaaGreatDoorRows
import Derived.Test.YtoebldemcgahnaaGreatDoorDb
import Derived.ChangeSame
import Derived.ChangeVars
import Derived.JoinedOf
import Derived.RowKit
import Derived.RowKitTokens
import Derived.LaidLaws
import Derived.LaidHandle
import Derived.Stop.Joined
import Derived.Stop.LaidTwo
import Derived.OpenShut
namespace Go.Proofs.YtoebldemcgahnaaGreatDoor
open Go.ChangeShapes Go.WideShapes Go.RowKit
theorem sownD : ownKnob Tryz.prog.godebug = none := by kernel_rfl
theorem dk_es_cells : Tryz.prog.cellsOf 310 = 1 := by kernel_rfl
theorem dk_st_cells : Tryz.prog.cellsOf 9 = 1 := by kernel_rfl
theorem dk_es_star : "*" ++ "errors.errorString" = "*errors.errorString" := by decide
theorem dk_es_row (u : TypeId) (h : Tryz.prog.typeName? 3 u = some "*errors.errorString") : u = 292 :=
  typeName_ptr_named (nm := "errors.errorString") (by rw [dk_es_star]; kernel_rfl) (by kernel_rfl) (by decide) u (by rw [dk_es_star]; exact h)
theorem gl_errDead : Tryz.prog.globalNamed "pannier/disk.errDead" = some 7 := by kernel_rfl
theorem gt_errDead : (Tryz.prog.globals[7]?).map (·.type) = some 121 := by kernel_rfl
theorem gl_errArg : Tryz.prog.globalNamed "pannier/disk.errArg" = some 0 := by kernel_rfl
theorem gt_errArg : (Tryz.prog.globals[0]?).map (·.type) = some 121 := by kernel_rfl
/-- What the laid variables give a walk. -/
theorem dk_of_met {W : World} {r : List (String × DataW Unit)} (h : laidMet Tryz.prog (("pannier/disk.errDead", Rows.laid_pannier_disk_errDead) :: ("pannier/disk.errArg", Rows.laid_pannier_disk_errArg) :: r) W) : ∃ aD aA, DkW W aD aA := by
  obtain ⟨a0, a1, _, _, c0, c1, t0, t1, hv0, hv1, _, _, _, _, _, _, hne, hb0, hb1⟩ := laid_sentinels2 h gl_errDead gt_errDead gl_errArg gt_errArg Tryz.underlying121 dk_es_row Tryz.underlying292 Tryz.underlying310 rfl rfl Tryz.underlying9 dk_es_cells dk_st_cells
  exact ⟨a0, a1, by simpa using World.var?_cell gl_errDead hv0 0, by simpa using World.var?_cell gl_errArg hv1 0, ⟨c0, t0, hb0⟩, ⟨c1, t1, hb1⟩, hne⟩
theorem dk_of_laid {W : World} (h : laidMetH Tryz.prog [("pannier/disk.errDead", Rows.laid_pannier_disk_errDead), ("pannier/disk.errArg", Rows.laid_pannier_disk_errArg)] W) : ∃ aD aA, DkW W aD aA := by
  have h' : laidMet Tryz.prog [("pannier/disk.errDead", Rows.laid_pannier_disk_errDead), ("pannier/disk.errArg", Rows.laid_pannier_disk_errArg)] W := h
  exact dk_of_met h'
noncomputable def lowD : Nat := (World.holding Tryz.prog default ⟨#[], #[], []⟩).heap.size
/-- A world that meets the condition. -/
noncomputable def laidWorldD (os : Os) : World :=
  let w0 := World.holding Tryz.prog os ⟨#[.cells #[.string ⟨#[105, 116, 32, 99, 114, 97, 115, 104, 101, 100]⟩] 310, .cells #[.string ⟨#[110, 111, 32, 115, 117, 99, 104, 32, 115, 101, 99, 116, 111, 114]⟩] 310], #[], []⟩
  { w0 with heap := (fun h => h.modify 7 fun
      | .cells _ t frozen => .cells #[.iface 292 (.pointer (some ⟨lowD + 0, 0, none⟩))] t frozen
      | o => o) ((fun h => h.modify 0 fun
      | .cells _ t frozen => .cells #[.iface 292 (.pointer (some ⟨lowD + 1, 0, none⟩))] t frozen
      | o => o) w0.heap) }
theorem laidWorldD_met (os : Os) (args : Array Value) : laidMetH Tryz.prog [("pannier/disk.errDead", Rows.laid_pannier_disk_errDead), ("pannier/disk.errArg", Rows.laid_pannier_disk_errArg)] ((laidWorldD os).forCall (fun _ _ => 0) ⟨#[], args, []⟩).memory :=
  laidMet_of_run' 20 (by kernel_rfl) (by kernel_rfl)
end Go.Proofs.YtoebldemcgahnaaGreatDoor
