/- What the disk rows' condition on the laid variables gives a walk; a world that meets it. -/
import Derived.Test.YtdbiebnnogjccaaGreatDoorRows
import Derived.Test.YtdbiebnnogjccaaGreatDoorFp
import Derived.ChangeSame
import Derived.ChangeVars
import Derived.JoinedOf
import Derived.RowKit
import Derived.RowKitTokens
import Derived.LaidLaws
import Derived.LaidHandle
import Derived.Stop.Joined
import Derived.Stop.LaidTwo
import Derived.OpenShut
import Derived.Test.YtdbiebnnogjccaaGreatDoorLaidF
import Derived.Test.YtdbiebnnogjccaaGreatDoorGb
namespace Go.Proofs.YtdbiebnnogjccaaGreatDoor
open Go.ChangeShapes Go.WideShapes Go.RowKit
theorem sownD : ownKnob Tryz.prog.godebug = none := by kernel_rfl
theorem dk_es_cells : Tryz.prog.cellsOf 326 = 1 := by kernel_rfl
theorem dk_st_cells : Tryz.prog.cellsOf 9 = 1 := by kernel_rfl
theorem dk_es_star : "*" ++ "errors.errorString" = "*errors.errorString" := by decide
theorem dk_es_row (u : TypeId) (h : Tryz.prog.typeName? 3 u = some "*errors.errorString") : u = 308 :=
  typeName_ptr_named (nm := "errors.errorString") (by rw [dk_es_star]; kernel_rfl) (by kernel_rfl) (by decide) u (by rw [dk_es_star]; exact h)
theorem gl_errDead : Tryz.prog.globalNamed "pannier/disk.errDead" = some 8 := by kernel_rfl
theorem gt_errDead : (Tryz.prog.globals[8]?).map (·.type) = some 122 := by kernel_rfl
theorem gl_errArg : Tryz.prog.globalNamed "pannier/disk.errArg" = some 0 := by kernel_rfl
theorem gt_errArg : (Tryz.prog.globals[0]?).map (·.type) = some 122 := by kernel_rfl
/-- What the laid variables give a walk. -/
theorem dk_of_met {W : World} {r : List (String × DataW Unit)} (h : laidMet Tryz.prog (("pannier/disk.errDead", Rows.laid_pannier_disk_errDead) :: ("pannier/disk.errArg", Rows.laid_pannier_disk_errArg) :: r) W) : ∃ aD aA, DkW W aD aA := by
  obtain ⟨a0, a1, _, _, c0, c1, t0, t1, hv0, hv1, _, _, _, _, _, _, hne, hb0, hb1⟩ := laid_sentinels2 h gl_errDead gt_errDead gl_errArg gt_errArg Tryz.underlying122 dk_es_row Tryz.underlying308 Tryz.underlying326 rfl rfl Tryz.underlying9 dk_es_cells dk_st_cells
  exact ⟨a0, a1, by simpa using World.var?_cell gl_errDead hv0 0, by simpa using World.var?_cell gl_errArg hv1 0, ⟨c0, t0, hb0⟩, ⟨c1, t1, hb1⟩, hne⟩
theorem dk_of_laid {W : World} (h : laidMetH Tryz.prog [("pannier/disk.errDead", Rows.laid_pannier_disk_errDead), ("pannier/disk.errArg", Rows.laid_pannier_disk_errArg)] W) : ∃ aD aA, DkW W aD aA := by
  have h' : laidMet Tryz.prog [("pannier/disk.errDead", Rows.laid_pannier_disk_errDead), ("pannier/disk.errArg", Rows.laid_pannier_disk_errArg)] W := h
  exact dk_of_met h'
noncomputable def lowD : Nat := (World.holding Tryz.prog default ⟨#[], #[], []⟩).heap.size
/-- A world that meets the condition. -/
noncomputable def laidWorldD (os : Os) : World :=
  let w0 := World.holding Tryz.prog os ⟨#[.cells #[.string ⟨#[105, 116, 32, 99, 114, 97, 115, 104, 101, 100]⟩] 326, .cells #[.string ⟨#[110, 111, 32, 115, 117, 99, 104, 32, 115, 101, 99, 116, 111, 114]⟩] 326], #[], []⟩
  { w0 with heap := (fun h => h.modify 8 fun
      | .cells _ t frozen => .cells #[.iface 308 (.pointer (some ⟨lowD + 0, 0, none⟩))] t frozen
      | o => o) ((fun h => h.modify 0 fun
      | .cells _ t frozen => .cells #[.iface 308 (.pointer (some ⟨lowD + 1, 0, none⟩))] t frozen
      | o => o) w0.heap) }
theorem laidWorldD_met (os : Os) (args : Array Value) : laidMetH Tryz.prog [("pannier/disk.errDead", Rows.laid_pannier_disk_errDead), ("pannier/disk.errArg", Rows.laid_pannier_disk_errArg)] ((laidWorldD os).forCall (fun _ _ => 0) ⟨#[], args, []⟩).memory :=
  laidMet_of_run' 20 (by kernel_rfl) (by kernel_rfl)
end Go.Proofs.YtdbiebnnogjccaaGreatDoor

/- What the head rows' condition on the laid variables gives a walk; a world that meets it. -/
namespace Go.Proofs.YtdbiebnnogjccaaGreatDoor
open Go.ChangeShapes Go.WideShapes Go.RowKit
/-- What the laid variables give a walk. -/
theorem hw_of_laid {W : World} (h : laidMetH Tryz.prog [("pannier/crc.table", Rows.laid_pannier_crc_table), ("unicode/utf8.acceptRanges", Rows.laid_unicode_utf8_acceptRanges), ("errors.errorType", Rows.laid_errors_errorType), ("pannier/disk.errDead", Rows.laid_pannier_disk_errDead), ("pannier/disk.errArg", Rows.laid_pannier_disk_errArg), ("pannier/frame.errTorn", Rows.laid_pannier_frame_errTorn), ("pannier/frame.errOther", Rows.laid_pannier_frame_errOther), ("pannier/frame.errSum", Rows.laid_pannier_frame_errSum), ("unicode/utf8.first", Rows.laid_unicode_utf8_first)] W) : ∃ a0 a1 a2 aD aA, HwW W a0 a1 a2 aD aA := by
  have h' : laidMet Tryz.prog [("pannier/crc.table", Rows.laid_pannier_crc_table), ("unicode/utf8.acceptRanges", Rows.laid_unicode_utf8_acceptRanges), ("pannier/disk.errDead", Rows.laid_pannier_disk_errDead), ("pannier/disk.errArg", Rows.laid_pannier_disk_errArg), ("pannier/frame.errTorn", Rows.laid_pannier_frame_errTorn), ("pannier/frame.errOther", Rows.laid_pannier_frame_errOther), ("pannier/frame.errSum", Rows.laid_pannier_frame_errSum), ("unicode/utf8.first", Rows.laid_unicode_utf8_first)] W ∧ handlesMet Tryz.prog [("errors.errorType", Rows.laid_errors_errorType)] W := h
  obtain ⟨h1, h2⟩ := h'
  have ht := tbl_of_met (laidMet_one h1)
  have h3 := laidMet_tail (laidMet_tail h1)
  obtain ⟨aD, aA, hd⟩ := dk_of_met h3
  have h4 := laidMet_tail (laidMet_tail h3)
  have h5 := laidMet_tail h4
  have he : EtIs W := et_of_laid (show laidMetH Tryz.prog [("errors.errorType", Rows.laid_errors_errorType)] W from ⟨⟨[], rfl, List.nodup_nil, fun _ _ h => absurd h (by simp)⟩, h2⟩)
  obtain ⟨a0, a1, _, _, c0, c1, t0, t1, hv0, hv1, _, _, _, _, _, _, _, hb0, hb1⟩ := laid_sentinels2 h4 gl_errTorn gt_errTorn gl_errOther gt_errOther Tryz.underlying122 es_row Tryz.underlying308 Tryz.underlying326 rfl rfl Tryz.underlying9 es_cells st_cells
  obtain ⟨b1, a2, _, _, _, c2, _, t2, hv1', hv2, _, _, _, _, _, _, _, _, hb2⟩ := laid_sentinels2 h5 gl_errOther gt_errOther gl_errSum gt_errSum Tryz.underlying122 es_row Tryz.underlying308 Tryz.underlying326 rfl rfl Tryz.underlying9 es_cells st_cells
  exact ⟨a0, a1, a2, aD, aA, ⟨he, ht, by simpa using World.var?_cell gl_errTorn hv0 0, by simpa using World.var?_cell gl_errOther hv1 0, by simpa using World.var?_cell gl_errSum hv2 0, ⟨c0, t0, hb0⟩, ⟨c1, t1, hb1⟩, ⟨c2, t2, hb2⟩⟩, hd⟩
noncomputable def lowH : Nat := (World.holding Tryz.prog default ⟨#[], #[], []⟩).heap.size
/-- A world that meets the condition. -/
noncomputable def laidWorldH (os : Os) : World :=
  let w0 := World.holding Tryz.prog os ⟨#[.cells #[.string ⟨#[105, 116, 32, 99, 114, 97, 115, 104, 101, 100]⟩] 326, .cells #[.string ⟨#[110, 111, 32, 115, 117, 99, 104, 32, 115, 101, 99, 116, 111, 114]⟩] 326, .cells #[.string ⟨#[110, 111, 116, 32, 119, 104, 111, 108, 101]⟩] 326, .cells #[.string ⟨#[111, 102, 32, 97, 110, 111, 116, 104, 101, 114, 32, 114, 101, 99, 111, 114, 100]⟩] 326, .cells #[.string ⟨#[97, 32, 119, 114, 111, 110, 103, 32, 115, 117, 109]⟩] 326], #[], []⟩
  { w0 with heap := (fun h => h.modify 14 fun
      | .cells _ t frozen => .cells #[.int .u32 0, .int .u32 498536548, .int .u32 997073096, .int .u32 651767980, .int .u32 1994146192, .int .u32 1802195444, .int .u32 1303535960, .int .u32 1342533948, .int .u32 3988292384, .int .u32 4027552580, .int .u32 3604390888, .int .u32 3412177804, .int .u32 2607071920, .int .u32 2262029012, .int .u32 2685067896, .int .u32 3183342108] t frozen
      | o => o) ((fun h => h.modify 17 fun
      | .cells _ t frozen => .cells #[.int .u8 128, .int .u8 191, .int .u8 160, .int .u8 191, .int .u8 128, .int .u8 159, .int .u8 144, .int .u8 191, .int .u8 128, .int .u8 143, .int .u8 0, .int .u8 0, .int .u8 0, .int .u8 0, .int .u8 0, .int .u8 0, .int .u8 0, .int .u8 0, .int .u8 0, .int .u8 0, .int .u8 0, .int .u8 0, .int .u8 0, .int .u8 0, .int .u8 0, .int .u8 0, .int .u8 0, .int .u8 0, .int .u8 0, .int .u8 0, .int .u8 0, .int .u8 0] t frozen
      | o => o) ((fun h => h.modify 13 fun
      | .cells _ t frozen => .cells #[.iface 238 (.agg #[.pointer (some ⟨18, 122, none⟩)])] t frozen
      | o => o) ((fun h => h.modify 16 fun
      | .cells _ t frozen => .cells (Go.Pinned.utf8FirstZ.map fun n : Nat => Value.int .u8 (n : Int)).toArray t frozen
      | o => o) ((fun h => h.modify 8 fun
      | .cells _ t frozen => .cells #[.iface 308 (.pointer (some ⟨lowH + 0, 0, none⟩))] t frozen
      | o => o) ((fun h => h.modify 0 fun
      | .cells _ t frozen => .cells #[.iface 308 (.pointer (some ⟨lowH + 1, 0, none⟩))] t frozen
      | o => o) ((fun h => h.modify 2 fun
      | .cells _ t frozen => .cells #[.iface 308 (.pointer (some ⟨lowH + 2, 0, none⟩))] t frozen
      | o => o) ((fun h => h.modify 3 fun
      | .cells _ t frozen => .cells #[.iface 308 (.pointer (some ⟨lowH + 3, 0, none⟩))] t frozen
      | o => o) ((fun h => h.modify 4 fun
      | .cells _ t frozen => .cells #[.iface 308 (.pointer (some ⟨lowH + 4, 0, none⟩))] t frozen
      | o => o) w0.heap)))))))) }
theorem laidWorldH_met (os : Os) (args : Array Value) : laidMetH Tryz.prog [("pannier/crc.table", Rows.laid_pannier_crc_table), ("unicode/utf8.acceptRanges", Rows.laid_unicode_utf8_acceptRanges), ("errors.errorType", Rows.laid_errors_errorType), ("pannier/disk.errDead", Rows.laid_pannier_disk_errDead), ("pannier/disk.errArg", Rows.laid_pannier_disk_errArg), ("pannier/frame.errTorn", Rows.laid_pannier_frame_errTorn), ("pannier/frame.errOther", Rows.laid_pannier_frame_errOther), ("pannier/frame.errSum", Rows.laid_pannier_frame_errSum), ("unicode/utf8.first", Rows.laid_unicode_utf8_first)] ((laidWorldH os).forCall (fun _ _ => 0) ⟨#[], args, []⟩).memory :=
  laidMetH_of_parts (laidMet_of_run' 20 (by kernel_rfl) (by kernel_rfl)) (by kernel_rfl)
end Go.Proofs.YtdbiebnnogjccaaGreatDoor

/- What the page rows' condition on the laid variables gives a walk; a world that meets it. -/
namespace Go.Proofs.YtdbiebnnogjccaaGreatDoor
open Go.ChangeShapes Go.WideShapes Go.RowKit
theorem laidMet_skipG {P : Program} {x y : String × DataW Unit} {r : List (String × DataW Unit)} {W : World} (h : laidMet P (x :: y :: r) W) : laidMet P (x :: r) W := by
  obtain ⟨ps, hl, hnd, hrow⟩ := h
  obtain ⟨n, d⟩ := x
  obtain ⟨n2, d2⟩ := y
  obtain ⟨g, t, cs, fuel, p, q, e1, e2, e3, e4, ⟨g', t', cs', fuel', p', q', f1, f2, f3, f4, f5, rfl⟩, rfl⟩ := hl
  refine ⟨_, ⟨g, t, cs, fuel, p, q', e1, e2, e3, e4, f5, rfl⟩, ?_, fun b off hb => hrow b off ?_⟩
  · obtain ⟨h1, h2, h3⟩ := List.nodup_append.1 hnd
    obtain ⟨_, h5, _⟩ := List.nodup_append.1 h2
    exact List.nodup_append.2 ⟨h1, h5, fun a ha b hb => h3 a ha b (List.mem_append_right _ hb)⟩
  · rcases List.mem_append.1 hb with h | h
    · exact List.mem_append_left _ h
    · exact List.mem_append_right _ (List.mem_append_right _ h)
theorem pgl_gA : Tryz.prog.globalNamed "pannier/pager.errArg" = some 10 := by kernel_rfl
theorem pgl_tA : (Tryz.prog.globals[10]?).map (·.type) = some 122 := by kernel_rfl
theorem pgl_gF : Tryz.prog.globalNamed "pannier/pager.errForm" = some 12 := by kernel_rfl
theorem pgl_tF : (Tryz.prog.globals[12]?).map (·.type) = some 122 := by kernel_rfl
theorem pgl_gL : Tryz.prog.globalNamed "pannier/pager.errLong" = some 11 := by kernel_rfl
theorem pgl_tL : (Tryz.prog.globals[11]?).map (·.type) = some 122 := by kernel_rfl
theorem pgl_gD : Tryz.prog.globalNamed "pannier/pager.errDisk" = some 9 := by kernel_rfl
theorem pgl_tD : (Tryz.prog.globals[9]?).map (·.type) = some 122 := by kernel_rfl
/-- What the laid variables give a walk. -/
theorem pg_of_laid {W : World} (h : laidMetH Tryz.prog [("pannier/crc.table", Rows.laid_pannier_crc_table), ("unicode/utf8.acceptRanges", Rows.laid_unicode_utf8_acceptRanges), ("errors.errorType", Rows.laid_errors_errorType), ("pannier/disk.errDead", Rows.laid_pannier_disk_errDead), ("pannier/disk.errArg", Rows.laid_pannier_disk_errArg), ("pannier/frame.errTorn", Rows.laid_pannier_frame_errTorn), ("pannier/frame.errOther", Rows.laid_pannier_frame_errOther), ("pannier/frame.errSum", Rows.laid_pannier_frame_errSum), ("pannier/pager.errArg", Rows.laid_pannier_pager_errArg), ("pannier/pager.errForm", Rows.laid_pannier_pager_errForm), ("pannier/pager.errLong", Rows.laid_pannier_pager_errLong), ("pannier/pager.errDisk", Rows.laid_pannier_pager_errDisk), ("unicode/utf8.first", Rows.laid_unicode_utf8_first)] W) : PgW W := by
  have h' : laidMet Tryz.prog [("pannier/crc.table", Rows.laid_pannier_crc_table), ("unicode/utf8.acceptRanges", Rows.laid_unicode_utf8_acceptRanges), ("pannier/disk.errDead", Rows.laid_pannier_disk_errDead), ("pannier/disk.errArg", Rows.laid_pannier_disk_errArg), ("pannier/frame.errTorn", Rows.laid_pannier_frame_errTorn), ("pannier/frame.errOther", Rows.laid_pannier_frame_errOther), ("pannier/frame.errSum", Rows.laid_pannier_frame_errSum), ("pannier/pager.errArg", Rows.laid_pannier_pager_errArg), ("pannier/pager.errForm", Rows.laid_pannier_pager_errForm), ("pannier/pager.errLong", Rows.laid_pannier_pager_errLong), ("pannier/pager.errDisk", Rows.laid_pannier_pager_errDisk), ("unicode/utf8.first", Rows.laid_unicode_utf8_first)] W ∧ handlesMet Tryz.prog [("errors.errorType", Rows.laid_errors_errorType)] W := h
  obtain ⟨h1, h2⟩ := h'
  have ht := tbl_of_met (laidMet_one h1)
  have h3 := laidMet_tail (laidMet_tail h1)
  obtain ⟨aD, aA, hd⟩ := dk_of_met h3
  have h4 := laidMet_tail (laidMet_tail h3)
  have h5 := laidMet_tail h4
  have he : EtIs W := et_of_laid (show laidMetH Tryz.prog [("errors.errorType", Rows.laid_errors_errorType)] W from ⟨⟨[], rfl, List.nodup_nil, fun _ _ h => absurd h (by simp)⟩, h2⟩)
  obtain ⟨a0, a1, _, _, c0, c1, t0, t1, hv0, hv1, _, _, _, _, _, _, _, hb0, hb1⟩ := laid_sentinels2 h4 gl_errTorn gt_errTorn gl_errOther gt_errOther Tryz.underlying122 es_row Tryz.underlying308 Tryz.underlying326 rfl rfl Tryz.underlying9 es_cells st_cells
  obtain ⟨b1, a2, _, _, _, c2, _, t2, hv1', hv2, _, _, _, _, _, _, _, _, hb2⟩ := laid_sentinels2 h5 gl_errOther gt_errOther gl_errSum gt_errSum Tryz.underlying122 es_row Tryz.underlying308 Tryz.underlying326 rfl rfl Tryz.underlying9 es_cells st_cells
  have h7 := laidMet_tail (laidMet_tail h5)
  have h8 := laidMet_tail h7
  obtain ⟨x0, y0, _, _, cx0, cy0, tx0, ty0, vx0, vy0, _, _, _, _, _, _, ne0, bx0, by0⟩ := laid_sentinels2 h7 pgl_gA pgl_tA pgl_gF pgl_tF Tryz.underlying122 es_row Tryz.underlying308 Tryz.underlying326 rfl rfl Tryz.underlying9 es_cells st_cells
  obtain ⟨x1, y1, _, _, cx1, cy1, tx1, ty1, vx1, vy1, _, _, _, _, _, _, ne1, bx1, by1⟩ := laid_sentinels2 h8 pgl_gF pgl_tF pgl_gL pgl_tL Tryz.underlying122 es_row Tryz.underlying308 Tryz.underlying326 rfl rfl Tryz.underlying9 es_cells st_cells
  obtain ⟨x2, y2, _, _, cx2, cy2, tx2, ty2, vx2, vy2, _, _, _, _, _, _, ne2, bx2, by2⟩ := laid_sentinels2 (laidMet_tail h8) pgl_gL pgl_tL pgl_gD pgl_tD Tryz.underlying122 es_row Tryz.underlying308 Tryz.underlying326 rfl rfl Tryz.underlying9 es_cells st_cells
  obtain ⟨x3, y3, _, _, cx3, cy3, tx3, ty3, vx3, vy3, _, _, _, _, _, _, ne3, bx3, by3⟩ := laid_sentinels2 (laidMet_skipG h7) pgl_gA pgl_tA pgl_gL pgl_tL Tryz.underlying122 es_row Tryz.underlying308 Tryz.underlying326 rfl rfl Tryz.underlying9 es_cells st_cells
  obtain ⟨x4, y4, _, _, cx4, cy4, tx4, ty4, vx4, vy4, _, _, _, _, _, _, ne4, bx4, by4⟩ := laid_sentinels2 (laidMet_skipG (laidMet_skipG h7)) pgl_gA pgl_tA pgl_gD pgl_tD Tryz.underlying122 es_row Tryz.underlying308 Tryz.underlying326 rfl rfl Tryz.underlying9 es_cells st_cells
  obtain ⟨x5, y5, _, _, cx5, cy5, tx5, ty5, vx5, vy5, _, _, _, _, _, _, ne5, bx5, by5⟩ := laid_sentinels2 (laidMet_skipG h8) pgl_gF pgl_tF pgl_gD pgl_tD Tryz.underlying122 es_row Tryz.underlying308 Tryz.underlying326 rfl rfl Tryz.underlying9 es_cells st_cells
  have q0 : x1 = y0 := by rw [vy0] at vx1; simpa using vx1.symm
  have q1 : x2 = y1 := by rw [vy1] at vx2; simpa using vx2.symm
  have q2 : x3 = x0 := by rw [vx0] at vx3; simpa using vx3.symm
  have q3 : y3 = y1 := by rw [vy1] at vy3; simpa using vy3.symm
  have q4 : x4 = x0 := by rw [vx0] at vx4; simpa using vx4.symm
  have q5 : y4 = y2 := by rw [vy2] at vy4; simpa using vy4.symm
  have q6 : x5 = y0 := by rw [vy0] at vx5; simpa using vx5.symm
  have q7 : y5 = y2 := by rw [vy2] at vy5; simpa using vy5.symm
  rw [q0] at ne1; rw [q1] at ne2; rw [q2, q3] at ne3; rw [q4, q5] at ne4; rw [q6, q7] at ne5
  exact ⟨a0, a1, a2, aD, aA, x0, y0, y1, y2, ⟨⟨he, ht, by simpa using World.var?_cell gl_errTorn hv0 0, by simpa using World.var?_cell gl_errOther hv1 0, by simpa using World.var?_cell gl_errSum hv2 0, ⟨c0, t0, hb0⟩, ⟨c1, t1, hb1⟩, ⟨c2, t2, hb2⟩⟩, hd⟩, by simpa using World.var?_cell pgl_gA vx0 0, by simpa using World.var?_cell pgl_gF vy0 0, by simpa using World.var?_cell pgl_gL vy1 0, by simpa using World.var?_cell pgl_gD vy2 0, ⟨cx0, tx0, bx0⟩, ⟨cy0, ty0, by0⟩, ⟨cy1, ty1, by1⟩, ⟨cy2, ty2, by2⟩, ne4, ne2, ne5, ne3.symm, ne0.symm, ne1⟩
noncomputable def lowG : Nat := (World.holding Tryz.prog default ⟨#[], #[], []⟩).heap.size
/-- A world that meets the condition. -/
noncomputable def laidWorldG (os : Os) : World :=
  let w0 := World.holding Tryz.prog os ⟨#[.cells #[.string ⟨#[105, 116, 32, 99, 114, 97, 115, 104, 101, 100]⟩] 326, .cells #[.string ⟨#[110, 111, 32, 115, 117, 99, 104, 32, 115, 101, 99, 116, 111, 114]⟩] 326, .cells #[.string ⟨#[110, 111, 116, 32, 119, 104, 111, 108, 101]⟩] 326, .cells #[.string ⟨#[111, 102, 32, 97, 110, 111, 116, 104, 101, 114, 32, 114, 101, 99, 111, 114, 100]⟩] 326, .cells #[.string ⟨#[97, 32, 119, 114, 111, 110, 103, 32, 115, 117, 109]⟩] 326, .cells #[.string ⟨#[110, 111, 32, 115, 117, 99, 104, 32, 112, 97, 103, 101]⟩] 326, .cells #[.string ⟨#[110, 111, 32, 114, 101, 99, 111, 114, 100, 32, 111, 102, 32, 97, 32, 112, 97, 103, 101]⟩] 326, .cells #[.string ⟨#[116, 111, 111, 32, 108, 111, 110, 103]⟩] 326, .cells #[.string ⟨#[116, 104, 101, 32, 100, 105, 115, 107, 32, 115, 97, 121, 115, 32, 110, 111]⟩] 326], #[], []⟩
  { w0 with heap := (fun h => h.modify 14 fun
      | .cells _ t frozen => .cells #[.int .u32 0, .int .u32 498536548, .int .u32 997073096, .int .u32 651767980, .int .u32 1994146192, .int .u32 1802195444, .int .u32 1303535960, .int .u32 1342533948, .int .u32 3988292384, .int .u32 4027552580, .int .u32 3604390888, .int .u32 3412177804, .int .u32 2607071920, .int .u32 2262029012, .int .u32 2685067896, .int .u32 3183342108] t frozen
      | o => o) ((fun h => h.modify 17 fun
      | .cells _ t frozen => .cells #[.int .u8 128, .int .u8 191, .int .u8 160, .int .u8 191, .int .u8 128, .int .u8 159, .int .u8 144, .int .u8 191, .int .u8 128, .int .u8 143, .int .u8 0, .int .u8 0, .int .u8 0, .int .u8 0, .int .u8 0, .int .u8 0, .int .u8 0, .int .u8 0, .int .u8 0, .int .u8 0, .int .u8 0, .int .u8 0, .int .u8 0, .int .u8 0, .int .u8 0, .int .u8 0, .int .u8 0, .int .u8 0, .int .u8 0, .int .u8 0, .int .u8 0, .int .u8 0] t frozen
      | o => o) ((fun h => h.modify 13 fun
      | .cells _ t frozen => .cells #[.iface 238 (.agg #[.pointer (some ⟨18, 122, none⟩)])] t frozen
      | o => o) ((fun h => h.modify 16 fun
      | .cells _ t frozen => .cells (Go.Pinned.utf8FirstZ.map fun n : Nat => Value.int .u8 (n : Int)).toArray t frozen
      | o => o) ((fun h => h.modify 8 fun
      | .cells _ t frozen => .cells #[.iface 308 (.pointer (some ⟨lowG + 0, 0, none⟩))] t frozen
      | o => o) ((fun h => h.modify 0 fun
      | .cells _ t frozen => .cells #[.iface 308 (.pointer (some ⟨lowG + 1, 0, none⟩))] t frozen
      | o => o) ((fun h => h.modify 2 fun
      | .cells _ t frozen => .cells #[.iface 308 (.pointer (some ⟨lowG + 2, 0, none⟩))] t frozen
      | o => o) ((fun h => h.modify 3 fun
      | .cells _ t frozen => .cells #[.iface 308 (.pointer (some ⟨lowG + 3, 0, none⟩))] t frozen
      | o => o) ((fun h => h.modify 4 fun
      | .cells _ t frozen => .cells #[.iface 308 (.pointer (some ⟨lowG + 4, 0, none⟩))] t frozen
      | o => o) ((fun h => h.modify 10 fun
      | .cells _ t frozen => .cells #[.iface 308 (.pointer (some ⟨lowG + 5, 0, none⟩))] t frozen
      | o => o) ((fun h => h.modify 12 fun
      | .cells _ t frozen => .cells #[.iface 308 (.pointer (some ⟨lowG + 6, 0, none⟩))] t frozen
      | o => o) ((fun h => h.modify 11 fun
      | .cells _ t frozen => .cells #[.iface 308 (.pointer (some ⟨lowG + 7, 0, none⟩))] t frozen
      | o => o) ((fun h => h.modify 9 fun
      | .cells _ t frozen => .cells #[.iface 308 (.pointer (some ⟨lowG + 8, 0, none⟩))] t frozen
      | o => o) w0.heap)))))))))))) }
theorem laidWorldG_met (os : Os) (args : Array Value) : laidMetH Tryz.prog [("pannier/crc.table", Rows.laid_pannier_crc_table), ("unicode/utf8.acceptRanges", Rows.laid_unicode_utf8_acceptRanges), ("errors.errorType", Rows.laid_errors_errorType), ("pannier/disk.errDead", Rows.laid_pannier_disk_errDead), ("pannier/disk.errArg", Rows.laid_pannier_disk_errArg), ("pannier/frame.errTorn", Rows.laid_pannier_frame_errTorn), ("pannier/frame.errOther", Rows.laid_pannier_frame_errOther), ("pannier/frame.errSum", Rows.laid_pannier_frame_errSum), ("pannier/pager.errArg", Rows.laid_pannier_pager_errArg), ("pannier/pager.errForm", Rows.laid_pannier_pager_errForm), ("pannier/pager.errLong", Rows.laid_pannier_pager_errLong), ("pannier/pager.errDisk", Rows.laid_pannier_pager_errDisk), ("unicode/utf8.first", Rows.laid_unicode_utf8_first)] ((laidWorldG os).forCall (fun _ _ => 0) ⟨#[], args, []⟩).memory :=
  laidMetH_of_parts (laidMet_of_run' 20 (by kernel_rfl) (by kernel_rfl)) (by kernel_rfl)
end Go.Proofs.YtdbiebnnogjccaaGreatDoor
