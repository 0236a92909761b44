/- What the log rows' condition on the laid variables gives a walk; a world that meets it. -/
import Derived.Test.YtdbiebnnogjccaaGreatDoorLaidF
import Derived.Test.YtdbiebnnogjccaaGreatDoorLaidH
import Derived.Test.YtdbiebnnogjccaaGreatDoorFq
import Derived.Test.YtdbiebnnogjccaaGreatDoorWa
namespace Go.Proofs.YtdbiebnnogjccaaGreatDoor
open Go.ChangeShapes Go.WideShapes Go.RowKit
theorem laidMet_skip {P : Program} {x y : String × DataW Unit} {r : List (String × DataW Unit)} {W : World} (h : laidMet P (x :: y :: r) W) : laidMet P (x :: r) W := by
  obtain ⟨ps, hl, hnd, hrow⟩ := h
  obtain ⟨n, d⟩ := x
  obtain ⟨n2, d2⟩ := y
  obtain ⟨g, t, cs, fuel, p, q, e1, e2, e3, e4, ⟨g', t', cs', fuel', p', q', f1, f2, f3, f4, f5, rfl⟩, rfl⟩ := hl
  refine ⟨_, ⟨g, t, cs, fuel, p, q', e1, e2, e3, e4, f5, rfl⟩, ?_, fun b off hb => hrow b off ?_⟩
  · obtain ⟨h1, h2, h3⟩ := List.nodup_append.1 hnd
    obtain ⟨_, h5, _⟩ := List.nodup_append.1 h2
    exact List.nodup_append.2 ⟨h1, h5, fun a ha b hb => h3 a ha b (List.mem_append_right _ hb)⟩
  · rcases List.mem_append.1 hb with h | h
    · exact List.mem_append_left _ h
    · exact List.mem_append_right _ (List.mem_append_right _ h)
theorem wl_gD : Tryz.prog.globalNamed "pannier/wal.errDead" = some 5 := by kernel_rfl
theorem wl_tD : (Tryz.prog.globals[5]?).map (·.type) = some 122 := by kernel_rfl
theorem wl_gL : Tryz.prog.globalNamed "pannier/wal.errLong" = some 6 := by kernel_rfl
theorem wl_tL : (Tryz.prog.globals[6]?).map (·.type) = some 122 := by kernel_rfl
theorem wl_gF : Tryz.prog.globalNamed "pannier/wal.errFull" = some 7 := by kernel_rfl
theorem wl_tF : (Tryz.prog.globals[7]?).map (·.type) = some 122 := by kernel_rfl
/-- What the laid variables give a walk. -/
theorem wl_of_laid {W : World} (h : laidMetH Tryz.prog [("pannier/crc.table", Rows.laid_pannier_crc_table), ("unicode/utf8.acceptRanges", Rows.laid_unicode_utf8_acceptRanges), ("errors.errorType", Rows.laid_errors_errorType), ("pannier/disk.errDead", Rows.laid_pannier_disk_errDead), ("pannier/disk.errArg", Rows.laid_pannier_disk_errArg), ("pannier/frame.errTorn", Rows.laid_pannier_frame_errTorn), ("pannier/frame.errOther", Rows.laid_pannier_frame_errOther), ("pannier/frame.errSum", Rows.laid_pannier_frame_errSum), ("pannier/wal.errDead", Rows.laid_pannier_wal_errDead), ("pannier/wal.errLong", Rows.laid_pannier_wal_errLong), ("pannier/wal.errFull", Rows.laid_pannier_wal_errFull), ("unicode/utf8.first", Rows.laid_unicode_utf8_first)] W) : ∃ a0 a1 a2 aD aA bD bL bF, WlW W a0 a1 a2 aD aA bD bL bF := by
  have h' : laidMet Tryz.prog [("pannier/crc.table", Rows.laid_pannier_crc_table), ("unicode/utf8.acceptRanges", Rows.laid_unicode_utf8_acceptRanges), ("pannier/disk.errDead", Rows.laid_pannier_disk_errDead), ("pannier/disk.errArg", Rows.laid_pannier_disk_errArg), ("pannier/frame.errTorn", Rows.laid_pannier_frame_errTorn), ("pannier/frame.errOther", Rows.laid_pannier_frame_errOther), ("pannier/frame.errSum", Rows.laid_pannier_frame_errSum), ("pannier/wal.errDead", Rows.laid_pannier_wal_errDead), ("pannier/wal.errLong", Rows.laid_pannier_wal_errLong), ("pannier/wal.errFull", Rows.laid_pannier_wal_errFull), ("unicode/utf8.first", Rows.laid_unicode_utf8_first)] W ∧ handlesMet Tryz.prog [("errors.errorType", Rows.laid_errors_errorType)] W := h
  obtain ⟨h1, h2⟩ := h'
  have ht := tbl_of_met (laidMet_one h1)
  have h3 := laidMet_tail (laidMet_tail h1)
  obtain ⟨aD, aA, hd⟩ := dk_of_met h3
  have h4 := laidMet_tail (laidMet_tail h3)
  have h5 := laidMet_tail h4
  have he : EtIs W := et_of_laid (show laidMetH Tryz.prog [("errors.errorType", Rows.laid_errors_errorType)] W from ⟨⟨[], rfl, List.nodup_nil, fun _ _ h => absurd h (by simp)⟩, h2⟩)
  obtain ⟨a0, a1, _, _, c0, c1, t0, t1, hv0, hv1, _, _, _, _, _, _, _, hb0, hb1⟩ := laid_sentinels2 h4 gl_errTorn gt_errTorn gl_errOther gt_errOther Tryz.underlying122 es_row Tryz.underlying308 Tryz.underlying326 rfl rfl Tryz.underlying9 es_cells st_cells
  obtain ⟨b1, a2, _, _, _, c2, _, t2, hv1', hv2, _, _, _, _, _, _, _, _, hb2⟩ := laid_sentinels2 h5 gl_errOther gt_errOther gl_errSum gt_errSum Tryz.underlying122 es_row Tryz.underlying308 Tryz.underlying326 rfl rfl Tryz.underlying9 es_cells st_cells
  have h7 := laidMet_tail (laidMet_tail h5)
  obtain ⟨x0, x1, _, _, d0, d1, s0, s1, hw0, hw1, _, _, _, _, _, _, ne01, hd0, hd1⟩ := laid_sentinels2 h7 wl_gD wl_tD wl_gL wl_tL Tryz.underlying122 es_row Tryz.underlying308 Tryz.underlying326 rfl rfl Tryz.underlying9 es_cells st_cells
  obtain ⟨y1, x2, _, _, _, d2, _, s2, hw1', hw2, _, _, _, _, _, _, ne12, _, hd2⟩ := laid_sentinels2 (laidMet_tail h7) wl_gL wl_tL wl_gF wl_tF Tryz.underlying122 es_row Tryz.underlying308 Tryz.underlying326 rfl rfl Tryz.underlying9 es_cells st_cells
  obtain ⟨y0, y2, _, _, _, _, _, _, hw0', hw2', _, _, _, _, _, _, ne02, _, _⟩ := laid_sentinels2 (laidMet_skip h7) wl_gD wl_tD wl_gF wl_tF Tryz.underlying122 es_row Tryz.underlying308 Tryz.underlying326 rfl rfl Tryz.underlying9 es_cells st_cells
  have e0 : y0 = x0 := by rw [hw0] at hw0'; simpa using hw0'.symm
  have e1 : y1 = x1 := by rw [hw1] at hw1'; simpa using hw1'.symm
  have e2 : y2 = x2 := by rw [hw2] at hw2'; simpa using hw2'.symm
  subst e0 e1 e2
  exact ⟨a0, a1, a2, aD, aA, y0, y1, y2, ⟨⟨he, ht, by simpa using World.var?_cell gl_errTorn hv0 0, by simpa using World.var?_cell gl_errOther hv1 0, by simpa using World.var?_cell gl_errSum hv2 0, ⟨c0, t0, hb0⟩, ⟨c1, t1, hb1⟩, ⟨c2, t2, hb2⟩⟩, hd⟩, by simpa using World.var?_cell wl_gD hw0 0, by simpa using World.var?_cell wl_gL hw1 0, by simpa using World.var?_cell wl_gF hw2 0, ⟨d0, s0, hd0⟩, ⟨d1, s1, hd1⟩, ⟨d2, s2, hd2⟩, ne01, ne02, ne12⟩
noncomputable def lowW : Nat := (World.holding Tryz.prog default ⟨#[], #[], []⟩).heap.size
/-- A world that meets the condition. -/
noncomputable def laidWorldW (os : Os) : World :=
  let w0 := World.holding Tryz.prog os ⟨#[.cells #[.string ⟨#[105, 116, 32, 99, 114, 97, 115, 104, 101, 100]⟩] 326, .cells #[.string ⟨#[110, 111, 32, 115, 117, 99, 104, 32, 115, 101, 99, 116, 111, 114]⟩] 326, .cells #[.string ⟨#[110, 111, 116, 32, 119, 104, 111, 108, 101]⟩] 326, .cells #[.string ⟨#[111, 102, 32, 97, 110, 111, 116, 104, 101, 114, 32, 114, 101, 99, 111, 114, 100]⟩] 326, .cells #[.string ⟨#[97, 32, 119, 114, 111, 110, 103, 32, 115, 117, 109]⟩] 326, .cells #[.string ⟨#[97, 32, 119, 114, 105, 116, 101, 32, 102, 97, 105, 108, 101, 100]⟩] 326, .cells #[.string ⟨#[116, 111, 111, 32, 108, 111, 110, 103]⟩] 326, .cells #[.string ⟨#[110, 111, 32, 114, 111, 111, 109]⟩] 326], #[], []⟩
  { w0 with heap := (fun h => h.modify 14 fun
      | .cells _ t frozen => .cells #[.int .u32 0, .int .u32 498536548, .int .u32 997073096, .int .u32 651767980, .int .u32 1994146192, .int .u32 1802195444, .int .u32 1303535960, .int .u32 1342533948, .int .u32 3988292384, .int .u32 4027552580, .int .u32 3604390888, .int .u32 3412177804, .int .u32 2607071920, .int .u32 2262029012, .int .u32 2685067896, .int .u32 3183342108] t frozen
      | o => o) ((fun h => h.modify 17 fun
      | .cells _ t frozen => .cells #[.int .u8 128, .int .u8 191, .int .u8 160, .int .u8 191, .int .u8 128, .int .u8 159, .int .u8 144, .int .u8 191, .int .u8 128, .int .u8 143, .int .u8 0, .int .u8 0, .int .u8 0, .int .u8 0, .int .u8 0, .int .u8 0, .int .u8 0, .int .u8 0, .int .u8 0, .int .u8 0, .int .u8 0, .int .u8 0, .int .u8 0, .int .u8 0, .int .u8 0, .int .u8 0, .int .u8 0, .int .u8 0, .int .u8 0, .int .u8 0, .int .u8 0, .int .u8 0] t frozen
      | o => o) ((fun h => h.modify 13 fun
      | .cells _ t frozen => .cells #[.iface 238 (.agg #[.pointer (some ⟨18, 122, none⟩)])] t frozen
      | o => o) ((fun h => h.modify 16 fun
      | .cells _ t frozen => .cells (Go.Pinned.utf8FirstZ.map fun n : Nat => Value.int .u8 (n : Int)).toArray t frozen
      | o => o) ((fun h => h.modify 8 fun
      | .cells _ t frozen => .cells #[.iface 308 (.pointer (some ⟨lowW + 0, 0, none⟩))] t frozen
      | o => o) ((fun h => h.modify 0 fun
      | .cells _ t frozen => .cells #[.iface 308 (.pointer (some ⟨lowW + 1, 0, none⟩))] t frozen
      | o => o) ((fun h => h.modify 2 fun
      | .cells _ t frozen => .cells #[.iface 308 (.pointer (some ⟨lowW + 2, 0, none⟩))] t frozen
      | o => o) ((fun h => h.modify 3 fun
      | .cells _ t frozen => .cells #[.iface 308 (.pointer (some ⟨lowW + 3, 0, none⟩))] t frozen
      | o => o) ((fun h => h.modify 4 fun
      | .cells _ t frozen => .cells #[.iface 308 (.pointer (some ⟨lowW + 4, 0, none⟩))] t frozen
      | o => o) ((fun h => h.modify 5 fun
      | .cells _ t frozen => .cells #[.iface 308 (.pointer (some ⟨lowW + 5, 0, none⟩))] t frozen
      | o => o) ((fun h => h.modify 6 fun
      | .cells _ t frozen => .cells #[.iface 308 (.pointer (some ⟨lowW + 6, 0, none⟩))] t frozen
      | o => o) ((fun h => h.modify 7 fun
      | .cells _ t frozen => .cells #[.iface 308 (.pointer (some ⟨lowW + 7, 0, none⟩))] t frozen
      | o => o) w0.heap))))))))))) }
theorem laidWorldW_met (os : Os) (args : Array Value) : laidMetH Tryz.prog [("pannier/crc.table", Rows.laid_pannier_crc_table), ("unicode/utf8.acceptRanges", Rows.laid_unicode_utf8_acceptRanges), ("errors.errorType", Rows.laid_errors_errorType), ("pannier/disk.errDead", Rows.laid_pannier_disk_errDead), ("pannier/disk.errArg", Rows.laid_pannier_disk_errArg), ("pannier/frame.errTorn", Rows.laid_pannier_frame_errTorn), ("pannier/frame.errOther", Rows.laid_pannier_frame_errOther), ("pannier/frame.errSum", Rows.laid_pannier_frame_errSum), ("pannier/wal.errDead", Rows.laid_pannier_wal_errDead), ("pannier/wal.errLong", Rows.laid_pannier_wal_errLong), ("pannier/wal.errFull", Rows.laid_pannier_wal_errFull), ("unicode/utf8.first", Rows.laid_unicode_utf8_first)] ((laidWorldW os).forCall (fun _ _ => 0) ⟨#[], args, []⟩).memory :=
  laidMetH_of_parts (laidMet_of_run' 20 (by kernel_rfl) (by kernel_rfl)) (by kernel_rfl)
end Go.Proofs.YtdbiebnnogjccaaGreatDoor
