/- What the condition on errors.errorType gives a walk; a world that meets it. After the kit's worked text Toyas. -/
import Derived.Test.YtdbiebnnogjccaaGreatDoorRows
import Derived.Test.YtdbiebnnogjccaaGreatDoorPkc
import Derived.ChangeSame
import Derived.ChangeVars
import Derived.JoinedOf
import Derived.RowKit
import Derived.RowKitTokens
import Derived.LaidLaws
import Derived.LaidHandle
import Derived.Stop.Joined
import Derived.Test.YtdbiebnnogjccaaGreatDoorGb
import Derived.OpenShut
import Derived.Stop.LaidTwo
import GoSem.PinnedTables
namespace Go.Proofs.YtdbiebnnogjccaaGreatDoor
open Go.ChangeShapes Go.WideShapes Go.RowKit

theorem sown : ownKnob Tryz.prog.godebug = none := by kernel_rfl
theorem set_glob : Tryz.prog.globalNamed "errors.errorType" = some 13 := by kernel_rfl
theorem set_rt : (Tryz.prog.cutTypes.find? (·.1 == "internal/reflectlite.rtype")).map (·.2) = some 238 := by kernel_rfl
theorem set_oneRow : ((List.range 337).filter fun t => Tryz.prog.rowNamed t [101, 114, 114, 111, 114]) = [122] := by kernel_rfl
theorem set_size : Tryz.prog.types.size = 337 := by kernel_rfl

def laidE {H : Type} : List (String × DataW H) := [("errors.errorType", Rows.laid_errors_errorType)]
/-- The variable's one cell. -/
theorem et_of_laid {W : World} (h : laidMetH Tryz.prog [("errors.errorType", Rows.laid_errors_errorType)] W) : EtIs W := by
  have h' : laidMet Tryz.prog [] W ∧ handlesMet Tryz.prog [("errors.errorType", Rows.laid_errors_errorType)] W := h
  obtain ⟨name, u, ty, e1, e2, e3, e4, e5⟩ := h'.2 _ (List.mem_singleton.2 rfl)
  have en : name = [101, 114, 114, 111, 114] := (Option.some.inj e1).symm
  subst en
  obtain rfl := Option.some.inj (set_rt.symm.trans e2)
  have hm : ty ∈ (List.range 337).filter fun t => Tryz.prog.rowNamed t [101, 114, 114, 111, 114] := List.mem_filter.2 ⟨List.mem_range.2 (by rw [← set_size]; exact e3), e4⟩
  rw [set_oneRow] at hm
  obtain rfl := List.mem_singleton.1 hm
  have hh : typeHandle Tryz.prog 122 = .pointer (some ⟨18, 122, none⟩) := by kernel_rfl
  rw [hh] at e5
  unfold EtIs
  simpa using World.var?_cell set_glob e5 0

/-- A world that meets the condition: the settled one, the variable's cell laid. -/
noncomputable def laidWorldE (os : Os) : World :=
  let w0 := World.holding Tryz.prog os ⟨#[], #[], []⟩
  { w0 with heap := w0.heap.modify 13 fun
      | .cells _ t frozen => .cells #[.iface 238 (.agg #[.pointer (some ⟨18, 122, none⟩)])] t frozen
      | o => o }
theorem laidWorldE_met (os : Os) (args : Array Value) : laidMetH Tryz.prog [("errors.errorType", Rows.laid_errors_errorType)] ((laidWorldE os).forCall (fun _ _ => 0) ⟨#[], args, []⟩).memory :=
  laidMetH_of_parts (laidMet_nil _ _) (by kernel_rfl)
end Go.Proofs.YtdbiebnnogjccaaGreatDoor

/- What the frame rows' condition on the laid variables gives a walk; a world that meets it. -/
namespace Go.Proofs.YtdbiebnnogjccaaGreatDoor
open Go.ChangeShapes Go.WideShapes Go.RowKit
theorem laidMet_tail {P : Program} {x : String × DataW Unit} {r : List (String × DataW Unit)} {W : World} (h : laidMet P (x :: r) W) : laidMet P r W := by
  obtain ⟨ps, hl, hnd, hrow⟩ := h
  obtain ⟨n, d⟩ := x
  obtain ⟨g, t, cs, fuel, p, q, e1, e2, e3, e4, e5, rfl⟩ := hl
  exact ⟨q, e5, (List.nodup_append.1 hnd).2.1, fun b off hb => hrow b off (List.mem_append_right _ hb)⟩
theorem laidMet_one {P : Program} {x : String × DataW Unit} {r : List (String × DataW Unit)} {W : World} (h : laidMet P (x :: r) W) : laidMet P [x] W := by
  obtain ⟨ps, hl, hnd, hrow⟩ := h
  obtain ⟨n, d⟩ := x
  obtain ⟨g, t, cs, fuel, p, q, e1, e2, e3, e4, e5, rfl⟩ := hl
  exact ⟨_, ⟨g, t, cs, fuel, p, [], e1, e2, e3, e4, rfl, rfl⟩, by rw [List.append_nil]; exact (List.nodup_append.1 hnd).1, fun b off hb => hrow b off (by rw [List.append_nil] at hb; exact List.mem_append_left _ hb)⟩
theorem tb_glob : Tryz.prog.globalNamed "pannier/crc.table" = some 14 := by kernel_rfl
theorem tb_type : (Tryz.prog.globals[14]?).map (·.type) = some 253 := by kernel_rfl
theorem tb_under : Tryz.prog.underlying 253 = some (.array 16 32) := by kernel_rfl
theorem tb_cells : Tryz.prog.cellsOf 32 = 1 := by kernel_rfl
theorem tb_list {H : Type} : ∃ L : List (DataW H), Rows.laid_pannier_crc_table = .agg L ∧ ∀ i, i < 16 → L[i]? = some (.lit (.int .u32 ((tbl i : Nat) : Int))) :=
  ⟨_, rfl, fun i h => match i, h with
    | 0, _ => rfl | 1, _ => rfl | 2, _ => rfl | 3, _ => rfl | 4, _ => rfl | 5, _ => rfl | 6, _ => rfl | 7, _ => rfl
    | 8, _ => rfl | 9, _ => rfl | 10, _ => rfl | 11, _ => rfl | 12, _ => rfl | 13, _ => rfl | 14, _ => rfl | 15, _ => rfl
    | n + 16, h => absurd h (by omega)⟩
/-- The table's cells. -/
theorem tbl_of_met {W : World} (h : laidMet Tryz.prog [("pannier/crc.table", Rows.laid_pannier_crc_table)] W) : TblIs W := by
  obtain ⟨ps, ⟨g, t, cs, fuel, p, q, e1, e2, e3, e4, _, _⟩, _, _⟩ := h
  obtain rfl := Option.some.inj (tb_glob.symm.trans e1)
  obtain rfl := Option.some.inj (tb_type.symm.trans e2)
  obtain ⟨xs, m, _, hx, hlen, hl, hi⟩ := DataW.trod_array tb_under e4
  obtain ⟨L, hL, hLi⟩ := tb_list (H := Unit)
  rw [hL] at hx
  have hx1 : L = xs.map (·.1) := by
    have := (Prod.mk.inj hx).1
    injection this
  have hc : ∀ i, i < 16 → W.cell? ⟨14, i, none⟩ = some (.int .u32 (tbl i : Nat)) := fun i h16 => by
    have h0 := hi i h16
    rw [tb_cells, Nat.mul_one, List.getElem?_eq_getElem (by omega)] at h0
    obtain ⟨n, en, ex, _⟩ := DataW.trod_int Tryz.underlying32 h0
    have hv := hLi i h16
    rw [hx1, List.getElem?_map, List.getElem?_eq_getElem (by omega), ex] at hv
    simp only [Option.map_some, Option.some.injEq] at hv
    have hn : n = ((tbl i : Nat) : Int) := by injection hv with hv; injection hv
    have hci : cs[i]? = some (.int .u32 n) := by
      have : (cs.toList.drop i)[0]? = some (.int .u32 n) := by
        cases hd : cs.toList.drop i with
        | nil => rw [hd] at en; simp at en
        | cons a r => rw [hd] at en; simp at en; simp [en]
      simpa using this
    rw [World.var?_cell tb_glob e3 i, hci, hn]
  refine ⟨?_, hc⟩
  have h0 := hc 0 (by decide)
  exact Nat.pos_of_ne_zero fun hz => by
    simp [World.cell?, Array.getElem?_eq_none (by omega : W.heap.size ≤ 14)] at h0
theorem es_cells : Tryz.prog.cellsOf 326 = 1 := by kernel_rfl
theorem st_cells : Tryz.prog.cellsOf 9 = 1 := by kernel_rfl
theorem es_star : "*" ++ "errors.errorString" = "*errors.errorString" := by decide
theorem es_row (u : TypeId) (h : Tryz.prog.typeName? 3 u = some "*errors.errorString") : u = 308 :=
  typeName_ptr_named (nm := "errors.errorString") (by rw [es_star]; kernel_rfl) (by kernel_rfl) (by decide) u (by rw [es_star]; exact h)
theorem gl_errTorn : Tryz.prog.globalNamed "pannier/frame.errTorn" = some 2 := by kernel_rfl
theorem gt_errTorn : (Tryz.prog.globals[2]?).map (·.type) = some 122 := by kernel_rfl
theorem gl_errOther : Tryz.prog.globalNamed "pannier/frame.errOther" = some 3 := by kernel_rfl
theorem gt_errOther : (Tryz.prog.globals[3]?).map (·.type) = some 122 := by kernel_rfl
theorem gl_errSum : Tryz.prog.globalNamed "pannier/frame.errSum" = some 4 := by kernel_rfl
theorem gt_errSum : (Tryz.prog.globals[4]?).map (·.type) = some 122 := by kernel_rfl
/-- What the laid variables give a walk. -/
theorem fr_of_laid {W : World} (h : laidMetH Tryz.prog [("pannier/crc.table", Rows.laid_pannier_crc_table), ("unicode/utf8.acceptRanges", Rows.laid_unicode_utf8_acceptRanges), ("errors.errorType", Rows.laid_errors_errorType), ("pannier/frame.errTorn", Rows.laid_pannier_frame_errTorn), ("pannier/frame.errOther", Rows.laid_pannier_frame_errOther), ("pannier/frame.errSum", Rows.laid_pannier_frame_errSum), ("unicode/utf8.first", Rows.laid_unicode_utf8_first)] W) : ∃ a0 a1 a2, FrW W a0 a1 a2 := by
  have h' : laidMet Tryz.prog [("pannier/crc.table", Rows.laid_pannier_crc_table), ("unicode/utf8.acceptRanges", Rows.laid_unicode_utf8_acceptRanges), ("pannier/frame.errTorn", Rows.laid_pannier_frame_errTorn), ("pannier/frame.errOther", Rows.laid_pannier_frame_errOther), ("pannier/frame.errSum", Rows.laid_pannier_frame_errSum), ("unicode/utf8.first", Rows.laid_unicode_utf8_first)] W ∧ handlesMet Tryz.prog [("errors.errorType", Rows.laid_errors_errorType)] W := h
  obtain ⟨h1, h2⟩ := h'
  have ht := tbl_of_met (laidMet_one h1)
  have h3 := laidMet_tail (laidMet_tail h1)
  have h4 := laidMet_tail h3
  have he : EtIs W := et_of_laid (show laidMetH Tryz.prog [("errors.errorType", Rows.laid_errors_errorType)] W from ⟨⟨[], rfl, List.nodup_nil, fun _ _ h => absurd h (by simp)⟩, h2⟩)
  obtain ⟨a0, a1, _, _, c0, c1, t0, t1, hv0, hv1, _, _, _, _, _, _, _, hb0, hb1⟩ := laid_sentinels2 h3 gl_errTorn gt_errTorn gl_errOther gt_errOther Tryz.underlying122 es_row Tryz.underlying308 Tryz.underlying326 rfl rfl Tryz.underlying9 es_cells st_cells
  obtain ⟨b1, a2, _, _, _, c2, _, t2, hv1', hv2, _, _, _, _, _, _, _, _, hb2⟩ := laid_sentinels2 h4 gl_errOther gt_errOther gl_errSum gt_errSum Tryz.underlying122 es_row Tryz.underlying308 Tryz.underlying326 rfl rfl Tryz.underlying9 es_cells st_cells
  exact ⟨a0, a1, a2, he, ht, by simpa using World.var?_cell gl_errTorn hv0 0, by simpa using World.var?_cell gl_errOther hv1 0, by simpa using World.var?_cell gl_errSum hv2 0, ⟨c0, t0, hb0⟩, ⟨c1, t1, hb1⟩, ⟨c2, t2, hb2⟩⟩
noncomputable def lowF : Nat := (World.holding Tryz.prog default ⟨#[], #[], []⟩).heap.size
/-- A world that meets the condition. -/
noncomputable def laidWorldF (os : Os) : World :=
  let w0 := World.holding Tryz.prog os ⟨#[.cells #[.string ⟨#[110, 111, 116, 32, 119, 104, 111, 108, 101]⟩] 326, .cells #[.string ⟨#[111, 102, 32, 97, 110, 111, 116, 104, 101, 114, 32, 114, 101, 99, 111, 114, 100]⟩] 326, .cells #[.string ⟨#[97, 32, 119, 114, 111, 110, 103, 32, 115, 117, 109]⟩] 326], #[], []⟩
  { w0 with heap := (fun h => h.modify 14 fun
      | .cells _ t frozen => .cells #[.int .u32 0, .int .u32 498536548, .int .u32 997073096, .int .u32 651767980, .int .u32 1994146192, .int .u32 1802195444, .int .u32 1303535960, .int .u32 1342533948, .int .u32 3988292384, .int .u32 4027552580, .int .u32 3604390888, .int .u32 3412177804, .int .u32 2607071920, .int .u32 2262029012, .int .u32 2685067896, .int .u32 3183342108] t frozen
      | o => o) ((fun h => h.modify 17 fun
      | .cells _ t frozen => .cells #[.int .u8 128, .int .u8 191, .int .u8 160, .int .u8 191, .int .u8 128, .int .u8 159, .int .u8 144, .int .u8 191, .int .u8 128, .int .u8 143, .int .u8 0, .int .u8 0, .int .u8 0, .int .u8 0, .int .u8 0, .int .u8 0, .int .u8 0, .int .u8 0, .int .u8 0, .int .u8 0, .int .u8 0, .int .u8 0, .int .u8 0, .int .u8 0, .int .u8 0, .int .u8 0, .int .u8 0, .int .u8 0, .int .u8 0, .int .u8 0, .int .u8 0, .int .u8 0] t frozen
      | o => o) ((fun h => h.modify 13 fun
      | .cells _ t frozen => .cells #[.iface 238 (.agg #[.pointer (some ⟨18, 122, none⟩)])] t frozen
      | o => o) ((fun h => h.modify 16 fun
      | .cells _ t frozen => .cells (Go.Pinned.utf8FirstZ.map fun n : Nat => Value.int .u8 (n : Int)).toArray t frozen
      | o => o) ((fun h => h.modify 2 fun
      | .cells _ t frozen => .cells #[.iface 308 (.pointer (some ⟨lowF + 0, 0, none⟩))] t frozen
      | o => o) ((fun h => h.modify 3 fun
      | .cells _ t frozen => .cells #[.iface 308 (.pointer (some ⟨lowF + 1, 0, none⟩))] t frozen
      | o => o) ((fun h => h.modify 4 fun
      | .cells _ t frozen => .cells #[.iface 308 (.pointer (some ⟨lowF + 2, 0, none⟩))] t frozen
      | o => o) w0.heap)))))) }
theorem laidWorldF_met (os : Os) (args : Array Value) : laidMetH Tryz.prog [("pannier/crc.table", Rows.laid_pannier_crc_table), ("unicode/utf8.acceptRanges", Rows.laid_unicode_utf8_acceptRanges), ("errors.errorType", Rows.laid_errors_errorType), ("pannier/frame.errTorn", Rows.laid_pannier_frame_errTorn), ("pannier/frame.errOther", Rows.laid_pannier_frame_errOther), ("pannier/frame.errSum", Rows.laid_pannier_frame_errSum), ("unicode/utf8.first", Rows.laid_unicode_utf8_first)] ((laidWorldF os).forCall (fun _ _ => 0) ⟨#[], args, []⟩).memory :=
  laidMetH_of_parts (laidMet_of_run' 20 (by kernel_rfl) (by kernel_rfl)) (by kernel_rfl)
end Go.Proofs.YtdbiebnnogjccaaGreatDoor
