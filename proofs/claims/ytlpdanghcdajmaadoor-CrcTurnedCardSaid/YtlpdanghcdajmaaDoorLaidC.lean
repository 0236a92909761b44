/- What the condition on crc.table gives a walk; a world that meets it. -/
import Derived.Test.YtlpdanghcdajmaaDoorRows
import Derived.Test.YtlpdanghcdajmaaDoorL15
import Derived.ChangeSame
import Derived.ChangeVars
import Derived.JoinedOf
import Derived.RowKit
import Derived.RowKitTokens
import Derived.LaidLaws
import Derived.LaidHandle
import Derived.Stop.Joined
import Derived.OpenShut
namespace Go.Proofs.YtlpdanghcdajmaaDoor
open Go.ChangeShapes Go.WideShapes Go.RowKit

theorem sownC : ownKnob Tryd.prog.godebug = none := by kernel_rfl
theorem tb_glob : Tryd.prog.globalNamed "pannier/crc.table" = some 0 := by kernel_rfl
theorem tb_type : (Tryd.prog.globals[0]?).map (·.type) = some 155 := by kernel_rfl
theorem tb_under : Tryd.prog.underlying 155 = some (.array 16 22) := by kernel_rfl
theorem u32_cells : Tryd.prog.cellsOf 22 = 1 := by kernel_rfl
theorem tb_list {H : Type} : ∃ L : List (DataW H), Rows.laid_pannier_crc_table = .agg L ∧ ∀ i, i < 16 → L[i]? = some (.lit (.int .u32 ((tbl i : Nat) : Int))) :=
  ⟨_, rfl, fun i h => match i, h with
    | 0, _ => rfl | 1, _ => rfl | 2, _ => rfl | 3, _ => rfl | 4, _ => rfl | 5, _ => rfl | 6, _ => rfl | 7, _ => rfl
    | 8, _ => rfl | 9, _ => rfl | 10, _ => rfl | 11, _ => rfl | 12, _ => rfl | 13, _ => rfl | 14, _ => rfl | 15, _ => rfl
    | n + 16, h => absurd h (by omega)⟩
/-- The variable's cells. -/
theorem tbl_of_laid {W : World} (h : laidMetH Tryd.prog [("pannier/crc.table", Rows.laid_pannier_crc_table)] W) : TblIs W := by
  have h' : laidMet Tryd.prog [("pannier/crc.table", Rows.laid_pannier_crc_table)] W := h
  obtain ⟨ps, ⟨g, t, cs, fuel, p, q, e1, e2, e3, e4, _, _⟩, _, _⟩ := h'
  obtain rfl := Option.some.inj (tb_glob.symm.trans e1)
  obtain rfl := Option.some.inj (tb_type.symm.trans e2)
  obtain ⟨xs, m, _, hx, hlen, hl, hi⟩ := DataW.trod_array tb_under e4
  obtain ⟨L, hL, hLi⟩ := tb_list (H := Unit)
  rw [hL] at hx
  have hx1 : L = xs.map (·.1) := by
    have := (Prod.mk.inj hx).1
    injection this
  have hc : ∀ i, i < 16 → W.cell? ⟨0, i, none⟩ = some (.int .u32 (tbl i : Nat)) := fun i h16 => by
    have h0 := hi i h16
    rw [u32_cells, Nat.mul_one, List.getElem?_eq_getElem (by omega)] at h0
    obtain ⟨n, en, ex, _⟩ := DataW.trod_int Tryd.underlying22 h0
    have hv := hLi i h16
    rw [hx1, List.getElem?_map, List.getElem?_eq_getElem (by omega), ex] at hv
    simp only [Option.map_some, Option.some.injEq] at hv
    have hn : n = ((tbl i : Nat) : Int) := by injection hv with hv; injection hv
    have hci : cs[i]? = some (.int .u32 n) := by
      have : (cs.toList.drop i)[0]? = some (.int .u32 n) := by
        cases hd : cs.toList.drop i with
        | nil => rw [hd] at en; simp at en
        | cons a r => rw [hd] at en; simp at en; simp [en]
      simpa using this
    rw [World.var?_cell tb_glob e3 i, hci, hn]
  refine ⟨?_, hc⟩
  have h0 := hc 0 (by decide)
  exact Nat.pos_of_ne_zero fun hz => by
    simp [World.cell?, Array.getElem?_eq_none (by omega : W.heap.size ≤ 0)] at h0
/-- A world that meets the condition. -/
noncomputable def laidWorldC (os : Os) : World :=
  let w0 := World.holding Tryd.prog os ⟨#[], #[], []⟩
  { w0 with heap := w0.heap.modify 0 fun
      | .cells _ t frozen => .cells #[.int .u32 0, .int .u32 498536548, .int .u32 997073096, .int .u32 651767980, .int .u32 1994146192, .int .u32 1802195444, .int .u32 1303535960, .int .u32 1342533948, .int .u32 3988292384, .int .u32 4027552580, .int .u32 3604390888, .int .u32 3412177804, .int .u32 2607071920, .int .u32 2262029012, .int .u32 2685067896, .int .u32 3183342108] t frozen
      | o => o }
theorem laidWorldC_met (os : Os) (args : Array Value) : laidMetH Tryd.prog [("pannier/crc.table", Rows.laid_pannier_crc_table)] ((laidWorldC os).forCall (fun _ _ => 0) ⟨#[], args, []⟩).memory :=
  laidMet_of_run' 20 (by kernel_rfl) (by kernel_rfl)
end Go.Proofs.YtlpdanghcdajmaaDoor
