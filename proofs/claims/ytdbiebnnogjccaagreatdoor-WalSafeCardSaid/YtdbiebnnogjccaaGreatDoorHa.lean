/- The walks of packages addr (Good, Fine) and edit.Good, and of their references. -/
import Derived.Test.YtdbiebnnogjccaaGreatDoorPkc
import Derived.WalkLawsBesides
import Derived.Outline
import Derived.Test.YtdbiebnnogjccaaGreatDoorFr
import Derived.Lib.Hide
namespace Go.Proofs.YtdbiebnnogjccaaGreatDoor
open Go.RowKit

theorem ret_bool {a b : Bool} (h : a = b) : Ending.returned (.bool a) = .returned (.bool b) := by rw [h]
theorem bcell {W w1 : World} (hb : Below W.heap.size W w1) : (∀ b o, b < W.heap.size → w1.cell? ⟨b, o, none⟩ = W.cell? ⟨b, o, none⟩) ∧ (∀ b o, b < W.heap.size → w1.frozen? ⟨b, o, none⟩ = W.frozen? ⟨b, o, none⟩) :=
  ⟨fun b o h => hb.cell (p := ⟨b, o, none⟩) h, fun b o h => hb.frozen (p := ⟨b, o, none⟩) h⟩
theorem bstep {w a b : World} (h : Below w.heap.size w a) (k : Below a.heap.size a b) : Below w.heap.size w b := h.trans (k.mono h.size)
theorem below_a1 (w : World) (o : Obj) : Below w.heap.size w (w.alloc o) := (Below.refl _ _).alloc (Nat.le_refl _) _
theorem below_a2 (w : World) (o p : Obj) : Below w.heap.size w ((w.alloc o).alloc p) := bstep (below_a1 _ _) (below_a1 _ _)
def goodA (r c : Int) : Bool := decide (1 ≤ r) && decide (r ≤ 1000) && decide (1 ≤ c) && decide (c ≤ 50)
def fineR (fr fc tr tc : Int) : Bool := goodA fr fc && goodA tr tc && decide (fr ≤ tr) && decide (fc ≤ tc)
end Go.Proofs.YtdbiebnnogjccaaGreatDoor

/- Heads (layer 20): layouts; what can be a head. -/
namespace Go.Proofs.YtdbiebnnogjccaaGreatDoor
open Go.RowKit
/-- A layout: log, logs, page, pages; and why there is none. -/
def layN (n : Int) : (Int × Int × Int × Int) × Int :=
  if n < 32 then ((0, 0, 0, 0), 75) else if 4096 < n then ((0, 0, 0, 0), 1) else ((2, (n - 2) / 4, 2 + (n - 2) / 4, n - 2 - (n - 2) / 4), 0)
def layV (x : Int × Int × Int × Int) : Value := .agg #[.int .i64 x.1, .int .i64 x.2.1, .int .i64 x.2.2.1, .int .i64 x.2.2.2]
set_option maxRecDepth 20000 in
set_option maxHeartbeats 1000000 in
theorem head_Lay (n : Int) (w : World) :
    Calls Tryz.prog 67 #[.int .i64 n] w fun e w' => e = .returned (.tuple #[layV (layN n).1, .int .i64 (layN n).2]) ∧ Below w.heap.size w w' := by
  by_cases h0 : n < 32
  · have e : layN n = ((0, 0, 0, 0), 75) := by unfold layN; rw [if_pos h0]
    rw [e]; clear e; unfold layV
    go_enter Tryz.func67, Tryz.ntmps67
    go_wp2_with fail
    exact bodyPost_ret (v := .tuple #[.agg #[.int .i64 0, .int .i64 0, .int .i64 0, .int .i64 0], .int .i64 75]) (by simp [results, Tryz.results67, go_sem]) rfl ⟨rfl, below_a1 _ _⟩
  by_cases h1 : 4096 < n
  · have e : layN n = ((0, 0, 0, 0), 1) := by unfold layN; rw [if_neg h0, if_pos h1]
    rw [e]; clear e; unfold layV
    go_enter Tryz.func67, Tryz.ntmps67
    go_wp2_with fail
    exact bodyPost_ret (v := .tuple #[.agg #[.int .i64 0, .int .i64 0, .int .i64 0, .int .i64 0], .int .i64 1]) (by simp [results, Tryz.results67, go_sem]) rfl ⟨rfl, below_a1 _ _⟩
  have e : layN n = ((2, (n - 2) / 4, 2 + (n - 2) / 4, n - 2 - (n - 2) / 4), 0) := by unfold layN; rw [if_neg h0, if_neg h1]
  rw [e]; clear e; unfold layV
  have d1 : (n - 2).tdiv 4 = (n - 2) / 4 := Int.tdiv_eq_ediv_of_nonneg (by omega)
  have w1 : IntKind.i64.wrap (n - 2) = n - 2 := IntWalk.i64_in _ (by omega)
  have w2 : IntKind.i64.wrap ((n - 2) / 4) = (n - 2) / 4 := IntWalk.i64_in _ (by omega)
  have w3 : IntKind.i64.wrap (2 + (n - 2) / 4) = 2 + (n - 2) / 4 := IntWalk.i64_in _ (by omega)
  have w4 : IntKind.i64.wrap (n - 2 - (n - 2) / 4) = n - 2 - (n - 2) / 4 := IntWalk.i64_in _ (by omega)
  go_enter Tryz.func67, Tryz.ntmps67
  go_wp2_with fail
  exact bodyPost_ret (v := .tuple #[.agg #[.int .i64 2, .int .i64 ((n - 2) / 4), .int .i64 (2 + (n - 2) / 4), .int .i64 (n - 2 - (n - 2) / 4)], .int .i64 0]) (by simp [results, Tryz.results67, go_sem]) rfl ⟨rfl, below_a1 _ _⟩
set_option maxRecDepth 20000 in
set_option maxHeartbeats 1000000 in
theorem ref20_Lay (n : Int) (w : World) :
    Calls Tryz.prog 82 #[.int .i64 n] w fun e w' => e = .returned (.tuple #[layV (layN n).1, .int .i64 (layN n).2]) ∧ Below w.heap.size w w' := by
  by_cases h0 : n < 32
  · have e : layN n = ((0, 0, 0, 0), 75) := by unfold layN; rw [if_pos h0]
    rw [e]; clear e; unfold layV
    go_enter Tryz.func82, Tryz.ntmps82
    go_wp2_with fail
    exact bodyPost_ret (v := .tuple #[.agg #[.int .i64 0, .int .i64 0, .int .i64 0, .int .i64 0], .int .i64 75]) (by simp [results, Tryz.results82, go_sem]) rfl ⟨rfl, below_a1 _ _⟩
  by_cases h1 : 4096 < n
  · have e : layN n = ((0, 0, 0, 0), 1) := by unfold layN; rw [if_neg h0, if_pos h1]
    rw [e]; clear e; unfold layV
    go_enter Tryz.func82, Tryz.ntmps82
    go_wp2_with fail
    exact bodyPost_ret (v := .tuple #[.agg #[.int .i64 0, .int .i64 0, .int .i64 0, .int .i64 0], .int .i64 1]) (by simp [results, Tryz.results82, go_sem]) rfl ⟨rfl, below_a1 _ _⟩
  have e : layN n = ((2, (n - 2) / 4, 2 + (n - 2) / 4, n - 2 - (n - 2) / 4), 0) := by unfold layN; rw [if_neg h0, if_neg h1]
  rw [e]; clear e; unfold layV
  have d1 : (n - 2).tdiv 4 = (n - 2) / 4 := Int.tdiv_eq_ediv_of_nonneg (by omega)
  have w1 : IntKind.i64.wrap (n - 2) = n - 2 := IntWalk.i64_in _ (by omega)
  have w2 : IntKind.i64.wrap ((n - 2) / 4) = (n - 2) / 4 := IntWalk.i64_in _ (by omega)
  have w3 : IntKind.i64.wrap (2 + (n - 2) / 4) = 2 + (n - 2) / 4 := IntWalk.i64_in _ (by omega)
  have w4 : IntKind.i64.wrap (n - 2 - (n - 2) / 4) = n - 2 - (n - 2) / 4 := IntWalk.i64_in _ (by omega)
  go_enter Tryz.func82, Tryz.ntmps82
  go_wp2_with fail
  exact bodyPost_ret (v := .tuple #[.agg #[.int .i64 2, .int .i64 ((n - 2) / 4), .int .i64 (2 + (n - 2) / 4), .int .i64 (n - 2 - (n - 2) / 4)], .int .i64 0]) (by simp [results, Tryz.results82, go_sem]) rfl ⟨rfl, below_a1 _ _⟩
/-- A head as a value. -/
def Hd.v (h : Hd) : Value := .agg #[.int .u32 h.e, .int .i64 h.r, .int .u32 h.f]
end Go.Proofs.YtdbiebnnogjccaaGreatDoor
