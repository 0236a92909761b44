/- The walks of packages addr (Good, Fine) and edit.Good, and of their references. -/
import Derived.Test.YtlpdanghcdajmaaDoorPkc
import Derived.WalkLawsBesides
import Derived.Outline
namespace Go.Proofs.YtlpdanghcdajmaaDoor
open Go.RowKit

theorem ret_bool {a b : Bool} (h : a = b) : Ending.returned (.bool a) = .returned (.bool b) := by rw [h]
theorem bcell {W w1 : World} (hb : Below W.heap.size W w1) : (∀ b o, b < W.heap.size → w1.cell? ⟨b, o, none⟩ = W.cell? ⟨b, o, none⟩) ∧ (∀ b o, b < W.heap.size → w1.frozen? ⟨b, o, none⟩ = W.frozen? ⟨b, o, none⟩) :=
  ⟨fun b o h => hb.cell (p := ⟨b, o, none⟩) h, fun b o h => hb.frozen (p := ⟨b, o, none⟩) h⟩
theorem bstep {w a b : World} (h : Below w.heap.size w a) (k : Below a.heap.size a b) : Below w.heap.size w b := h.trans (k.mono h.size)
theorem below_a1 (w : World) (o : Obj) : Below w.heap.size w (w.alloc o) := (Below.refl _ _).alloc (Nat.le_refl _) _
theorem below_a2 (w : World) (o p : Obj) : Below w.heap.size w ((w.alloc o).alloc p) := bstep (below_a1 _ _) (below_a1 _ _)
def goodA (r c : Int) : Bool := decide (1 ≤ r) && decide (r ≤ 1000) && decide (1 ≤ c) && decide (c ≤ 50)
theorem addr_Good (r c : Int) (w : World) : Calls Tryd.prog 71 #[.agg #[.int .i64 r, .int .i64 c]] w fun e w' => e = .returned (.bool (goodA r c)) ∧ Below w.heap.size w w' := by
  go_enter Tryd.func71, Tryd.ntmps71
  go_wp2
  all_goals (go_ret; exact ⟨ret_bool (by simp [goodA] <;> omega), (Below.refl _ _).alloc (Nat.le_refl _) _⟩)
theorem ref02_Good (r c : Int) (w : World) : Calls Tryd.prog 73 #[.agg #[.int .i64 r, .int .i64 c]] w fun e w' => e = .returned (.bool (goodA r c)) ∧ Below w.heap.size w w' := by
  go_enter Tryd.func73, Tryd.ntmps73
  go_wp2
  all_goals (go_ret; exact ⟨ret_bool (by simp [goodA] <;> omega), (Below.refl _ _).alloc (Nat.le_refl _) _⟩)
def fineR (fr fc tr tc : Int) : Bool := goodA fr fc && goodA tr tc && decide (fr ≤ tr) && decide (fc ≤ tc)
theorem addr_Fine (fr fc tr tc : Int) (w : World) : Calls Tryd.prog 72 #[.agg #[.int .i64 fr, .int .i64 fc, .int .i64 tr, .int .i64 tc]] w fun e w' => e = .returned (.bool (fineR fr fc tr tc)) ∧ Below w.heap.size w w' := by
  have hB0 := (Below.refl w.heap.size w).alloc (Nat.le_refl _) (.cells #[.int .i64 fr, .int .i64 fc, .int .i64 tr, .int .i64 tc] 57)
  cases h1 : goodA fr fc with
  | false =>
    have hr : fineR fr fc tr tc = false := by simp [fineR, h1]
    rw [hr]; clear hr
    go_enter Tryd.func72, Tryd.ntmps72
    go_wp2_with fail
    refine (addr_Good _ _ _).mono ?_; rintro e w1 ⟨rfl, hb1⟩
    go_wp2_with fail
    go_ret
    exact ⟨rfl, hB0.trans (hb1.mono hB0.size)⟩
  | true =>
  cases h2 : goodA tr tc with
  | false =>
    have hr : fineR fr fc tr tc = false := by simp [fineR, h2]
    rw [hr]; clear hr
    go_enter Tryd.func72, Tryd.ntmps72
    go_wp2_with fail
    refine (addr_Good _ _ _).mono ?_; rintro e w1 ⟨rfl, hb1⟩
    obtain ⟨hc1, hf1⟩ := bcell hb1
    go_wp2_with fail
    refine (addr_Good _ _ _).mono ?_; rintro e w2 ⟨rfl, hb2⟩
    go_wp2_with fail
    go_ret
    exact ⟨rfl, (hB0.trans (hb1.mono hB0.size)).trans (hb2.mono (Nat.le_trans hB0.size hb1.size))⟩
  | true =>
    have hr : fineR fr fc tr tc = (decide (fr ≤ tr) && decide (fc ≤ tc)) := by simp [fineR, h1, h2]
    rw [hr]; clear hr
    go_enter Tryd.func72, Tryd.ntmps72
    go_wp2_with fail
    refine (addr_Good _ _ _).mono ?_; rintro e w1 ⟨rfl, hb1⟩
    obtain ⟨hc1, hf1⟩ := bcell hb1
    go_wp2_with fail
    refine (addr_Good _ _ _).mono ?_; rintro e w2 ⟨rfl, hb2⟩
    obtain ⟨hc2, hf2⟩ := bcell hb2
    have hz : w.heap.size < w1.heap.size := by have := hb1.size; simp at this; omega
    go_wp2_with fail
    all_goals
      go_ret
      exact ⟨ret_bool (by simp <;> omega), (hB0.trans (hb1.mono hB0.size)).trans (hb2.mono (Nat.le_trans hB0.size hb1.size))⟩
theorem ref02_Fine (fr fc tr tc : Int) (w : World) : Calls Tryd.prog 74 #[.agg #[.int .i64 fr, .int .i64 fc, .int .i64 tr, .int .i64 tc]] w fun e w' => e = .returned (.bool (fineR fr fc tr tc)) ∧ Below w.heap.size w w' := by
  have hB0 := (Below.refl w.heap.size w).alloc (Nat.le_refl _) (.cells #[.int .i64 fr, .int .i64 fc, .int .i64 tr, .int .i64 tc] 57)
  cases h1 : goodA fr fc with
  | false =>
    have hr : fineR fr fc tr tc = false := by simp [fineR, h1]
    rw [hr]; clear hr
    go_enter Tryd.func74, Tryd.ntmps74
    go_wp2_with fail
    refine (ref02_Good _ _ _).mono ?_; rintro e w1 ⟨rfl, hb1⟩
    go_wp2_with fail
    go_ret
    exact ⟨rfl, hB0.trans (hb1.mono hB0.size)⟩
  | true =>
  cases h2 : goodA tr tc with
  | false =>
    have hr : fineR fr fc tr tc = false := by simp [fineR, h2]
    rw [hr]; clear hr
    go_enter Tryd.func74, Tryd.ntmps74
    go_wp2_with fail
    refine (ref02_Good _ _ _).mono ?_; rintro e w1 ⟨rfl, hb1⟩
    obtain ⟨hc1, hf1⟩ := bcell hb1
    go_wp2_with fail
    refine (ref02_Good _ _ _).mono ?_; rintro e w2 ⟨rfl, hb2⟩
    go_wp2_with fail
    go_ret
    exact ⟨rfl, (hB0.trans (hb1.mono hB0.size)).trans (hb2.mono (Nat.le_trans hB0.size hb1.size))⟩
  | true =>
    have hr : fineR fr fc tr tc = (decide (fr ≤ tr) && decide (fc ≤ tc)) := by simp [fineR, h1, h2]
    rw [hr]; clear hr
    go_enter Tryd.func74, Tryd.ntmps74
    go_wp2_with fail
    refine (ref02_Good _ _ _).mono ?_; rintro e w1 ⟨rfl, hb1⟩
    obtain ⟨hc1, hf1⟩ := bcell hb1
    go_wp2_with fail
    refine (ref02_Good _ _ _).mono ?_; rintro e w2 ⟨rfl, hb2⟩
    obtain ⟨hc2, hf2⟩ := bcell hb2
    have hz : w.heap.size < w1.heap.size := by have := hb1.size; simp at this; omega
    go_wp2_with fail
    all_goals
      go_ret
      exact ⟨ret_bool (by simp <;> omega), (hB0.trans (hb1.mono hB0.size)).trans (hb2.mono (Nat.le_trans hB0.size hb1.size))⟩
end Go.Proofs.YtlpdanghcdajmaaDoor
