/- The walks of packages addr (Good, Fine) and edit.Good, and of their references. -/
import Derived.Test.YtoebldemcgahnaaGreatDoorPkc
import Derived.WalkLawsBesides
import Derived.Outline
namespace Go.Proofs.YtoebldemcgahnaaGreatDoor
open Go.RowKit

theorem ret_bool {a b : Bool} (h : a = b) : Ending.returned (.bool a) = .returned (.bool b) := by rw [h]
theorem bcell {W w1 : World} (hb : Below W.heap.size W w1) : (∀ b o, b < W.heap.size → w1.cell? ⟨b, o, none⟩ = W.cell? ⟨b, o, none⟩) ∧ (∀ b o, b < W.heap.size → w1.frozen? ⟨b, o, none⟩ = W.frozen? ⟨b, o, none⟩) :=
  ⟨fun b o h => hb.cell (p := ⟨b, o, none⟩) h, fun b o h => hb.frozen (p := ⟨b, o, none⟩) h⟩
theorem bstep {w a b : World} (h : Below w.heap.size w a) (k : Below a.heap.size a b) : Below w.heap.size w b := h.trans (k.mono h.size)
theorem below_a1 (w : World) (o : Obj) : Below w.heap.size w (w.alloc o) := (Below.refl _ _).alloc (Nat.le_refl _) _
theorem below_a2 (w : World) (o p : Obj) : Below w.heap.size w ((w.alloc o).alloc p) := bstep (below_a1 _ _) (below_a1 _ _)
def goodA (r c : Int) : Bool := decide (1 ≤ r) && decide (r ≤ 1000) && decide (1 ≤ c) && decide (c ≤ 50)
def fineR (fr fc tr tc : Int) : Bool := goodA fr fc && goodA tr tc && decide (fr ≤ tr) && decide (fc ≤ tc)
end Go.Proofs.YtoebldemcgahnaaGreatDoor
