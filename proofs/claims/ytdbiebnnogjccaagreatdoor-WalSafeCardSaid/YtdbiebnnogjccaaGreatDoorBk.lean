/- Blocks: a whole struct of two, three, four fields is stored. -/
import Derived.Test.YtdbiebnnogjccaaGreatDoorFr
import Derived.Test.YtdbiebnnogjccaaGreatDoorHa
namespace Go.Proofs.YtdbiebnnogjccaaGreatDoor
open Go.RowKit
theorem st2 {w : World} {B : Nat} {c0 c1 : Value} {t : TypeId} (h : w.heap[B]? = some (.cells #[c0, c1] t (0, 0))) (v0 v1 : Value) :
    ((w.setCell ⟨B, 0, none⟩ v0).setCell ⟨B, 1, none⟩ v1).heap[B]? = some (.cells #[v0, v1] t (0, 0)) :=
  blk_set (blk_set h 0 v0) 1 v1
theorem st3 {w : World} {B : Nat} {c0 c1 c2 : Value} {t : TypeId} (h : w.heap[B]? = some (.cells #[c0, c1, c2] t (0, 0))) (v0 v1 v2 : Value) :
    (((w.setCell ⟨B, 0, none⟩ v0).setCell ⟨B, 1, none⟩ v1).setCell ⟨B, 2, none⟩ v2).heap[B]? = some (.cells #[v0, v1, v2] t (0, 0)) :=
  blk_set (blk_set (blk_set h 0 v0) 1 v1) 2 v2
theorem st4 {w : World} {B : Nat} {c0 c1 c2 c3 : Value} {t : TypeId} (h : w.heap[B]? = some (.cells #[c0, c1, c2, c3] t (0, 0))) (v0 v1 v2 v3 : Value) :
    ((((w.setCell ⟨B, 0, none⟩ v0).setCell ⟨B, 1, none⟩ v1).setCell ⟨B, 2, none⟩ v2).setCell ⟨B, 3, none⟩ v3).heap[B]? = some (.cells #[v0, v1, v2, v3] t (0, 0)) :=
  blk_set (blk_set (blk_set (blk_set h 0 v0) 1 v1) 2 v2) 3 v3
theorem bst2 {B : Nat} {a w : World} (h : Below B a w) {p : Nat} (hp : B ≤ p) (v0 v1 : Value) : Below B a ((w.setCell ⟨p, 0, none⟩ v0).setCell ⟨p, 1, none⟩ v1) := (h.setCell hp _).setCell hp _
theorem bst3 {B : Nat} {a w : World} (h : Below B a w) {p : Nat} (hp : B ≤ p) (v0 v1 v2 : Value) : Below B a (((w.setCell ⟨p, 0, none⟩ v0).setCell ⟨p, 1, none⟩ v1).setCell ⟨p, 2, none⟩ v2) := ((h.setCell hp _).setCell hp _).setCell hp _
theorem bst4 {B : Nat} {a w : World} (h : Below B a w) {p : Nat} (hp : B ≤ p) (v0 v1 v2 v3 : Value) : Below B a ((((w.setCell ⟨p, 0, none⟩ v0).setCell ⟨p, 1, none⟩ v1).setCell ⟨p, 2, none⟩ v2).setCell ⟨p, 3, none⟩ v3) := (((h.setCell hp _).setCell hp _).setCell hp _).setCell hp _
/-- Only draws lie between. -/
def Dr (w w' : World) : Prop := ∃ n, w' = w.drewN n
theorem Dr.refl (w : World) : Dr w w := ⟨0, rfl⟩
theorem Dr.dr {w w' : World} (h : Dr w w') (n : Nat) : Dr w (w'.drewN n) := by obtain ⟨m, rfl⟩ := h; exact ⟨m + n, World.drewN_drewN _ _ _⟩
theorem Dr.tr {w w' w'' : World} (h : Dr w w') (k : Dr w' w'') : Dr w w'' := by obtain ⟨n, rfl⟩ := k; exact h.dr n
theorem Dr.below {w w' : World} (h : Dr w w') : Below w.heap.size w w' := by obtain ⟨n, rfl⟩ := h; exact ⟨rfl, rfl, rfl, Nat.le_refl _, fun _ _ => rfl⟩
theorem Dr.heap {w w' : World} (h : Dr w w') (k : Nat) : w'.heap[k]? = w.heap[k]? := by obtain ⟨n, rfl⟩ := h; rfl
theorem Dr.size {w w' : World} (h : Dr w w') : w'.heap.size = w.heap.size := by obtain ⟨n, rfl⟩ := h; rfl
end Go.Proofs.YtdbiebnnogjccaaGreatDoor
