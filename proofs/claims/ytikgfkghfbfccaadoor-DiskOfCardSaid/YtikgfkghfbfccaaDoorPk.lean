/- The walks of package pack. -/
import Derived.Test.YtikgfkghfbfccaaDoorAs
import Derived.Test.YtikgfkghfbfccaaDoorPu
import Derived.Deep.QuietTactic
import Derived.BigQuiet
import Derived.Lib.Hide
namespace Go.Proofs.YtikgfkghfbfccaaDoor
open Go.RowKit

/-- errors.errorType as the program lays it. -/
def EtIs (w : World) : Prop := w.cell? ⟨2, 0, none⟩ = some (.iface 175 (.agg #[.pointer (some ⟨4, 103, none⟩)]))
theorem EtIs.lt {w : World} (h : EtIs w) : 2 < w.heap.size := by
  rcases Nat.lt_or_ge 2 w.heap.size with h' | h'
  · exact h'
  · unfold EtIs at h; simp [World.cell?, Array.getElem?_eq_none h'] at h
theorem EtIs.below {w w' : World} (h : EtIs w) (hb : Below w.heap.size w w') : EtIs w' := by
  unfold EtIs; rw [hb.cell (p := ⟨2, 0, none⟩) h.lt]; exact h
theorem EtIs.alloc {w : World} (h : EtIs w) (o : Obj) : EtIs (w.alloc o) := h.below ((Below.refl _ _).alloc (Nat.le_refl _) _)

theorem pack_size (n : Int) (w : World) : Calls Tryd.prog 123 #[.int .i64 n] w fun e w' => e = .returned (.bool (sizeB n)) ∧ w = w' := by
  go_enter Tryd.func123, Tryd.ntmps123
  go_wp2
  all_goals (go_ret; exact ⟨by simp [sizeB, *], rfl⟩)
theorem pack_fail (n c : Int) (w : World) : Calls Tryd.prog 124 #[.int .i64 n, .int .i64 c] w fun e w' => e = .returned (.iface 205 (.pointer (some ⟨w.heap.size, 0, none⟩))) ∧ w.alloc (.cells #[.int .i64 n, .int .i64 c] 208) = w' := by
  go_enter Tryd.func124, Tryd.ntmps124
  go_wp2
  go_ret
  exact ⟨rfl, rfl⟩
theorem told_nil (w : World) : Calls Tryd.prog 103 #[.nilIface] w fun e w' => e = .returned (.int .i64 0) ∧ Below w.heap.size w w' := by
  go_enter Tryd.func103, Tryd.ntmps103
  go_wp2_with (go_at_call 77; refine (as_nil _ _).mono ?_; rintro e w' ⟨rfl, rfl⟩)
  go_ret
  exact ⟨rfl, (Below.refl _ _).alloc (Nat.le_refl _) _⟩
/-- What errors.As does to a fresh variable: it is set; all that was there ahead of it stays. -/
theorem pkw_as_fresh (e : Addr) (w : World) (he : EtIs w) :
    Calls Tryd.prog 77 #[.iface 205 (.pointer (some e)), .iface 206 (.pointer (some ⟨w.heap.size, 0, none⟩))] (w.alloc (.cells #[.pointer none] 205)) fun ev w' =>
      ev = .returned (.bool true) ∧ Below w.heap.size w w' ∧ w'.cell? ⟨w.heap.size, 0, none⟩ = some (.pointer (some e)) := by
  have hg1 := he.alloc (.cells #[.pointer none] 205)
  unfold EtIs at hg1
  refine (pkw_as_hit e ⟨w.heap.size, 0, none⟩ (.pointer none) _ hg1 (by simp) (by simp)).mono ?_
  rintro ev w' ⟨rfl, rfl⟩
  refine ⟨rfl, ?_, ?_⟩
  · exact (((((Below.refl _ _).alloc (Nat.le_refl _) _).alloc (by simp) _).alloc (by simp; omega) _).alloc (by simp; omega) _).alloc (by simp; omega) _ |>.setCell (by simp) _
  · simp [go_sem]
set_option maxHeartbeats 1000000 in
theorem told_hit (b : Nat) (c : Int) (w : World) (he : EtIs w) (hb : b < w.heap.size) (hc : w.cell? ⟨b, 1, none⟩ = some (.int .i64 c)) :
    Calls Tryd.prog 103 #[.iface 205 (.pointer (some ⟨b, 0, none⟩))] w fun e w' => e = .returned (.int .i64 c) ∧ Below w.heap.size w w' := by
  have H := Lib.hid ((pkw_as_fresh ⟨b, 0, none⟩ w he).mono (R' := fun ev w' => ev = .returned (.bool true) ∧ Below w.heap.size w w' ∧ w'.cell? ⟨w.heap.size, 0, none⟩ = some (.pointer (some ⟨b, 0, none⟩)) ∧ w'.cell? ⟨b, 1, none⟩ = some (.int .i64 c))
    (fun ev w' ⟨h1, h2, h3⟩ => ⟨h1, h2, h3, by rw [h2.cell (p := ⟨b, 1, none⟩) hb]; exact hc⟩))
  clear hc he hb
  go_enter Tryd.func103, Tryd.ntmps103
  go_wp2_with (go_at_call 77; refine (H.out).mono ?_; rintro e w' ⟨rfl, hbl, hc1, hc2⟩)
  go_ret
  exact ⟨rfl, hbl⟩
end Go.Proofs.YtikgfkghfbfccaaDoor
