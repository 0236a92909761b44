/- Nodes (layer 23): the plain words; the walks of page, item and the closures. -/
import Derived.Test.YtlpdanghcdajmaaDoorFr
import Derived.Test.YtlpdanghcdajmaaDoorEd
namespace Go.Proofs.YtlpdanghcdajmaaDoor
open Go.RowKit
def pageB (n : Int) : Bool := decide (0 ≤ n) && decide (n ≤ 4096)
/-- An item: key, size, text, page. -/
structure It where
  key : Int
  size : Int
  text : ByteArray
  page : Int
def It.cells (x : It) : Array Value := #[.int .u32 x.key, .int .i64 x.size, .string x.text, .int .i64 x.page]
def goodI (x : It) : Bool :=
  if x.size ≤ 40 then decide (0 ≤ x.size) && ((x.text.size : Int) == x.size) && (x.page == 0) else decide (x.size ≤ 2000) && x.text.toList.isEmpty && pageB x.page
theorem node_page (n : Int) (w : World) : Calls Tryd.prog 88 #[.int .i64 n] w fun e w' => e = .returned (.bool (pageB n)) ∧ w = w' := by
  go_enter Tryd.func88, Tryd.ntmps88
  go_wp2
  all_goals (go_ret; exact ⟨ret_bool (by simp [pageB] <;> omega), rfl⟩)
theorem ref23_page (n : Int) (w : World) : Calls Tryd.prog 91 #[.int .i64 n] w fun e w' => e = .returned (.bool (pageB n)) ∧ w = w' := by
  go_enter Tryd.func91, Tryd.ntmps91
  go_wp2
  all_goals (go_ret; exact ⟨ret_bool (by simp [pageB] <;> omega), rfl⟩)
theorem node_item (x : It) (w : World) : Calls Tryd.prog 83 #[.agg x.cells] w fun e w' => e = .returned (.bool (goodI x)) ∧ Below w.heap.size w w' := by
  obtain ⟨k, z, t, p⟩ := x
  simp only [It.cells]
  by_cases h : z ≤ 40
  · have hr : goodI ⟨k, z, t, p⟩ = (decide (0 ≤ z) && ((t.size : Int) == z) && (p == 0)) := by simp [goodI, h]
    rw [hr]; clear hr
    go_enter Tryd.func83, Tryd.ntmps83
    go_wp2
    all_goals (go_ret; exact ⟨ret_bool (by first | (simp_all; done) | (simp <;> omega) | (simp_all <;> omega)), below_a1 _ _⟩)
  · by_cases h2 : z ≤ 2000
    · cases h3 : (t.toList == []) with
      | true =>
        have h4 : t.toList = [] := by simpa using h3
        have hr : goodI ⟨k, z, t, p⟩ = pageB p := by simp [goodI, h, h2, h4]
        have Hr := Lib.hid hr
        clear hr h4
        go_enter Tryd.func83, Tryd.ntmps83
        go_wp2_with fail
        refine (node_page _ _).mono ?_; rintro e w1 ⟨rfl, rfl⟩
        go_wp2_with fail
        go_ret
        exact ⟨ret_bool Hr.out.symm, below_a1 _ _⟩
      | false =>
        have h4 : ¬ t.toList = [] := by simpa using h3
        have hr : goodI ⟨k, z, t, p⟩ = false := by simp [goodI, h, h4]
        rw [hr]; clear hr h4
        go_enter Tryd.func83, Tryd.ntmps83
        go_wp2_with fail
        go_ret
        exact ⟨rfl, below_a1 _ _⟩
    · have hr : goodI ⟨k, z, t, p⟩ = false := by simp [goodI, h, h2]
      rw [hr]; clear hr
      go_enter Tryd.func83, Tryd.ntmps83
      go_wp2_with fail
      go_ret
      exact ⟨rfl, below_a1 _ _⟩
/-! ### the closures -/
theorem good_1 (x : It) (w : World) : Calls Tryd.prog 82 #[.agg x.cells] w fun e w' => e = .returned (.bool (!goodI x)) ∧ Below w.heap.size w w' := by
  obtain ⟨k, z, t, p⟩ := x
  have H := Lib.hid (node_item ⟨k, z, t, p⟩)
  simp only [It.cells]
  generalize goodI ⟨k, z, t, p⟩ = g at H ⊢
  go_enter Tryd.func82, Tryd.ntmps82
  go_wp2_with fail
  refine (H.out _).mono ?_; rintro e w1 ⟨rfl, hb⟩
  go_wp2_with fail
  go_ret
  exact ⟨rfl, bstep (below_a1 _ _) hb⟩
theorem good_2 (x : It) (w : World) : Calls Tryd.prog 85 #[.agg x.cells] w fun e w' => e = .returned (.int .u32 x.key) ∧ Below w.heap.size w w' := by
  obtain ⟨k, z, t, p⟩ := x
  simp only [It.cells]
  go_enter Tryd.func85, Tryd.ntmps85
  go_wp2_with fail
  go_ret
  exact ⟨rfl, below_a1 _ _⟩
theorem good_3 (n : Int) (w : World) : Calls Tryd.prog 87 #[.int .i64 n] w fun e w' => e = .returned (.bool (!pageB n)) ∧ w = w' := by
  go_enter Tryd.func87, Tryd.ntmps87
  go_wp2_with fail
  refine (node_page _ _).mono ?_; rintro e w1 ⟨rfl, rfl⟩
  go_wp2_with fail
  go_ret
  exact ⟨rfl, rfl⟩
theorem good_4 (n : Int) (w : World) : Calls Tryd.prog 90 #[.int .u32 n] w fun e w' => e = .returned (.int .u32 n) ∧ w = w' := by
  go_enter Tryd.func90, Tryd.ntmps90
  go_wp2_with fail
  go_ret
  exact ⟨rfl, rfl⟩
end Go.Proofs.YtlpdanghcdajmaaDoor
