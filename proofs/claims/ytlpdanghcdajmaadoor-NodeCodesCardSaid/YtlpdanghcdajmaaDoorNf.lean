/- Nodes (layer 23): Good. -/
import Derived.Test.YtlpdanghcdajmaaDoorNe
namespace Go.Proofs.YtlpdanghcdajmaaDoor
open Go.RowKit
theorem SlItems.form {w : World} {v : Value} {l : List It} (h : SlItems w v l) : ∃ p cap, v = .slice p l.length cap := by
  rcases h with ⟨rfl, rfl⟩ | ⟨b, off, cap, rfl, _⟩
  · exact ⟨none, 0, rfl⟩
  · exact ⟨_, cap, rfl⟩
theorem SlInts.form {kd : IntKind} {w : World} {v : Value} {l : List Int} (h : SlInts kd w v l) : ∃ p cap, v = .slice p l.length cap := by
  rcases h with ⟨rfl, rfl⟩ | ⟨b, off, cap, rfl, _⟩
  · exact ⟨none, 0, rfl⟩
  · exact ⟨_, cap, rfl⟩
/-- Is a node good? -/
def goodN (lf : Bool) (I : List It) (K D : List Int) : Bool :=
  if lf then decide (K.length + D.length = 0) && decide (I.length ≤ 255) && !(I.any fun x => !goodI x) && risesB (I.map It.key)
  else decide (I.length = 0) && decide (1 ≤ K.length) && decide (K.length ≤ 255) && decide (D.length = K.length + 1) && !(D.any fun x => !pageB x) && risesB K
set_option maxHeartbeats 2000000 in
theorem node_Good_leaf (v1 v2 v3 : Value) (I : List It) (K D : List Int) (lI : I.length < 4294967296) (lK : K.length < 4294967296) (lD : D.length < 4294967296) (w : World) (h1 : SlItems w v1 I) (h2 : SlInts .u32 w v2 K) (h3 : SlInts .i64 w v3 D) :
    Calls Tryd.prog 48 #[.agg #[.bool true, v1, v2, v3]] w fun e w' => e = .returned (.bool (goodN true I K D)) ∧ Below w.heap.size w w' := by
  obtain ⟨p1, c1, rfl⟩ := h1.form
  obtain ⟨p2, c2, rfl⟩ := h2.form
  obtain ⟨p3, c3, rfl⟩ := h3.form
  have hr : goodN true I K D = (decide (K.length + D.length = 0) && decide (I.length ≤ 255) && !(I.any fun x => !goodI x) && risesB (I.map It.key)) := rfl
  rw [hr]; clear hr
  have H1 := Lib.hid h1
  clear h1 h2 h3
  by_cases a1 : K.length + D.length = 0
  · have b1 : (K.length : Int) + (D.length : Int) = 0 := by omega
    have d1 : K.length = 0 := by omega
    have d2 : D.length = 0 := by omega
    obtain rfl := List.eq_nil_of_length_eq_zero d1
    obtain rfl := List.eq_nil_of_length_eq_zero d2
    clear d1 d2 b1
    simp only [List.length_nil]
    by_cases a2 : I.length ≤ 255
    · have b2 : (I.length : Int) ≤ 255 := by omega
      have C1 := Lib.hid (fun W h => con_good1_all (.slice p1 I.length c1) I lI W h)
      have C2 := Lib.hid (fun W h => rise_items_all (.slice p1 I.length c1) I lI W h)
      generalize (I.any fun x => !goodI x) = g at C1 ⊢
      generalize risesB (I.map It.key) = r at C2 ⊢
      have hw0 := H1.out.below (below_a1 w (.cells #[.bool true, .slice p1 I.length c1, .slice p2 0 c2, .slice p3 0 c3] 73))
      have H2 := Lib.hid hw0
      clear hw0
      have bx := Lib.hid (blk_new w (.cells #[.bool true, .slice p1 I.length c1, .slice p2 0 c2, .slice p3 0 c3] 73))
      cases g with
      | true =>
        go_enter Tryd.func48, Tryd.ntmps48
        go_wp2_with fail
        refine (C1.out _ H2.out).mono ?_; rintro e w1 ⟨rfl, hb1⟩
        go_wp2_with fail
        go_ret
        exact ⟨ret_bool (by simp [a2]), bstep (below_a1 _ _) hb1⟩
      | false =>
        go_enter Tryd.func48, Tryd.ntmps48
        go_wp2_with fail
        refine (C1.out _ H2.out).mono ?_; rintro e w1 ⟨rfl, hb1⟩
        have bx1 := blk_cell (blk_below bx.out hb1)
        go_wp2_with fail
        refine (C2.out _ (H2.out.below hb1)).mono ?_; rintro e w2 ⟨rfl, hb2⟩
        go_wp2_with fail
        go_ret
        exact ⟨ret_bool (by simp [a2]), bstep (bstep (below_a1 _ _) hb1) hb2⟩
    · have b2 : ¬ (I.length : Int) ≤ 255 := by omega
      go_enter Tryd.func48, Tryd.ntmps48
      go_wp2_with fail
      go_ret
      exact ⟨ret_bool (by simp), below_a1 _ _⟩
  · have b1 : ¬ (K.length : Int) + (D.length : Int) = 0 := by omega
    have b3 : ((K.length : Int) + (D.length : Int) == 0) = false := by rw [beq_eq_false_iff_ne]; exact b1
    go_enter Tryd.func48, Tryd.ntmps48
    go_wp2_with fail
    go_ret
    exact ⟨ret_bool (by rw [decide_eq_false a1]; simp), below_a1 _ _⟩
end Go.Proofs.YtlpdanghcdajmaaDoor
