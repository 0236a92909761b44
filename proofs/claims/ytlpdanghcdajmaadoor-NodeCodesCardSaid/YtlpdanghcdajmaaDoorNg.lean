/- Nodes (layer 23): Good of an inner node; Good. -/
import Derived.Test.YtlpdanghcdajmaaDoorNf
namespace Go.Proofs.YtlpdanghcdajmaaDoor
open Go.RowKit
set_option maxHeartbeats 2000000 in
theorem node_Good_inner (v1 v2 v3 : Value) (I : List It) (K D : List Int) (lK : K.length < 4294967296) (lD : D.length < 4294967296) (w : World) (h1 : SlItems w v1 I) (h2 : SlInts .u32 w v2 K) (h3 : SlInts .i64 w v3 D) :
    Calls Tryd.prog 48 #[.agg #[.bool false, v1, v2, v3]] w fun e w' => e = .returned (.bool (goodN false I K D)) ∧ Below w.heap.size w w' := by
  obtain ⟨p1, c1, rfl⟩ := h1.form
  obtain ⟨p2, c2, rfl⟩ := h2.form
  obtain ⟨p3, c3, rfl⟩ := h3.form
  have hr : goodN false I K D = (decide (I.length = 0) && decide (1 ≤ K.length) && decide (K.length ≤ 255) && decide (D.length = K.length + 1) && !(D.any fun x => !pageB x) && risesB K) := rfl
  rw [hr]; clear hr
  have H2 := Lib.hid h2
  have H3 := Lib.hid h3
  clear h1 h2 h3
  have C1 := Lib.hid (fun W h => con_good3_all (.slice p3 D.length c3) D lD W h)
  have C2 := Lib.hid (fun W h => rise_keys_all (.slice p2 K.length c2) K lK W h)
  generalize (D.any fun x => !pageB x) = g at C1 ⊢
  generalize risesB K = r at C2 ⊢
  obtain ⟨w0, hw0⟩ : ∃ w0, w0 = w.alloc (.cells #[.bool false, .slice p1 I.length c1, .slice p2 K.length c2, .slice p3 D.length c3] 73) := ⟨_, rfl⟩
  have J2 : Hid (SlInts .u32 w0 (.slice p2 K.length c2) K) := by show SlInts _ _ _ _; rw [hw0]; exact H2.out.below (below_a1 _ _)
  have J3 : Hid (SlInts .i64 w0 (.slice p3 D.length c3) D) := by show SlInts _ _ _ _; rw [hw0]; exact H3.out.below (below_a1 _ _)
  have bx : Hid (w0.heap[w.heap.size]? = some (.cells #[.bool false, .slice p1 I.length c1, .slice p2 K.length c2, .slice p3 D.length c3] 73 (0, 0))) := by show _ = _; rw [hw0]; exact blk_new _ _
  have Hw0 := Lib.hid hw0
  clear hw0
  by_cases a1 : I.length = 0
  rotate_left
  · have x1 : ¬ (I.length : Int) = 0 := by omega
    have x2 : ((I.length : Int) == 0) = false := by rw [beq_eq_false_iff_ne]; exact x1
    go_enter Tryd.func48, Tryd.ntmps48
    go_wp2_with fail
    go_ret
    exact ⟨ret_bool (by first | (rw [decide_eq_false a1]; simp; done) | (rw [decide_eq_false a1]; rfl) | simp), below_a1 _ _⟩
  by_cases a2 : 1 ≤ K.length
  rotate_left
  · have x0 : (I.length : Int) = 0 := by omega
    have x1 : ¬ (1 : Int) ≤ (K.length : Int) := by omega
    go_enter Tryd.func48, Tryd.ntmps48
    go_wp2_with fail
    go_ret
    exact ⟨ret_bool (by first | (rw [decide_eq_false a2]; simp; done) | (rw [decide_eq_false a2]; rfl) | simp), below_a1 _ _⟩
  by_cases a3 : K.length ≤ 255
  rotate_left
  · have x0 : (I.length : Int) = 0 := by omega
    have x1 : (1 : Int) ≤ (K.length : Int) := by omega
    have x2 : ¬ (K.length : Int) ≤ 255 := by omega
    go_enter Tryd.func48, Tryd.ntmps48
    go_wp2_with fail
    go_ret
    exact ⟨ret_bool (by first | (rw [decide_eq_false a3]; simp; done) | (rw [decide_eq_false a3]; rfl) | simp), below_a1 _ _⟩
  by_cases a4 : D.length = K.length + 1
  rotate_left
  · have x0 : (I.length : Int) = 0 := by omega
    have x1 : (1 : Int) ≤ (K.length : Int) := by omega
    have x2 : (K.length : Int) ≤ 255 := by omega
    have x3 : ¬ (D.length : Int) = (K.length : Int) + 1 := by omega
    have x4 : ((D.length : Int) == (K.length : Int) + 1) = false := by rw [beq_eq_false_iff_ne]; exact x3
    go_enter Tryd.func48, Tryd.ntmps48
    go_wp2_with fail
    go_ret
    exact ⟨ret_bool (by first | (rw [decide_eq_false a4]; simp; done) | (rw [decide_eq_false a4]; rfl) | simp), below_a1 _ _⟩
  have x0 : ((I.length : Int) == 0) = true := by rw [beq_iff_eq]; omega
  have x1 : (1 : Int) ≤ (K.length : Int) := by omega
  have x2 : (K.length : Int) ≤ 255 := by omega
  have x4 : ((D.length : Int) == (K.length : Int) + 1) = true := by rw [beq_iff_eq]; omega
  have hq : (decide (I.length = 0) && decide (1 ≤ K.length) && decide (K.length ≤ 255) && decide (D.length = K.length + 1) && !g && r) = (!g && r) := by simp [a1, a2, a3, a4]
  rw [hq]
  clear hq a1 a2 a3 a4
  cases g with
  | true =>
    go_enter Tryd.func48, Tryd.ntmps48
    go_wp2_with fail
    rw [← Hw0.out]
    refine (C1.out _ J3.out).mono ?_; rintro e w1 ⟨rfl, hb1⟩
    have hB := Hw0.out ▸ hb1
    go_wp2_with fail
    go_ret
    exact ⟨rfl, bstep (below_a1 _ _) hB⟩
  | false =>
    go_enter Tryd.func48, Tryd.ntmps48
    go_wp2_with fail
    rw [← Hw0.out]
    refine (C1.out _ J3.out).mono ?_; rintro e w1 ⟨rfl, hb1⟩
    have bx1 := blk_cell (blk_below bx.out hb1)
    go_wp2_with fail
    refine (C2.out _ (J2.out.below hb1)).mono ?_; rintro e w2 ⟨rfl, hb2⟩
    have hB := Hw0.out ▸ hb1
    go_wp2_with fail
    go_ret
    exact ⟨rfl, bstep (bstep (below_a1 _ _) hB) hb2⟩
end Go.Proofs.YtlpdanghcdajmaaDoor
