/- Layer 23: NodeFinds. -/
import Derived.Test.YtlpdanghcdajmaaDoorOf
import Derived.Test.YtlpdanghcdajmaaDoorOb
import Derived.Test.YtlpdanghcdajmaaDoorNzf
namespace Go.Proofs.YtlpdanghcdajmaaDoor
open Go.RowKit
theorem NdIn.below {w w' : World} {v1 v2 v3 : Value} {n : Nd} (h : NdIn w v1 v2 v3 n) (hb : Below w.heap.size w w') : NdIn w' v1 v2 v3 n := ⟨h.I.below hb, h.K.below hb, h.D.below hb, h.lI, h.lK, h.lD, h.typed⟩
theorem NdIn.at {w : World} {v1 v2 v3 : Value} {n : Nd} (h : NdIn w v1 v2 v3 n) (h1 : n.I.length ≤ 300) (h2 : n.K.length ≤ 300) (h3 : n.D.length ≤ 300) : NdAt w v1 v2 v3 n := ⟨h.I, h.K, h.D, by omega, by omega, by omega⟩
theorem NdIn.form {w : World} {v1 v2 v3 : Value} {n : Nd} (h : NdIn w v1 v2 v3 n) : ∃ p1 c1 p2 c2 p3 c3, v1 = .slice p1 n.I.length c1 ∧ v2 = .slice p2 n.K.length c2 ∧ v3 = .slice p3 n.D.length c3 := by
  obtain ⟨p1, c1, e1⟩ := h.I.form
  obtain ⟨p2, c2, e2⟩ := h.K.form
  obtain ⟨p3, c3, e3⟩ := h.D.form
  exact ⟨p1, c1, p2, c2, p3, c3, e1, e2, e3⟩
set_option maxRecDepth 100000 in
set_option maxHeartbeats 4000000 in
theorem law23_NodeFinds (n : Nd) (v1 v2 v3 : Value) (key : Int) (_k0 : 0 ≤ key) (_k1 : key < 4294967296) (w : World) (h : NdIn w v1 v2 v3 n) (he : EtIs w) :
    Calls Tryd.prog 14 #[.agg #[.bool n.lf, v1, v2, v3], .int .u32 key] w fun e w' => e = .returned (.bool true) ∧ Below w.heap.size w w' := by
  obtain ⟨p1, d1, p2, d2, p3, d3, rfl, rfl, rfl⟩ := h.form
  obtain ⟨w0, hw0⟩ : ∃ w0, w0 = w.alloc (.cells #[.bool n.lf, .slice p1 n.I.length d1, .slice p2 n.K.length d2, .slice p3 n.D.length d3] 73) := ⟨_, rfl⟩
  have B0 : Hid (Below w.heap.size w w0) := by show Below _ _ _; rw [hw0]; exact below_a1 _ _
  have H0 : Hid (NdIn w0 (.slice p1 n.I.length d1) (.slice p2 n.K.length d2) (.slice p3 n.D.length d3) n) := by show NdIn _ _ _ _ _; exact h.below B0.out
  have bx : Hid (w0.heap[w.heap.size]? = some (.cells #[.bool n.lf, .slice p1 n.I.length d1, .slice p2 n.K.length d2, .slice p3 n.D.length d3] 73 (0, 0))) := by show _ = _; rw [hw0]; exact blk_new _ _
  have HE := Lib.hid (he.below B0.out)
  clear h he
  go_enter Tryd.func14, Tryd.ntmps14
  have hc := blk_cell bx.out
  go_upto_region 1 with (fail)
  try rw [← hw0]
  clear hw0
  go_wp2_with fail
  refine (law23_fair n _ _ _ _ H0.out).mono ?_; rintro e w1 ⟨⟨c, rfl, hf⟩, hb1⟩
  have B1 := Lib.hid (bstep B0.out hb1)
  have E1 := Lib.hid (HE.out.below hb1)
  have bx1 := Lib.hid (blk_below bx.out hb1)
  have N1 := Lib.hid (H0.out.below hb1)
  clear hc hb1
  cases c with
  | false =>
    go_wp2_with fail
    refine (wakes23 _ E1.out).mono ?_; rintro e w2 ⟨rfl, hb2⟩
    have B2 := Lib.hid (bstep B1.out hb2)
    go_wp2_with fail
    go_ret
    exact ⟨rfl, B2.out⟩
  | true =>
    obtain ⟨l1, l2, l3⟩ := hf rfl
    have A1 := Lib.hid (N1.out.at l1 l2 l3)
    have hc1 := blk_cell bx1.out
    clear hf
    go_wp2_with fail
    refine (node_Find n key _ _ _ _ A1.out).mono ?_; rintro e w2 ⟨rfl, hb2⟩
    have B2 := Lib.hid (bstep B1.out hb2)
    have E2 := Lib.hid (E1.out.below hb2)
    have A2 := Lib.hid (A1.out.below hb2)
    have hc2 := blk_cell (blk_below bx1.out hb2)
    clear hb2 hc1
    go_wp2_with fail
    refine (law23_Own n _ _ _ _ A2.out (by omega) (by omega) (by omega)).mono ?_; rintro e w3 ⟨u1, u2, u3, rfl, hn3, hb3⟩
    have B3 := Lib.hid (bstep B2.out hb3)
    have E3 := Lib.hid (E2.out.below hb3)
    have A3 := Lib.hid hn3
    clear hb3 hc2 hn3
    go_wp2_with fail
    refine (ref_Find n key _ _ _ _ A3.out).mono ?_; rintro e w4 ⟨rfl, hb4⟩
    have B4 := Lib.hid (bstep B3.out hb4)
    have E4 := Lib.hid (E3.out.below hb4)
    obtain ⟨w5, hw5⟩ : ∃ w5, w5 = w4.alloc (.cells #[.int .i64 (n.find key).1, .bool (n.find key).2] 93) := ⟨_, rfl⟩
    have B5 : Hid (Below w.heap.size w w5) := by show Below _ _ _; rw [hw5]; exact B4.out.alloc B4.out.size _
    have E5 : Hid (EtIs w5) := by show EtIs _; rw [hw5]; exact E4.out.alloc _
    have hq5 : w5.heap[w4.heap.size]? = some (.cells #[.int .i64 (n.find key).1, .bool (n.find key).2] 93 (0, 0)) := by rw [hw5]; exact blk_new _ _
    have hc5 := blk_cell hq5
    clear hb4 hq5
    go_upto_region 5 with (fail)
    try rw [← hw5]
    clear hw5
    go_wp2_with fail
    refine (wakes23 _ E5.out).mono ?_; rintro e w6 ⟨rfl, hb6⟩
    have B6 := Lib.hid (bstep B5.out hb6)
    go_wp2_with fail
    go_ret
    exact ⟨rfl, B6.out⟩
end Go.Proofs.YtlpdanghcdajmaaDoor
