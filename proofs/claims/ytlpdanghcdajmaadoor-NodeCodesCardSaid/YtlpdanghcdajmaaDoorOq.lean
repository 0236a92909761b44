/- Layer 23: NodeCodes. -/
import Derived.Test.YtlpdanghcdajmaaDoorOf
import Derived.Test.YtlpdanghcdajmaaDoorOb
import Derived.Test.YtlpdanghcdajmaaDoorOd
import Derived.Test.YtlpdanghcdajmaaDoorOh
import Derived.Test.YtlpdanghcdajmaaDoorNzf
import Derived.Test.YtlpdanghcdajmaaDoorOo
import Derived.Deep.RegionHeld3
namespace Go.Proofs.YtlpdanghcdajmaaDoor
open Go.RowKit
theorem decN_len (b : ByteArray) : (decN b).1.I.length ≤ 300 ∧ (decN b).1.K.length ≤ 300 ∧ (decN b).1.D.length ≤ 300 := by
  cases h : decOk b with
  | false => rw [decN_no' h]; exact ⟨by decide, by decide, by decide⟩
  | true =>
    rw [decN_yes' h]
    have g := (enc_decN h).2.2.1
    generalize (rdN b).1 = x at g ⊢
    obtain ⟨lf, I, K, D⟩ := x
    cases lf with
    | true => obtain ⟨rfl, rfl, h1, _⟩ := good_leaf (I := I) (K := K) (D := D) g; exact ⟨by show I.length ≤ 300; omega, Nat.zero_le _, Nat.zero_le _⟩
    | false => obtain ⟨rfl, h0, h1, h2, _⟩ := good_inner (I := I) (K := K) (D := D) g; exact ⟨Nat.zero_le _, by show K.length ≤ 300; omega, by show D.length ≤ 300; omega⟩
set_option maxRecDepth 100000 in
set_option maxHeartbeats 8000000 in
theorem law23_NodeCodes (n : Nd) (v1 v2 v3 : Value) (b : ByteArray) (_hb0 : b.size ≤ 140737488351232) (w : World) (h : NdIn w v1 v2 v3 n) (he : EtIs w) :
    Calls Tryd.prog 13 #[.agg #[.bool n.lf, v1, v2, v3], .string b] w fun e w' => e = .returned (.bool true) ∧ Below w.heap.size w w' := by
  obtain ⟨p1, d1, p2, d2, p3, d3, rfl, rfl, rfl⟩ := h.form
  have hT := Lib.hid h.typed
  obtain ⟨w0, hw0⟩ : ∃ w0, w0 = w.alloc (.cells #[.bool n.lf, .slice p1 n.I.length d1, .slice p2 n.K.length d2, .slice p3 n.D.length d3] 73) := ⟨_, rfl⟩
  have B0 : Hid (Below w.heap.size w w0) := by show Below _ _ _; rw [hw0]; exact below_a1 _ _
  have H0 : Hid (NdIn w0 (.slice p1 n.I.length d1) (.slice p2 n.K.length d2) (.slice p3 n.D.length d3) n) := by show NdIn _ _ _ _ _; exact h.below B0.out
  have bx : Hid (w0.heap[w.heap.size]? = some (.cells #[.bool n.lf, .slice p1 n.I.length d1, .slice p2 n.K.length d2, .slice p3 n.D.length d3] 73 (0, 0))) := by show _ = _; rw [hw0]; exact blk_new _ _
  have HE := Lib.hid (he.below B0.out)
  clear h he
  go_enter Tryd.func13, Tryd.ntmps13
  have hc := blk_cell bx.out
  go_upto_region 1 with (fail)
  try rw [← hw0]
  clear hw0
  go_wp2_with fail
  refine (law23_fair n _ _ _ _ H0.out).mono ?_; rintro e w1 ⟨⟨c, rfl, hf⟩, hb1⟩
  have B1 := Lib.hid (bstep B0.out hb1)
  have E1 := Lib.hid (HE.out.below hb1)
  have bx1 := Lib.hid (blk_below bx.out hb1)
  have N1 := Lib.hid (H0.out.below hb1)
  clear hc hb1
  cases c with
  | false =>
    go_wp2_with fail
    refine (wakes23 _ E1.out).mono ?_; rintro e w2 ⟨rfl, hb2⟩
    have B2 := Lib.hid (bstep B1.out hb2)
    go_wp2_with fail
    go_ret
    exact ⟨rfl, B2.out⟩
  | true =>
  obtain ⟨l1, l2, l3⟩ := hf rfl
  have A1 := Lib.hid (N1.out.at l1 l2 l3)
  clear hf
  by_cases hbs : 3000 < b.size
  · have hbi : (3000 : Int) < (b.size : Int) := by omega
    go_wp2_with fail
    refine (wakes23 _ E1.out).mono ?_; rintro e w2 ⟨rfl, hb2⟩
    have B2 := Lib.hid (bstep B1.out hb2)
    go_wp2_with fail
    go_ret
    exact ⟨rfl, B2.out⟩
  have hbi : ¬ (3000 : Int) < (b.size : Int) := by omega
  have hc1 := blk_cell bx1.out
  obtain ⟨S, hS⟩ : ∃ S, S = n.enc.1 := ⟨_, rfl⟩
  obtain ⟨ec, hec⟩ : ∃ ec, ec = n.enc.2 := ⟨_, rfl⟩
  obtain ⟨m, hm⟩ : ∃ m, m = (decN b).1 := ⟨_, rfl⟩
  obtain ⟨g, hg⟩ : ∃ g, g = (decN b).2 := ⟨_, rfl⟩
  have hml := decN_len b
  have EC0 := fun W h1 h2 => node_Encode n (.slice p1 n.I.length d1) (.slice p2 n.K.length d2) (.slice p3 n.D.length d3) W h1 hT.out h2
  have RC0 := fun v1 v2 v3 W h1 => ref_Encode n v1 v2 v3 W h1 hT.out
  have DB0 := node_Decode b (by omega)
  have RB0 := ref_Decode b
  rw [← hm] at hml
  simp only [← hS, ← hec] at EC0 RC0
  simp only [← hm, ← hg] at DB0 RB0
  have EC := Lib.hid EC0
  have RC := Lib.hid RC0
  have DB := Lib.hid DB0
  have RB := Lib.hid RB0
  clear hS hec hm hg EC0 RC0 DB0 RB0
  obtain ⟨k1, k2, k3⟩ := hml
  have O2 := Lib.hid (fun W h => law23_Own n (.slice p1 n.I.length d1) (.slice p2 n.K.length d2) (.slice p3 n.D.length d3) W h (by omega) (by omega) (by omega))
  go_wp2_with fail
  refine (O2.out _ A1.out).mono ?_; rintro e w2 ⟨z1, z2, z3, rfl, hq, hb2⟩
  obtain ⟨q1, e1, q2, e2, q3, e3, rfl, rfl, rfl⟩ := hq.form
  have B2 := Lib.hid (bstep B1.out hb2)
  have E2 := Lib.hid (E1.out.below hb2)
  have A2 := Lib.hid (A1.out.below hb2)
  have bx2 := Lib.hid (blk_below bx1.out hb2)
  obtain ⟨w3, hw3⟩ : ∃ w3, w3 = w2.alloc (.cells #[.bool n.lf, .slice q1 n.I.length e1, .slice q2 n.K.length e2, .slice q3 n.D.length e3] 77) := ⟨_, rfl⟩
  have T3 : Hid (Below w2.heap.size w2 w3) := by show Below _ _ _; rw [hw3]; exact below_a1 _ _
  have B3 := Lib.hid (bstep B2.out T3.out)
  have E3 := Lib.hid (E2.out.below T3.out)
  have A3 := Lib.hid (A2.out.below T3.out)
  have Q3 := Lib.hid (hq.below T3.out)
  have bx3 := Lib.hid (blk_below bx2.out T3.out)
  have bq3 : Hid (w3.heap[w2.heap.size]? = some (.cells #[.bool n.lf, .slice q1 n.I.length e1, .slice q2 n.K.length e2, .slice q3 n.D.length e3] 77 (0, 0))) := by show _ = _; rw [hw3]; exact blk_new _ _
  clear hb2 hq hc1 T3
  have hc3 := blk_cell bx3.out
  have hq3 := blk_cell bq3.out
  go_upto_region 4 with (fail)
  try rw [← hw3]
  clear hw3
  go_wp2_with fail
  refine (EC.out _ A3.out E3.out).mono ?_; rintro e w4 ⟨rfl, hb4⟩
  have B4 := Lib.hid (bstep B3.out hb4)
  have E4 := Lib.hid (E3.out.below hb4)
  have A4 := Lib.hid (A3.out.below hb4)
  have Q4 := Lib.hid (Q3.out.below hb4)
  have bx4 := Lib.hid (blk_below bx3.out hb4)
  have bq4 := Lib.hid (blk_below bq3.out hb4)
  clear hb4 hc3 hq3
  have hc4 := blk_cell bx4.out
  have hq4 := blk_cell bq4.out
  go_wp2_with fail
  refine (RC.out _ _ _ _ Q4.out).mono ?_; rintro e w5 ⟨rfl, hb5⟩
  have B5 := Lib.hid (bstep B4.out hb5)
  have E5 := Lib.hid (E4.out.below hb5)
  have A5 := Lib.hid (A4.out.below hb5)
  have Q5 := Lib.hid (Q4.out.below hb5)
  have bx5 := Lib.hid (blk_below bx4.out hb5)
  have bq5 := Lib.hid (blk_below bq4.out hb5)
  clear hb5 hc4 hq4
  go_wp2_with fail
  refine (DB.out _ E5.out).mono ?_; rintro e w6 ⟨z1, z2, z3, rfl, hx, hb6⟩
  obtain ⟨a1, c1, a2, c2, a3, c3, rfl, rfl, rfl⟩ := hx.form
  have B6 := Lib.hid (bstep B5.out hb6)
  have E6 := Lib.hid (E5.out.below hb6)
  have A6 := Lib.hid (A5.out.below hb6)
  have Q6 := Lib.hid (Q5.out.below hb6)
  have bx6 := Lib.hid (blk_below bx5.out hb6)
  have bq6 := Lib.hid (blk_below bq5.out hb6)
  obtain ⟨w7, hw7⟩ : ∃ w7, w7 = w6.alloc (.cells #[.bool m.lf, .slice a1 m.I.length c1, .slice a2 m.K.length c2, .slice a3 m.D.length c3] 73) := ⟨_, rfl⟩
  have T7 : Hid (Below w6.heap.size w6 w7) := by show Below _ _ _; rw [hw7]; exact below_a1 _ _
  have B7 := Lib.hid (bstep B6.out T7.out)
  have E7 := Lib.hid (E6.out.below T7.out)
  have A7 := Lib.hid (A6.out.below T7.out)
  have Q7 := Lib.hid (Q6.out.below T7.out)
  have X7 := Lib.hid (hx.below T7.out)
  have bx7 := Lib.hid (blk_below bx6.out T7.out)
  have bq7 := Lib.hid (blk_below bq6.out T7.out)
  have bm7 : Hid (w7.heap[w6.heap.size]? = some (.cells #[.bool m.lf, .slice a1 m.I.length c1, .slice a2 m.K.length c2, .slice a3 m.D.length c3] 73 (0, 0))) := by show _ = _; rw [hw7]; exact blk_new _ _
  clear hb6 hx T7
  go_upto_region 7 with (fail)
  try rw [← hw7]
  clear hw7
  go_wp2_with fail
  refine (RB.out _).mono ?_; rintro e w8 ⟨z1, z2, z3, rfl, hy, hb8⟩
  obtain ⟨o1, r1, o2, r2, o3, r3, rfl, rfl, rfl⟩ := hy.form
  have B8 := Lib.hid (bstep B7.out hb8)
  have E8 := Lib.hid (E7.out.below hb8)
  have A8 := Lib.hid (A7.out.below hb8)
  have Q8 := Lib.hid (Q7.out.below hb8)
  have X8 := Lib.hid (X7.out.below hb8)
  have bx8 := Lib.hid (blk_below bx7.out hb8)
  have bq8 := Lib.hid (blk_below bq7.out hb8)
  have bm8 := Lib.hid (blk_below bm7.out hb8)
  obtain ⟨w9, hw9⟩ : ∃ w9, w9 = w8.alloc (.cells #[.bool m.lf, .slice o1 m.I.length r1, .slice o2 m.K.length r2, .slice o3 m.D.length r3] 77) := ⟨_, rfl⟩
  have T9 : Hid (Below w8.heap.size w8 w9) := by show Below _ _ _; rw [hw9]; exact below_a1 _ _
  have B9 := Lib.hid (bstep B8.out T9.out)
  have E9 := Lib.hid (E8.out.below T9.out)
  have A9 := Lib.hid (A8.out.below T9.out)
  have Q9 := Lib.hid (Q8.out.below T9.out)
  have X9 := Lib.hid (X8.out.below T9.out)
  have Y9 := Lib.hid (hy.below T9.out)
  have bx9 := Lib.hid (blk_below bx8.out T9.out)
  have bq9 := Lib.hid (blk_below bq8.out T9.out)
  have bm9 := Lib.hid (blk_below bm8.out T9.out)
  have by9 : Hid (w9.heap[w8.heap.size]? = some (.cells #[.bool m.lf, .slice o1 m.I.length r1, .slice o2 m.K.length r2, .slice o3 m.D.length r3] 77 (0, 0))) := by show _ = _; rw [hw9]; exact blk_new _ _
  clear hb8 hy T9
  go_upto_region 8 with (fail)
  try rw [← hw9]
  clear hw9
  have SOF : Hid (∀ X, Below w9.heap.size w9 X → (∀ o, X.cell? ⟨w.heap.size, o, none⟩ = (#[.bool n.lf, .slice p1 n.I.length d1, .slice p2 n.K.length d2, .slice p3 n.D.length d3] : Array Value)[o]?) ∧ (∀ o, X.cell? ⟨w2.heap.size, o, none⟩ = (#[.bool n.lf, .slice q1 n.I.length e1, .slice q2 n.K.length e2, .slice q3 n.D.length e3] : Array Value)[o]?) ∧ (∀ o, X.cell? ⟨w6.heap.size, o, none⟩ = (#[.bool m.lf, .slice a1 m.I.length c1, .slice a2 m.K.length c2, .slice a3 m.D.length c3] : Array Value)[o]?) ∧ (∀ o, X.cell? ⟨w8.heap.size, o, none⟩ = (#[.bool m.lf, .slice o1 m.I.length r1, .slice o2 m.K.length r2, .slice o3 m.D.length r3] : Array Value)[o]?)) := fun X hX => ⟨blk_cell (blk_below bx9.out hX), blk_cell (blk_below bq9.out hX), blk_cell (blk_below bm9.out hX), blk_cell (blk_below by9.out hX)⟩
  have O1 := Lib.hid (fun W h => law23_Own m (.slice a1 m.I.length c1) (.slice a2 m.K.length c2) (.slice a3 m.D.length c3) W h (by omega) (by omega) (by omega))
  have G1 := Lib.hid (fun W h => node_Good' n (.slice p1 n.I.length d1) (.slice p2 n.K.length d2) (.slice p3 n.D.length d3) W h)
  have G2 := Lib.hid (fun W h => ref_Good n (.slice q1 n.I.length e1) (.slice q2 n.K.length e2) (.slice q3 n.D.length e3) W h)
  have Z1 := Lib.hid (fun W h => node_Size n (.slice p1 n.I.length d1) (.slice p2 n.K.length d2) (.slice p3 n.D.length d3) W h)
  have Z2 := Lib.hid (fun W h => ref_Size n (.slice q1 n.I.length e1) (.slice q2 n.K.length e2) (.slice q3 n.D.length e3) W h hT.out)
  have S0 := SOF.out w9.drew ⟨rfl, rfl, rfl, Nat.le_refl _, fun _ _ => rfl⟩
  have D0 : Hid (Below w9.heap.size w9 w9.drew) := ⟨rfl, rfl, rfl, Nat.le_refl _, fun _ _ => rfl⟩
  obtain ⟨gv, hgv⟩ : ∃ gv, gv = n.good := ⟨_, rfl⟩
  obtain ⟨sv, hsv⟩ : ∃ sv, sv = n.size := ⟨_, rfl⟩
  simp only [← hgv] at G1 G2
  simp only [← hsv] at Z1 Z2
  clear hgv hsv k1 k2 k3 l1 l2 l3
  go_region_held3 (fun w' => (∀ o, w'.cell? ⟨w.heap.size, o, none⟩ = (#[.bool n.lf, .slice p1 n.I.length d1, .slice p2 n.K.length d2, .slice p3 n.D.length d3] : Array Value)[o]?) ∧ (∀ o, w'.cell? ⟨w2.heap.size, o, none⟩ = (#[.bool n.lf, .slice q1 n.I.length e1, .slice q2 n.K.length e2, .slice q3 n.D.length e3] : Array Value)[o]?) ∧ (∀ o, w'.cell? ⟨w6.heap.size, o, none⟩ = (#[.bool m.lf, .slice a1 m.I.length c1, .slice a2 m.K.length c2, .slice a3 m.D.length c3] : Array Value)[o]?) ∧ (∀ o, w'.cell? ⟨w8.heap.size, o, none⟩ = (#[.bool m.lf, .slice o1 m.I.length r1, .slice o2 m.K.length r2, .slice o3 m.D.length r3] : Array Value)[o]?)) (first | exact S0 | exact S1 | exact S2 | exact S3 | exact S4 | exact S5 | exact S6 | exact S7 | exact S8 | exact S9 | assumption)
      (first
        | (go_at_call 48; refine (G1.out _ (A9.out.below D0.out)).mono ?_; rintro e x1 ⟨rfl, hx1⟩; have D1 := Lib.hid (bstep D0.out hx1); have S1 := SOF.out _ D1.out; clear hx1)
        | (go_at_call 49; refine (G2.out _ (Q9.out.below D1.out)).mono ?_; rintro e x2 ⟨rfl, hx2⟩; have D2 := Lib.hid (bstep D1.out hx2); have S2 := SOF.out _ D2.out; clear hx2)
        | (go_at_call 50; refine (Z1.out _ (A9.out.below D2.out)).mono ?_; rintro e x3 ⟨rfl, hx3⟩; have D3 := Lib.hid (bstep D2.out hx3); have S3 := SOF.out _ D3.out; clear hx3)
        | (go_at_call 51; refine (Z2.out _ (Q9.out.below D3.out)).mono ?_; rintro e x4 ⟨rfl, hx4⟩; have D4 := Lib.hid (bstep D3.out hx4); have S4 := SOF.out _ D4.out; clear hx4)
        | (go_at_call_of 43 (Value.agg #[Value.bool m.lf, Value.slice a1 m.I.length c1, Value.slice a2 m.K.length c2, Value.slice a3 m.D.length c3]); refine (O1.out _ (X9.out.below D4.out)).mono ?_; rintro e x5 ⟨u1, u2, u3, rfl, hu, hx5⟩; have D5 := Lib.hid (bstep D4.out hx5); have S5 := SOF.out _ D5.out; have U5 := Lib.hid hu; clear hu hx5)
        | (go_at_call_of 52 (Value.agg #[Value.bool m.lf, u1, u2, u3]); refine (law23_Same m _ _ _ _ _ _ _ U5.out (Y9.out.below D5.out)).mono ?_; rintro e x6 ⟨rfl, hx6⟩; have D6 := Lib.hid (bstep D5.out hx6); have S6 := SOF.out _ D6.out; clear hx6)
        | (go_at_call_of 43 (Value.agg #[Value.bool n.lf, Value.slice p1 n.I.length d1, Value.slice p2 n.K.length d2, Value.slice p3 n.D.length d3]); refine (O2.out _ (A9.out.below D6.out)).mono ?_; rintro e x7 ⟨t1, t2, t3, rfl, ht, hx7⟩; have D7 := Lib.hid (bstep D6.out hx7); have S7 := SOF.out _ D7.out; have T7 := Lib.hid ht; clear ht hx7)
        | (go_at_call_of 52 (Value.agg #[Value.bool n.lf, t1, t2, t3]); refine (law23_Same n _ _ _ _ _ _ _ T7.out (Q9.out.below D7.out)).mono ?_; rintro e x8 ⟨rfl, hx8⟩; have D8 := Lib.hid (bstep D7.out hx8); have S8 := SOF.out _ D8.out; clear hx8)
        | (go_at_call 42; refine (wakes23 _ (E9.out.below D8.out)).mono ?_; rintro e x9 ⟨rfl, hx9⟩; have D9 := Lib.hid (bstep D8.out hx9); have S9 := SOF.out _ D9.out; clear hx9))
  go_wp2_with fail
  go_ret
  exact ⟨rfl, bstep B9.out D9.out⟩
end Go.Proofs.YtlpdanghcdajmaaDoor
