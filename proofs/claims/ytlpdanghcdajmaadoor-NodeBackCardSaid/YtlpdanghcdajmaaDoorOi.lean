/- Layer 23: NodeBack. -/
import Derived.Test.YtlpdanghcdajmaaDoorOg
import Derived.Test.YtlpdanghcdajmaaDoorOh
import Derived.Deep.RegionHeld3
namespace Go.Proofs.YtlpdanghcdajmaaDoor
open Go.RowKit
theorem decN_no {b : ByteArray} (h : decOk b = false) : decN b = (Nd.nil, 11) := by unfold decN; rw [if_neg (by simp [h])]
theorem decN_yes {b : ByteArray} (h : decOk b = true) : decN b = ((rdN b).1, 0) := by unfold decN; rw [if_pos h]
theorem enc_good {n : Nd} (ht : n.typed) (h : n.enc.2 = 0) : n.good = true ∧ n.size ≤ 236 ∧ n.enc = (n.bytes, 0) ∧ (n.bytes.size : Int) = n.size ∧ decN n.bytes = (n, 0) := by
  unfold Nd.enc at h ⊢
  by_cases hg : n.good = false
  · rw [if_pos hg] at h; exact absurd h (by decide)
  · have hg' : n.good = true := by cases hx : n.good with | true => rfl | false => exact absurd hx hg
    rw [if_neg hg] at h ⊢
    by_cases hs : 236 < n.size
    · rw [if_pos hs] at h; exact absurd h (by decide)
    · rw [if_neg hs]
      exact ⟨hg', by omega, rfl, (good_back ht hg').1, dec_encN ht hg' (by omega)⟩
set_option maxRecDepth 100000 in
set_option maxHeartbeats 8000000 in
theorem law23_NodeBack (n : Nd) (v1 v2 v3 : Value) (b : ByteArray) (_hb0 : b.size ≤ 140737488351232) (w : World) (h : NdIn w v1 v2 v3 n) (he : EtIs w) :
    Calls Tryd.prog 15 #[.agg #[.bool n.lf, v1, v2, v3], .string b] w fun e w' => e = .returned (.bool true) ∧ Below w.heap.size w w' := by
  obtain ⟨p1, d1, p2, d2, p3, d3, rfl, rfl, rfl⟩ := h.form
  have hT := Lib.hid h.typed
  obtain ⟨w0, hw0⟩ : ∃ w0, w0 = w.alloc (.cells #[.bool n.lf, .slice p1 n.I.length d1, .slice p2 n.K.length d2, .slice p3 n.D.length d3] 73) := ⟨_, rfl⟩
  have B0 : Hid (Below w.heap.size w w0) := by show Below _ _ _; rw [hw0]; exact below_a1 _ _
  have H0 : Hid (NdIn w0 (.slice p1 n.I.length d1) (.slice p2 n.K.length d2) (.slice p3 n.D.length d3) n) := by show NdIn _ _ _ _ _; exact h.below B0.out
  have bx : Hid (w0.heap[w.heap.size]? = some (.cells #[.bool n.lf, .slice p1 n.I.length d1, .slice p2 n.K.length d2, .slice p3 n.D.length d3] 73 (0, 0))) := by show _ = _; rw [hw0]; exact blk_new _ _
  have HE := Lib.hid (he.below B0.out)
  clear h he
  go_enter Tryd.func15, Tryd.ntmps15
  have hc := blk_cell bx.out
  go_upto_region 1 with (fail)
  try rw [← hw0]
  clear hw0
  go_wp2_with fail
  refine (law23_fair n _ _ _ _ H0.out).mono ?_; rintro e w1 ⟨⟨c, rfl, hf⟩, hb1⟩
  have B1 := Lib.hid (bstep B0.out hb1)
  have E1 := Lib.hid (HE.out.below hb1)
  have bx1 := Lib.hid (blk_below bx.out hb1)
  have N1 := Lib.hid (H0.out.below hb1)
  clear hc hb1
  cases c with
  | false =>
    go_wp2_with fail
    refine (wakes23 _ E1.out).mono ?_; rintro e w2 ⟨rfl, hb2⟩
    have B2 := Lib.hid (bstep B1.out hb2)
    go_wp2_with fail
    go_ret
    exact ⟨rfl, B2.out⟩
  | true =>
  obtain ⟨l1, l2, l3⟩ := hf rfl
  have A1 := Lib.hid (N1.out.at l1 l2 l3)
  clear hf
  by_cases hbs : 3000 < b.size
  · have hbi : (3000 : Int) < (b.size : Int) := by omega
    go_wp2_with fail
    refine (wakes23 _ E1.out).mono ?_; rintro e w2 ⟨rfl, hb2⟩
    have B2 := Lib.hid (bstep B1.out hb2)
    go_wp2_with fail
    go_ret
    exact ⟨rfl, B2.out⟩
  have hbi : ¬ (3000 : Int) < (b.size : Int) := by omega
  have hc1 := blk_cell bx1.out
  have EC := Lib.hid (fun W h1 h2 => node_Encode n (.slice p1 n.I.length d1) (.slice p2 n.K.length d2) (.slice p3 n.D.length d3) W h1 hT.out h2)
  have DB := Lib.hid (node_Decode b (by omega))
  by_cases hen : n.enc.2 = 0
  rotate_left
  · have hen1 : (n.enc.2 == 0) = false := by rw [beq_eq_false_iff_ne]; exact hen
    go_wp2_with fail
    refine (EC.out _ A1.out E1.out).mono ?_; rintro e w2 ⟨rfl, hb2⟩
    have B2 := Lib.hid (bstep B1.out hb2)
    have E2 := Lib.hid (E1.out.below hb2)
    clear hb2 hc1
    go_wp2_with fail
    refine (DB.out _ E2.out).mono ?_; rintro e y1 ⟨x1, x2, x3, rfl, hx, hby1⟩
    have YB1 := Lib.hid (bstep B2.out hby1)
    have YE1 := Lib.hid (E2.out.below hby1)
    obtain ⟨o1, r1, o2, r2, o3, r3, rfl, rfl, rfl⟩ := hx.form
    have HX := Lib.hid hx
    clear hby1 hx
    cases hok : decOk b with
    | false =>
      have hd := decN_no hok
      rw [hd] at HX ⊢
      clear hd hok
      simp only [Nd.nil, List.length_nil] at HX ⊢
      obtain ⟨y2, hy2⟩ : ∃ y2, y2 = y1.alloc (.cells #[.bool false, .slice o1 0 r1, .slice o2 0 r2, .slice o3 0 r3] 73) := ⟨_, rfl⟩
      have YB2 : Hid (Below w.heap.size w y2) := by show Below _ _ _; rw [hy2]; exact YB1.out.alloc YB1.out.size _
      have YE2 : Hid (EtIs y2) := by show EtIs _; rw [hy2]; exact YE1.out.alloc _
      have hq2 : y2.heap[y1.heap.size]? = some (.cells #[.bool false, .slice o1 0 r1, .slice o2 0 r2, .slice o3 0 r3] 73 (0, 0)) := by rw [hy2]; exact blk_new _ _
      have hcy := blk_cell hq2
      clear hq2
      go_upto_region 9 with (fail)
      try rw [← hy2]
      clear hy2
      go_wp2_with fail
      refine (wakes23 _ YE2.out).mono ?_; rintro e y3 ⟨rfl, hby3⟩
      have YB3 := Lib.hid (bstep YB2.out hby3)
      go_wp2_with fail
      go_ret
      exact ⟨rfl, YB3.out⟩
    | true =>
      have hd := decN_yes hok
      obtain ⟨m1, m2, m3, m4⟩ := enc_decN hok
      rw [hd] at HX ⊢
      clear hd hok m3 m4
      obtain ⟨m, hm⟩ : ∃ m, m = (rdN b).1 := ⟨_, rfl⟩
      simp only [← hm] at HX m1 m2 ⊢
      clear hm
      obtain ⟨y2, hy2⟩ : ∃ y2, y2 = y1.alloc (.cells #[.bool m.lf, .slice o1 m.I.length r1, .slice o2 m.K.length r2, .slice o3 m.D.length r3] 73) := ⟨_, rfl⟩
      have YB2 : Hid (Below w.heap.size w y2) := by show Below _ _ _; rw [hy2]; exact YB1.out.alloc YB1.out.size _
      have YE2 : Hid (EtIs y2) := by show EtIs _; rw [hy2]; exact YE1.out.alloc _
      have HX2 : Hid (NdAt y2 (.slice o1 m.I.length r1) (.slice o2 m.K.length r2) (.slice o3 m.D.length r3) m) := by show NdAt _ _ _ _ _; rw [hy2]; exact HX.out.below (below_a1 _ _)
      have hq2 : y2.heap[y1.heap.size]? = some (.cells #[.bool m.lf, .slice o1 m.I.length r1, .slice o2 m.K.length r2, .slice o3 m.D.length r3] 73 (0, 0)) := by rw [hy2]; exact blk_new _ _
      have hcy := blk_cell hq2
      have EM := Lib.hid (fun W h1 h2 => node_Encode m (.slice o1 m.I.length r1) (.slice o2 m.K.length r2) (.slice o3 m.D.length r3) W h1 m2 h2)
      rw [m1] at EM
      clear hq2 m1 m2
      go_upto_region 9 with (fail)
      try rw [← hy2]
      clear hy2
      go_wp2_with fail
      refine (EM.out _ HX2.out YE2.out).mono ?_; rintro e y3 ⟨rfl, hby3⟩
      have YB3 := Lib.hid (bstep YB2.out hby3)
      have YE3 := Lib.hid (YE2.out.below hby3)
      clear hby3 hcy
      go_wp2_with fail
      refine (wakes23 _ YE3.out).mono ?_; rintro e y4 ⟨rfl, hby4⟩
      have YB4 := Lib.hid (bstep YB3.out hby4)
      go_wp2_with fail
      go_ret
      exact ⟨rfl, YB4.out⟩
  obtain ⟨g1, g2, g3, g4, g5⟩ := enc_good hT.out hen
  rw [g3] at EC
  have DN := Lib.hid (node_Decode n.bytes (by omega))
  rw [g5] at DN
  have SZ := Lib.hid (fun W h => node_Size n (.slice p1 n.I.length d1) (.slice p2 n.K.length d2) (.slice p3 n.D.length d3) W h)
  have G4 := Lib.hid g4
  have hle : (n.bytes.size : Int) ≤ 236 := by omega
  clear hen g1 g2 g3 g4 g5
  go_wp2_with fail
  refine (EC.out _ A1.out E1.out).mono ?_; rintro e w2 ⟨rfl, hb2⟩
  have B2 := Lib.hid (bstep B1.out hb2)
  have E2 := Lib.hid (E1.out.below hb2)
  have A2 := Lib.hid (A1.out.below hb2)
  have bx2 := Lib.hid (blk_below bx1.out hb2)
  clear hb2 hc1
  go_wp2_with fail
  refine (DN.out _ E2.out).mono ?_; rintro e w3 ⟨z1, z2, z3, rfl, hx3, hb3⟩
  have B3 := Lib.hid (bstep B2.out hb3)
  have E3 := Lib.hid (E2.out.below hb3)
  have A3 := Lib.hid (A2.out.below hb3)
  have bx3 := Lib.hid (blk_below bx2.out hb3)
  obtain ⟨a1, c1, a2, c2, a3, c3, rfl, rfl, rfl⟩ := hx3.form
  obtain ⟨w4, hw4⟩ : ∃ w4, w4 = w3.alloc (.cells #[.bool n.lf, .slice a1 n.I.length c1, .slice a2 n.K.length c2, .slice a3 n.D.length c3] 73) := ⟨_, rfl⟩
  have B4 : Hid (Below w.heap.size w w4) := by show Below _ _ _; rw [hw4]; exact B3.out.alloc B3.out.size _
  have E4 : Hid (EtIs w4) := by show EtIs _; rw [hw4]; exact E3.out.alloc _
  have A4 : Hid (NdAt w4 (.slice p1 n.I.length d1) (.slice p2 n.K.length d2) (.slice p3 n.D.length d3) n) := by show NdAt _ _ _ _ _; rw [hw4]; exact A3.out.below (below_a1 _ _)
  have X4 : Hid (NdAt w4 (.slice a1 n.I.length c1) (.slice a2 n.K.length c2) (.slice a3 n.D.length c3) n) := by show NdAt _ _ _ _ _; rw [hw4]; exact hx3.below (below_a1 _ _)
  have bx4 : Hid (w4.heap[w.heap.size]? = some (.cells #[.bool n.lf, .slice p1 n.I.length d1, .slice p2 n.K.length d2, .slice p3 n.D.length d3] 73 (0, 0))) := by show _ = _; rw [hw4]; exact blk_alloc bx3.out
  have bq4 : Hid (w4.heap[w3.heap.size]? = some (.cells #[.bool n.lf, .slice a1 n.I.length c1, .slice a2 n.K.length c2, .slice a3 n.D.length c3] 73 (0, 0))) := by show _ = _; rw [hw4]; exact blk_new _ _
  clear hb3 hx3
  go_upto_region 6 with (fail)
  try rw [← hw4]
  clear hw4
  have SOF : Hid (∀ X, Below w4.heap.size w4 X → (∀ o, X.cell? ⟨w.heap.size, o, none⟩ = (#[.bool n.lf, .slice p1 n.I.length d1, .slice p2 n.K.length d2, .slice p3 n.D.length d3] : Array Value)[o]?) ∧ ∀ o, X.cell? ⟨w3.heap.size, o, none⟩ = (#[.bool n.lf, .slice a1 n.I.length c1, .slice a2 n.K.length c2, .slice a3 n.D.length c3] : Array Value)[o]?) := fun X hX => ⟨blk_cell (blk_below bx4.out hX), blk_cell (blk_below bq4.out hX)⟩
  have O1 := Lib.hid (fun W h => law23_Own n (.slice a1 n.I.length c1) (.slice a2 n.K.length c2) (.slice a3 n.D.length c3) W h (by omega) (by omega) (by omega))
  have O2 := Lib.hid (fun W h => law23_Own n (.slice p1 n.I.length d1) (.slice p2 n.K.length d2) (.slice p3 n.D.length d3) W h (by omega) (by omega) (by omega))
  have S0 := SOF.out w4.drew ⟨rfl, rfl, rfl, Nat.le_refl _, fun _ _ => rfl⟩
  have D4 : Hid (Below w4.heap.size w4 w4.drew) := ⟨rfl, rfl, rfl, Nat.le_refl _, fun _ _ => rfl⟩
  have e1 : ((n.bytes.size : Int) != n.size) = false := by rw [bne_eq_false_iff_eq]; exact G4.out
  have e2 : ((n.bytes.size : Int) == n.size) = true := by rw [beq_iff_eq]; exact G4.out
  go_wp2_with fail
  go_region_held3 (fun w' => (∀ o, w'.cell? ⟨w.heap.size, o, none⟩ = (#[.bool n.lf, .slice p1 n.I.length d1, .slice p2 n.K.length d2, .slice p3 n.D.length d3] : Array Value)[o]?) ∧ ∀ o, w'.cell? ⟨w3.heap.size, o, none⟩ = (#[.bool n.lf, .slice a1 n.I.length c1, .slice a2 n.K.length c2, .slice a3 n.D.length c3] : Array Value)[o]?) (first | exact S0 | exact S1 | exact S2 | exact S3 | exact S4 | assumption)
      (first
        | (go_at_call_of 43 (Value.agg #[Value.bool n.lf, Value.slice a1 n.I.length c1, Value.slice a2 n.K.length c2, Value.slice a3 n.D.length c3]); refine (O1.out _ (X4.out.below D4.out)).mono ?_; rintro e x1 ⟨u1, u2, u3, rfl, hu, hbx1⟩; have D5 := Lib.hid (bstep D4.out hbx1); have S1 := SOF.out _ D5.out; have U5 := Lib.hid hu; clear hu hbx1)
        | (go_at_call_of 43 (Value.agg #[Value.bool n.lf, Value.slice p1 n.I.length d1, Value.slice p2 n.K.length d2, Value.slice p3 n.D.length d3]); refine (O2.out _ (A4.out.below D5.out)).mono ?_; rintro e x2 ⟨t1, t2, t3, rfl, ht, hbx2⟩; have D6 := Lib.hid (bstep D5.out hbx2); have S2 := SOF.out _ D6.out; have U6 := Lib.hid (U5.out.below hbx2); have T6 := Lib.hid ht; clear ht hbx2)
        | (go_at_call 52; refine (law23_Same n _ _ _ _ _ _ _ U6.out T6.out).mono ?_; rintro e x3 ⟨rfl, hbx3⟩; have D7 := Lib.hid (bstep D6.out hbx3); have S3 := SOF.out _ D7.out; clear hbx3)
        | (go_at_call 50; refine (SZ.out _ (A4.out.below D7.out)).mono ?_; rintro e x4 ⟨rfl, hbx4⟩; have D8 := Lib.hid (bstep D7.out hbx4); have S4 := SOF.out _ D8.out; clear hbx4))
  have B8 := Lib.hid (bstep B4.out D8.out)
  have E8 := Lib.hid (E4.out.below D8.out)
  clear S0 S1 S2 S3 S4
  go_wp2_with fail
  refine (DB.out _ E8.out).mono ?_; rintro e y1 ⟨x1, x2, x3, rfl, hx, hby1⟩
  have YB1 := Lib.hid (bstep B8.out hby1)
  have YE1 := Lib.hid (E8.out.below hby1)
  obtain ⟨o1, r1, o2, r2, o3, r3, rfl, rfl, rfl⟩ := hx.form
  have HX := Lib.hid hx
  clear hby1 hx
  cases hok : decOk b with
  | false =>
    have hd := decN_no hok
    rw [hd] at HX ⊢
    clear hd hok
    simp only [Nd.nil, List.length_nil] at HX ⊢
    obtain ⟨y2, hy2⟩ : ∃ y2, y2 = y1.alloc (.cells #[.bool false, .slice o1 0 r1, .slice o2 0 r2, .slice o3 0 r3] 73) := ⟨_, rfl⟩
    have YB2 : Hid (Below w.heap.size w y2) := by show Below _ _ _; rw [hy2]; exact YB1.out.alloc YB1.out.size _
    have YE2 : Hid (EtIs y2) := by show EtIs _; rw [hy2]; exact YE1.out.alloc _
    have hq2 : y2.heap[y1.heap.size]? = some (.cells #[.bool false, .slice o1 0 r1, .slice o2 0 r2, .slice o3 0 r3] 73 (0, 0)) := by rw [hy2]; exact blk_new _ _
    have hcy := blk_cell hq2
    clear hq2
    go_upto_region 9 with (fail)
    try rw [← hy2]
    clear hy2
    go_wp2_with fail
    refine (wakes23 _ YE2.out).mono ?_; rintro e y3 ⟨rfl, hby3⟩
    have YB3 := Lib.hid (bstep YB2.out hby3)
    go_wp2_with fail
    go_ret
    exact ⟨rfl, YB3.out⟩
  | true =>
    have hd := decN_yes hok
    obtain ⟨m1, m2, m3, m4⟩ := enc_decN hok
    rw [hd] at HX ⊢
    clear hd hok m3 m4
    obtain ⟨m, hm⟩ : ∃ m, m = (rdN b).1 := ⟨_, rfl⟩
    simp only [← hm] at HX m1 m2 ⊢
    clear hm
    obtain ⟨y2, hy2⟩ : ∃ y2, y2 = y1.alloc (.cells #[.bool m.lf, .slice o1 m.I.length r1, .slice o2 m.K.length r2, .slice o3 m.D.length r3] 73) := ⟨_, rfl⟩
    have YB2 : Hid (Below w.heap.size w y2) := by show Below _ _ _; rw [hy2]; exact YB1.out.alloc YB1.out.size _
    have YE2 : Hid (EtIs y2) := by show EtIs _; rw [hy2]; exact YE1.out.alloc _
    have HX2 : Hid (NdAt y2 (.slice o1 m.I.length r1) (.slice o2 m.K.length r2) (.slice o3 m.D.length r3) m) := by show NdAt _ _ _ _ _; rw [hy2]; exact HX.out.below (below_a1 _ _)
    have hq2 : y2.heap[y1.heap.size]? = some (.cells #[.bool m.lf, .slice o1 m.I.length r1, .slice o2 m.K.length r2, .slice o3 m.D.length r3] 73 (0, 0)) := by rw [hy2]; exact blk_new _ _
    have hcy := blk_cell hq2
    have EM := Lib.hid (fun W h1 h2 => node_Encode m (.slice o1 m.I.length r1) (.slice o2 m.K.length r2) (.slice o3 m.D.length r3) W h1 m2 h2)
    rw [m1] at EM
    clear hq2 m1 m2
    go_upto_region 9 with (fail)
    try rw [← hy2]
    clear hy2
    go_wp2_with fail
    refine (EM.out _ HX2.out YE2.out).mono ?_; rintro e y3 ⟨rfl, hby3⟩
    have YB3 := Lib.hid (bstep YB2.out hby3)
    have YE3 := Lib.hid (YE2.out.below hby3)
    clear hby3 hcy
    go_wp2_with fail
    refine (wakes23 _ YE3.out).mono ?_; rintro e y4 ⟨rfl, hby4⟩
    have YB4 := Lib.hid (bstep YB3.out hby4)
    go_wp2_with fail
    go_ret
    exact ⟨rfl, YB4.out⟩
end Go.Proofs.YtlpdanghcdajmaaDoor
