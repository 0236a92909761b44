/- Nodes (layer 23): node.Decode. -/
import Derived.Test.YtlpdanghcdajmaaDoorNzc
import Derived.Test.YtlpdanghcdajmaaDoorNzd
import Derived.Deep.DeepCutAuto
import Derived.Deep.CutBlock
namespace Go.Proofs.YtlpdanghcdajmaaDoor
open Go.RowKit
theorem dec_p0 (w : World) (b : ByteArray) (he : EtIs w) : ∃ w0, (w.alloc (.cells #[.bool false, .slice none 0 0, .slice none 0 0, .slice none 0 0] 73)).alloc (.cells #[.string b, .int .i64 0, .nilIface] 135) = w0 ∧ w0.heap[w.heap.size]? = some (.cells #[.bool false, .slice none 0 0, .slice none 0 0, .slice none 0 0] 73 (0, 0)) ∧ IsRn w0 (w.heap.size + 1) b 0 false ∧ Below w.heap.size w w0 ∧ EtIs w0 ∧ w0.heap.size = w.heap.size + 2 :=
  ⟨_, rfl, blk_alloc (blk_new _ _), ⟨.nilIface, by have h := blk_new (w.alloc (.cells #[.bool false, .slice none 0 0, .slice none 0 0, .slice none 0 0] 73)) (.cells #[.string b, .int .i64 0, .nilIface] 135); simpa [RnE] using h, .inl ⟨rfl, rfl⟩⟩, (below_a1 _ _).alloc (by simp) _, (he.alloc _).alloc _, by simp⟩
theorem set4_below {B : Nat} {a w : World} (h : Below B a w) {p : Nat} (hp : B ≤ p) (v0 v1 v2 v3 : Value) : Below B a (set4 w p v0 v1 v2 v3) :=
  (((h.setCell (p := ⟨p, 0, none⟩) hp v0).setCell (p := ⟨p, 1, none⟩) hp v1).setCell (p := ⟨p, 2, none⟩) hp v2).setCell (p := ⟨p, 3, none⟩) hp v3
theorem ndNil (w : World) : NdAt w (.slice none 0 0) (.slice none 0 0) (.slice none 0 0) Nd.nil := ⟨.inl ⟨rfl, rfl⟩, .inl ⟨rfl, rfl⟩, .inl ⟨rfl, rfl⟩, by decide, by decide, by decide⟩
set_option maxRecDepth 100000 in
set_option maxHeartbeats 4000000 in
theorem node_Decode (b : ByteArray) (hb : b.size ≤ 140737488351232) (w : World) (he : EtIs w) :
    Calls Tryd.prog 46 #[.string b] w fun e w' => ∃ v1 v2 v3, e = .returned (.tuple #[.agg #[.bool (decN b).1.lf, v1, v2, v3], .int .i64 (decN b).2]) ∧ NdAt w' v1 v2 v3 (decN b).1 ∧ Below w.heap.size w w' := by
  have hlt := he.lt
  have hRN := Lib.hid (fun W => rn_node (w.heap.size + 1) b hb W)
  have hdec : decN b = if decOk b then ((rdN b).1, 0) else (Nd.nil, 11) := rfl
  have hok : decOk b = (!(rdN b).2.2 && decide ((rdN b).2.1 = b.size) && (rdN b).1.good && decide ((rdN b).1.size ≤ 236)) := rfl
  have hgood : (rdN b).2.2 = false → (rdN b).1.good = true → 2 ≤ (rdN b).1.size := fun h1 h2 => size_pos (rdN_ok h1 h2).1 h2
  have hbad : (rdN b).1.good = false → (rdN b).1.size = 0 := fun h => by unfold Nd.size; rw [if_neg (by simp [h])]
  obtain ⟨n, a, bad, hn⟩ : ∃ n a bad, rdN b = (n, a, bad) := ⟨_, _, _, rfl⟩
  rw [hn] at hRN hdec hok hgood hbad
  simp only at hdec hok hgood hbad
  have Hdec := Lib.hid hdec
  have hS := Lib.hid (fun W v1 v2 v3 h => node_Size n v1 v2 v3 W h)
  obtain ⟨z, hz⟩ : ∃ z, z = n.size := ⟨_, rfl⟩
  rw [← hz] at hok hgood hbad
  simp only [← hz] at hS
  have Hok := Lib.hid hok
  have Hgood := Lib.hid hgood
  have Hbad := Lib.hid hbad
  clear hdec hok hn hz hgood hbad
  go_enter Tryd.func46, Tryd.ntmps46
  go_wp2_with fail
  obtain ⟨w0, hw0, hr0, hp0, B0, he0, hsz0⟩ := dec_p0 w b he
  rw [hw0]; clear hw0
  refine (hRN.out _ he0 hp0 (by omega)).mono ?_; rintro e w1 ⟨v1, v2, v3, rfl, hN1, hp1, hf1, he1⟩
  have hr1 := Lib.hid (blk_fr hr0 hf1 (by omega))
  have B1 := Lib.hid (Below.fr B0 hf1 (by omega) B0.size)
  obtain ⟨p1, c1, p2, c2, p3, c3, rfl, rfl, rfl⟩ := hN1.at.form
  obtain ⟨q, hq⟩ : ∃ q, q = w1.heap.size := ⟨_, rfl⟩
  obtain ⟨w2, hw2⟩ : ∃ w2, w2 = w1.alloc (.cells #[.bool n.lf, .slice p1 n.I.length c1, .slice p2 n.K.length c2, .slice p3 n.D.length c3] 73) := ⟨_, rfl⟩
  have hpq : w.heap.size + 1 < q := by rw [hq]; exact hp1.lt
  have hq2 : Hid (w2.heap[q]? = some (.cells #[.bool n.lf, .slice p1 n.I.length c1, .slice p2 n.K.length c2, .slice p3 n.D.length c3] 73 (0, 0))) := by show _ = _; rw [hw2, hq]; exact blk_new _ _
  have hr2 : Hid (w2.heap[w.heap.size]? = some (.cells #[.bool false, .slice none 0 0, .slice none 0 0, .slice none 0 0] 73 (0, 0))) := by show _ = _; rw [hw2]; exact blk_alloc hr1.out
  have hp2 : Hid (IsRn w2 (w.heap.size + 1) b a bad) := by show IsRn _ _ _ _ _; rw [hw2]; exact hp1.alloc _
  have he2 : Hid (EtIs w2) := by show EtIs _; rw [hw2]; exact he1.alloc _
  have B2 : Hid (Below w.heap.size w w2) := by show Below _ _ _; rw [hw2]; exact B1.out.alloc (by omega) _
  have K2 : Hid (∀ k, k < w1.heap.size → w2.heap[k]? = w1.heap[k]?) := by show ∀ k, _; intro k hk; rw [hw2]; exact Below.heap_alloc _ _ _ hk
  have hz2 : w2.heap.size = q + 1 := by rw [hw2, hq]; simp
  have hN2 : Hid (NdAt w2 (.slice p1 n.I.length c1) (.slice p2 n.K.length c2) (.slice p3 n.D.length c3) n) := by show NdAt _ _ _ _ _; rw [hw2]; exact hN1.at.below (below_a1 _ _)
  have HN1 := Lib.hid hN1
  subst hq
  have hcq := blk_cell hq2.out
  clear hN1 hf1 he1 hp1 hr0 hp0 B0 he0
  go_wp2_with fail
  rw [← hw2]
  clear hw2
  go_wp2_with fail
  refine (hS.out _ _ _ _ hN2.out).mono ?_; rintro e w3 ⟨rfl, hb3⟩
  have B3 := Lib.hid (bstep B2.out hb3)
  have hr3 := Lib.hid (blk_below hr2.out hb3)
  have hq3 := Lib.hid (blk_below hq2.out hb3)
  have hp3 := hp2.out.below hb3
  have he3 := Lib.hid (he2.out.below hb3)
  obtain ⟨ev, hrd3, hev⟩ := hp3
  have HR3 := Lib.hid hrd3
  have hc3 := blk_cell hrd3
  have hf3 := blk_frozen hrd3
  have hpl3 := blk_lt hrd3
  have hz3 : w1.heap.size + 1 ≤ w3.heap.size := by have := hb3.size; omega
  clear hcq hrd3
  rcases hev with ⟨rfl, rfl⟩ | ⟨rfl, o, rfl⟩
  rotate_left
  · -- the reader was bad
    have hno : Hid (decN b = (Nd.nil, 11)) := by show _ = _; rw [Hdec.out, Hok.out]; simp
    have hcr := blk_frozen hr3.out
    have hcs := blk_cell hr3.out
    have AS := Lib.hid (nwr_as_fresh ⟨o, 0, none⟩ w3 he3.out)
    go_wp2_with fail
    refine AS.out.mono ?_; rintro e w5 ⟨rfl, hb5, -⟩
    have B5 := Lib.hid (bstep B3.out hb5)
    have hr5 := blk_below hr3.out hb5
    have hc5 := blk_cell hr5
    have hf5 := blk_frozen hr5
    have br6 := set4_blk hr5 (.bool false) (.slice none 0 0) (.slice none 0 0) (.slice none 0 0)
    have B6 := set4_below B5.out (Nat.le_refl _) (.bool false) (.slice none 0 0) (.slice none 0 0) (.slice none 0 0)
    have s0 := blk_cell br6 0
    have s1 := blk_cell br6 1
    have s2 := blk_cell br6 2
    have s3 := blk_cell br6 3
    simp only [List.getElem?_toArray, List.getElem?_cons_zero, List.getElem?_cons_succ] at s0 s1 s2 s3
    have H6 := Lib.hid B6
    clear B6 br6 hr5 hb5 hcr hcs hc3 hf3
    unfold set4 at s0 s1 s2 s3 H6
    go_wp2_with fail
    exact bodyPost_ret (v := .tuple #[.agg #[.bool false, .slice none 0 0, .slice none 0 0, .slice none 0 0], .int .i64 11]) (by simp only [results, Tryd.results46]; simp [go_sem, s0, s1, s2, s3]) rfl (by rw [hno.out]; exact ⟨_, _, _, rfl, ndNil _, H6.out⟩)
  by_cases hat : a = (b.size : Int)
  rotate_left
  · -- not at its end
    have hno : Hid (decN b = (Nd.nil, 11)) := by show _ = _; rw [Hdec.out, Hok.out]; simp [hat]
    have hat1 : (a != (b.size : Int)) = true := by rw [bne_iff_ne]; exact hat
    have hat2 : (a == (b.size : Int)) = false := by rw [beq_eq_false_iff_ne]; exact hat
    have hcr := blk_frozen hr3.out
    have hcs := blk_cell hr3.out
    obtain ⟨w4, hw4⟩ : ∃ w4, w4 = (w3.setCell ⟨w.heap.size + 1, 2, none⟩ (.iface 137 (.pointer (some ⟨w3.heap.size, 0, none⟩)))).alloc (.cells #[.int .i64 a] 139) := ⟨_, rfl⟩
    have B4 : Hid (Below w.heap.size w w4) := by show Below _ _ _; rw [hw4]; exact (B3.out.setCell (p := ⟨w.heap.size + 1, 2, none⟩) (Nat.le_succ _) _).alloc (by simp [World.setCell]; omega) _
    have hr4 : Hid (w4.heap[w.heap.size]? = some (.cells #[.bool false, .slice none 0 0, .slice none 0 0, .slice none 0 0] 73 (0, 0))) := by show _ = _; rw [hw4]; exact blk_alloc (blk_set_far hr3.out (by simp) _)
    have he4 : Hid (EtIs w4) := by show EtIs _; rw [hw4]; exact (set_et he3.out (by omega)).alloc _
    have hev4 : w4.cell? ⟨w.heap.size + 1, 2, none⟩ = some (.iface 137 (.pointer (some ⟨w3.heap.size, 0, none⟩))) := by
      rw [hw4]
      have := blk_alloc (o := .cells #[.int .i64 a] 139) (blk_set HR3.out 2 (.iface 137 (.pointer (some ⟨w3.heap.size, 0, none⟩))))
      exact (blk_cell this) 2
    have hpl4 : w.heap.size + 1 < w4.heap.size := by rw [hw4]; simp [World.setCell]; omega
    have AS := Lib.hid (nwr_as_fresh ⟨w3.heap.size, 0, none⟩ w4 he4.out)
    go_upto_region 6 with (fail)
    rw [← hw4]
    clear hw4 hc3 hf3 hcr hcs
    go_wp2_with fail
    refine AS.out.mono ?_; rintro e w5 ⟨rfl, hb5, -⟩
    have B5 := Lib.hid (bstep B4.out hb5)
    have hr5 := blk_below hr4.out hb5
    have hc5 := blk_cell hr5
    have hf5 := blk_frozen hr5
    have br6 := set4_blk hr5 (.bool false) (.slice none 0 0) (.slice none 0 0) (.slice none 0 0)
    have B6 := set4_below B5.out (Nat.le_refl _) (.bool false) (.slice none 0 0) (.slice none 0 0) (.slice none 0 0)
    have s0 := blk_cell br6 0
    have s1 := blk_cell br6 1
    have s2 := blk_cell br6 2
    have s3 := blk_cell br6 3
    simp only [List.getElem?_toArray, List.getElem?_cons_zero, List.getElem?_cons_succ] at s0 s1 s2 s3
    have H6 := Lib.hid B6
    clear B6 br6 hr5 hb5 hev4
    unfold set4 at s0 s1 s2 s3 H6
    go_wp2_with fail
    exact bodyPost_ret (v := .tuple #[.agg #[.bool false, .slice none 0 0, .slice none 0 0, .slice none 0 0], .int .i64 11]) (by simp only [results, Tryd.results46]; simp [go_sem, s0, s1, s2, s3]) rfl (by rw [hno.out]; exact ⟨_, _, _, rfl, ndNil _, H6.out⟩)
  by_cases hz0 : z = 0
  · have hno : Hid (decN b = (Nd.nil, 11)) := by
      show _ = _
      have hg : n.good = false := by
        cases hg : n.good with
        | false => rfl
        | true => have := Hgood.out rfl hg; omega
      rw [Hdec.out, Hok.out]; simp [hg]
    have hat1 : (a != (b.size : Int)) = false := by rw [bne_eq_false_iff_eq]; exact hat
    have hz1 : (z == 0) = true := by rw [beq_iff_eq]; exact hz0
    have Hat := Lib.hid hat
    have Hz := Lib.hid hz0
    clear hat hz0
    have hcr := blk_frozen hr3.out
    have hcs := blk_cell hr3.out
    obtain ⟨w4, hw4⟩ : ∃ w4, w4 = (w3.setCell ⟨w.heap.size + 1, 2, none⟩ (.iface 137 (.pointer (some ⟨w3.heap.size, 0, none⟩)))).alloc (.cells #[.int .i64 a] 139) := ⟨_, rfl⟩
    have B4 : Hid (Below w.heap.size w w4) := by show Below _ _ _; rw [hw4]; exact (B3.out.setCell (p := ⟨w.heap.size + 1, 2, none⟩) (Nat.le_succ _) _).alloc (by simp [World.setCell]; omega) _
    have hr4 : Hid (w4.heap[w.heap.size]? = some (.cells #[.bool false, .slice none 0 0, .slice none 0 0, .slice none 0 0] 73 (0, 0))) := by show _ = _; rw [hw4]; exact blk_alloc (blk_set_far hr3.out (by simp) _)
    have he4 : Hid (EtIs w4) := by show EtIs _; rw [hw4]; exact (set_et he3.out (by omega)).alloc _
    have hev4 : w4.cell? ⟨w.heap.size + 1, 2, none⟩ = some (.iface 137 (.pointer (some ⟨w3.heap.size, 0, none⟩))) := by
      rw [hw4]
      have := blk_alloc (o := .cells #[.int .i64 a] 139) (blk_set HR3.out 2 (.iface 137 (.pointer (some ⟨w3.heap.size, 0, none⟩))))
      exact (blk_cell this) 2
    have hpl4 : w.heap.size + 1 < w4.heap.size := by rw [hw4]; simp [World.setCell]; omega
    have AS := Lib.hid (nwr_as_fresh ⟨w3.heap.size, 0, none⟩ w4 he4.out)
    go_upto_region 6 with (fail)
    rw [← hw4]
    clear hw4 hc3 hf3 hcr hcs
    go_wp2_with fail
    refine AS.out.mono ?_; rintro e w5 ⟨rfl, hb5, -⟩
    have B5 := Lib.hid (bstep B4.out hb5)
    have hr5 := blk_below hr4.out hb5
    have hc5 := blk_cell hr5
    have hf5 := blk_frozen hr5
    have br6 := set4_blk hr5 (.bool false) (.slice none 0 0) (.slice none 0 0) (.slice none 0 0)
    have B6 := set4_below B5.out (Nat.le_refl _) (.bool false) (.slice none 0 0) (.slice none 0 0) (.slice none 0 0)
    have s0 := blk_cell br6 0
    have s1 := blk_cell br6 1
    have s2 := blk_cell br6 2
    have s3 := blk_cell br6 3
    simp only [List.getElem?_toArray, List.getElem?_cons_zero, List.getElem?_cons_succ] at s0 s1 s2 s3
    have H6 := Lib.hid B6
    clear B6 br6 hr5 hb5 hev4
    unfold set4 at s0 s1 s2 s3 H6
    go_wp2_with fail
    exact bodyPost_ret (v := .tuple #[.agg #[.bool false, .slice none 0 0, .slice none 0 0, .slice none 0 0], .int .i64 11]) (by simp only [results, Tryd.results46]; simp [go_sem, s0, s1, s2, s3]) rfl (by rw [hno.out]; exact ⟨_, _, _, rfl, ndNil _, H6.out⟩)
  have hg : Hid (n.good = true) := by
    show _ = _
    cases hg : n.good with
    | true => rfl
    | false => exact absurd (Hbad.out hg) hz0
  have hat1 : (a != (b.size : Int)) = false := by rw [bne_eq_false_iff_eq]; exact hat
  have hz1 : (z == 0) = false := by rw [beq_eq_false_iff_ne]; exact hz0
  have Hat := Lib.hid hat
  clear hat
  by_cases hz2 : 236 < z
  · have hno : Hid (decN b = (Nd.nil, 11)) := by
      show _ = _
      have : ¬ z ≤ 236 := by omega
      rw [Hdec.out, Hok.out]; simp [this]
    have hcr := blk_frozen hr3.out
    have hcs := blk_cell hr3.out
    obtain ⟨w4, hw4⟩ : ∃ w4, w4 = (w3.setCell ⟨w.heap.size + 1, 2, none⟩ (.iface 137 (.pointer (some ⟨w3.heap.size, 0, none⟩)))).alloc (.cells #[.int .i64 a] 139) := ⟨_, rfl⟩
    have B4 : Hid (Below w.heap.size w w4) := by show Below _ _ _; rw [hw4]; exact (B3.out.setCell (p := ⟨w.heap.size + 1, 2, none⟩) (Nat.le_succ _) _).alloc (by simp [World.setCell]; omega) _
    have hr4 : Hid (w4.heap[w.heap.size]? = some (.cells #[.bool false, .slice none 0 0, .slice none 0 0, .slice none 0 0] 73 (0, 0))) := by show _ = _; rw [hw4]; exact blk_alloc (blk_set_far hr3.out (by simp) _)
    have he4 : Hid (EtIs w4) := by show EtIs _; rw [hw4]; exact (set_et he3.out (by omega)).alloc _
    have hev4 : w4.cell? ⟨w.heap.size + 1, 2, none⟩ = some (.iface 137 (.pointer (some ⟨w3.heap.size, 0, none⟩))) := by
      rw [hw4]
      have := blk_alloc (o := .cells #[.int .i64 a] 139) (blk_set HR3.out 2 (.iface 137 (.pointer (some ⟨w3.heap.size, 0, none⟩))))
      exact (blk_cell this) 2
    have hpl4 : w.heap.size + 1 < w4.heap.size := by rw [hw4]; simp [World.setCell]; omega
    have AS := Lib.hid (nwr_as_fresh ⟨w3.heap.size, 0, none⟩ w4 he4.out)
    go_upto_region 6 with (fail)
    rw [← hw4]
    clear hw4 hc3 hf3 hcr hcs
    go_wp2_with fail
    refine AS.out.mono ?_; rintro e w5 ⟨rfl, hb5, -⟩
    have B5 := Lib.hid (bstep B4.out hb5)
    have hr5 := blk_below hr4.out hb5
    have hc5 := blk_cell hr5
    have hf5 := blk_frozen hr5
    have br6 := set4_blk hr5 (.bool false) (.slice none 0 0) (.slice none 0 0) (.slice none 0 0)
    have B6 := set4_below B5.out (Nat.le_refl _) (.bool false) (.slice none 0 0) (.slice none 0 0) (.slice none 0 0)
    have s0 := blk_cell br6 0
    have s1 := blk_cell br6 1
    have s2 := blk_cell br6 2
    have s3 := blk_cell br6 3
    simp only [List.getElem?_toArray, List.getElem?_cons_zero, List.getElem?_cons_succ] at s0 s1 s2 s3
    have H6 := Lib.hid B6
    clear B6 br6 hr5 hb5 hev4
    unfold set4 at s0 s1 s2 s3 H6
    go_wp2_with fail
    exact bodyPost_ret (v := .tuple #[.agg #[.bool false, .slice none 0 0, .slice none 0 0, .slice none 0 0], .int .i64 11]) (by simp only [results, Tryd.results46]; simp [go_sem, s0, s1, s2, s3]) rfl (by rw [hno.out]; exact ⟨_, _, _, rfl, ndNil _, H6.out⟩)
  · have hyes : Hid (decN b = (n, 0)) := by
      show _ = _
      have : z ≤ 236 := by omega
      rw [Hdec.out, Hok.out]; simp [this, hg.out, Hat.out]
    have hcr := blk_frozen hr3.out
    have hcs := blk_cell hr3.out
    obtain ⟨w4, hw4⟩ : ∃ w4, w4 = w3.alloc (.cells #[.pointer none] 137) := ⟨_, rfl⟩
    have B4 : Hid (Below w.heap.size w w4) := by show Below _ _ _; rw [hw4]; exact B3.out.alloc (by omega) _
    have hr4 : Hid (w4.heap[w.heap.size]? = some (.cells #[.bool false, .slice none 0 0, .slice none 0 0, .slice none 0 0] 73 (0, 0))) := by show _ = _; rw [hw4]; exact blk_alloc hr3.out
    have hq4 : Hid (w4.heap[w1.heap.size]? = some (.cells #[.bool n.lf, .slice p1 n.I.length c1, .slice p2 n.K.length c2, .slice p3 n.D.length c3] 73 (0, 0))) := by show _ = _; rw [hw4]; exact blk_alloc hq3.out
    have hev4 : w4.cell? ⟨w.heap.size + 1, 2, none⟩ = some .nilIface := by
      rw [hw4]
      exact (blk_cell (blk_alloc (o := .cells #[.pointer none] 137) HR3.out)) 2
    have hK4 : Hid (∀ k, k < w1.heap.size → w4.heap[k]? = w1.heap[k]?) := by
      show ∀ k, _
      intro k hk
      have hk2 : k < w2.heap.size := by omega
      rw [hw4, Below.heap_alloc _ _ _ (by have := hb3.size; omega), hb3.block k hk2]
      exact K2.out k hk
    clear hb3
    go_wp2_with fail
    rw [← hw4]
    clear hw4 hc3 hf3 hcr hcs
    refine (as_nil _ _).mono ?_; rintro e w5 ⟨rfl, rfl⟩
    have hc5 := blk_cell hr4.out
    have hf5 := blk_frozen hr4.out
    have hcq := blk_cell hq4.out
    have br6 := set4_blk hr4.out (.bool n.lf) (.slice p1 n.I.length c1) (.slice p2 n.K.length c2) (.slice p3 n.D.length c3)
    have B6 := set4_below B4.out (Nat.le_refl _) (.bool n.lf) (.slice p1 n.I.length c1) (.slice p2 n.K.length c2) (.slice p3 n.D.length c3)
    have N6 := HN1.out (set4 w4 w.heap.size (.bool n.lf) (.slice p1 n.I.length c1) (.slice p2 n.K.length c2) (.slice p3 n.D.length c3)) (fun k h1 h2 => by
      rw [← hK4.out k h2]
      have hne : k ≠ w.heap.size := by omega
      unfold set4
      rw [Below.heap_setCell _ _ _ _ hne, Below.heap_setCell _ _ _ _ hne, Below.heap_setCell _ _ _ _ hne, Below.heap_setCell _ _ _ _ hne])
    have s0 := blk_cell br6 0
    have s1 := blk_cell br6 1
    have s2 := blk_cell br6 2
    have s3 := blk_cell br6 3
    simp only [List.getElem?_toArray, List.getElem?_cons_zero, List.getElem?_cons_succ] at s0 s1 s2 s3
    have H6 := Lib.hid (And.intro N6 B6)
    clear B6 br6 N6
    unfold set4 at s0 s1 s2 s3 H6
    go_wp2_with fail
    exact bodyPost_ret (v := .tuple #[.agg #[.bool n.lf, .slice p1 n.I.length c1, .slice p2 n.K.length c2, .slice p3 n.D.length c3], .int .i64 0]) (by simp only [results, Tryd.results46]; simp [go_sem, s0, s1, s2, s3]) rfl (by rw [hyes.out]; exact ⟨_, _, _, rfl, H6.out.1, H6.out.2⟩)
end Go.Proofs.YtlpdanghcdajmaaDoor
