/- Nodes (layer 23): the reader of a node: an inner node. -/
import Derived.Test.YtlpdanghcdajmaaDoorNza
import Derived.Deep.DeepCutAuto
import Derived.Deep.CutBlock
import Derived.Deep.CutRange
namespace Go.Proofs.YtlpdanghcdajmaaDoor
open Go.RowKit
theorem Tryd.info22 : (Tryd.prog.info? 22).map (fun i => (i.zero, i.size, i.bytes)) = some (some (.int .u32 0), 1, 4) := by kernel_rfl
theorem Tryd.info3 : (Tryd.prog.info? 3).map (fun i => (i.zero, i.size, i.bytes)) = some (some (.int .i64 0), 1, 8) := by kernel_rfl
theorem rdPs_stay {b : ByteArray} {s : List Int × List Int × Int × Bool} {k : Nat} (h : (rdPs b s k).2.2.2 = true) : ∀ j, rdPs b s (k + j) = rdPs b s k
  | 0 => rfl
  | j + 1 => by
    show prStep b (rdPs b s (k + j)) = _
    rw [rdPs_stay h j]; unfold prStep; rw [if_pos h]
theorem rdPs_len {b : ByteArray} {s : List Int × List Int × Int × Bool} : ∀ k, (rdPs b s k).1.length ≤ s.1.length + k ∧ (rdPs b s k).2.1.length ≤ s.2.1.length + k
  | 0 => ⟨Nat.le_refl _, Nat.le_refl _⟩
  | k + 1 => by
    have ih := rdPs_len (b := b) (s := s) k
    show (prStep b (rdPs b s k)).1.length ≤ _ ∧ (prStep b (rdPs b s k)).2.1.length ≤ _
    unfold prStep
    split
    · omega
    · simp only [List.length_append, List.length_cons, List.length_nil]; omega
theorem rdPs_bd {b : ByteArray} {s : List Int × List Int × Int × Bool} (h0 : 0 ≤ s.2.2.1) (h1 : s.2.2.1 ≤ b.size) : ∀ k, 0 ≤ (rdPs b s k).2.2.1 ∧ (rdPs b s k).2.2.1 ≤ b.size
  | 0 => ⟨h0, h1⟩
  | k + 1 => by
    have ih := rdPs_bd h0 h1 k
    show 0 ≤ (prStep b (rdPs b s k)).2.2.1 ∧ (prStep b (rdPs b s k)).2.2.1 ≤ b.size
    unfold prStep
    split
    · exact ih
    · have hk := rdR_bd (b := b) (bad := (rdPs b s k).2.2.2) (n := 4) (.inr (.inr rfl)) ih.1 ih.2
      have hz := rdR_bd (b := b) (bad := (rdR b (rdPs b s k).2.2.1 (rdPs b s k).2.2.2 4).2.2) (n := 2) (.inr (.inl rfl)) hk.1 hk.2.1
      exact ⟨hz.1, hz.2.1⟩
section
variable {w w1 w2 : World} {p : Nat} {b : ByteArray} {a : Int} {bad lf : Bool} {vI vK vD : Value} {n : Nd}
theorem NodeW.appK (h : NodeW w w1 p b a bad lf vI vK vD n) {v : Value} {x : Int} (hpw : p < w.heap.size) (hw0 : 1 < w.heap.size)
    (hown : w2.ownsRow (w.heap.size + 2) 22 1 v (n.K.length + 1) (n.K.map (Value.int .u32) ++ [.int .u32 x])) (hg : w1.grownBy w2 vK.ownBlock) :
    NodeW w (w2.setCell ⟨w.heap.size + 1, 2, none⟩ v) p b a bad lf vI v vD ⟨n.lf, n.I, n.K ++ [x], n.D⟩ := by
  have k := h.kept hg (fun k hk => (h.oK.lt k hk).1) hpw hw0
  have hF := k.fr.setCell (p := ⟨w.heap.size + 1, 2, none⟩) (.inr (Nat.le_succ _)) v
  refine ⟨k.rd.far fun x hx => blk_set_far hx (by first | (simp; done) | (simp; omega)) _, ?_, blk_set_far k.res (by simp) _, row_set (h.oI.kept hg ?_) (by omega) _ _, ?_, row_set (h.oD.kept hg ?_) (by omega) _ _, set_et k.et (by omega), hF, by simpa [World.setCell] using k.sz⟩
  · have := blk_set k.nb 2 v; simpa using this
  · exact row_ne h.oI h.oK (by decide)
  · have := row_set hown (q := w.heap.size + 1) (by omega) 2 v
    simpa using this
  · exact row_ne h.oD h.oK (by decide)
theorem NodeW.appD (h : NodeW w w1 p b a bad lf vI vK vD n) {v : Value} {x : Int} (hpw : p < w.heap.size) (hw0 : 1 < w.heap.size)
    (hown : w2.ownsRow (w.heap.size + 2) 3 1 v (n.D.length + 1) (n.D.map (Value.int .i64) ++ [.int .i64 x])) (hg : w1.grownBy w2 vD.ownBlock) :
    NodeW w (w2.setCell ⟨w.heap.size + 1, 3, none⟩ v) p b a bad lf vI vK v ⟨n.lf, n.I, n.K, n.D ++ [x]⟩ := by
  have k := h.kept hg (fun k hk => (h.oD.lt k hk).1) hpw hw0
  have hF := k.fr.setCell (p := ⟨w.heap.size + 1, 3, none⟩) (.inr (Nat.le_succ _)) v
  refine ⟨k.rd.far fun x hx => blk_set_far hx (by first | (simp; done) | (simp; omega)) _, ?_, blk_set_far k.res (by simp) _, row_set (h.oI.kept hg ?_) (by omega) _ _, row_set (h.oK.kept hg ?_) (by omega) _ _, ?_, set_et k.et (by omega), hF, by simpa [World.setCell] using k.sz⟩
  · have := blk_set k.nb 3 v; simpa using this
  · exact row_ne h.oI h.oD (by decide)
  · exact row_ne h.oK h.oD (by decide)
  · have := row_set hown (q := w.heap.size + 1) (by omega) 3 v
    simpa using this
end
set_option maxRecDepth 100000 in
set_option maxHeartbeats 8000000 in
theorem rn_node_inner (p : Nat) (b : ByteArray) (hb : b.size ≤ 140737488351232) (a1 a2 a3 c d : Int) (b1 b2 b3 : Bool) (h1 : rdR b 0 false 1 = (2, a1, b1)) (h2 : rdR b a1 b1 1 = (c, a2, b2)) (h3 : rdR b a2 b2 2 = (d, a3, b3)) (w : World) (he : EtIs w) (hp : IsRn w p b 0 false) (hpe : p ≠ 1) :
    Calls Tryd.prog 77 #[.pointer (some ⟨p, 0, none⟩)] w fun e w' => ∃ v1 v2 v3, e = .returned (.agg #[.bool false, v1, v2, v3]) ∧ NdUp w.heap.size w' v1 v2 v3 ⟨false, [], (rdPs b ([], [d], a3, b3) c.toNat).1, (rdPs b ([], [d], a3, b3) c.toNat).2.1⟩ ∧ IsRn w' p b (rdPs b ([], [d], a3, b3) c.toNat).2.2.1 (rdPs b ([], [d], a3, b3) c.toNat).2.2.2 ∧ Fr (· = p) w w' ∧ EtIs w' := by
  have hk := rdR_bd (b := b) (a := 0) (bad := false) (n := 1) (.inl rfl) (by decide) (by omega)
  have N1 := Lib.hid (rn_num p b 0 false 1 hb (by decide)); rw [h1] at N1
  rw [h1] at hk
  have hz := rdR_bd (b := b) (a := a1) (bad := b1) (n := 1) (.inl rfl) hk.1 hk.2.1
  have N2 := Lib.hid (rn_num p b a1 b1 1 hb (by decide)); rw [h2] at N2
  rw [h2] at hz
  have hd := rdR_bd (b := b) (a := a2) (bad := b2) (n := 2) (.inr (.inl rfl)) hz.1 hz.2.1
  have N3 := Lib.hid (rn_num p b a2 b2 2 hb (by decide)); rw [h3] at N3
  rw [h3] at hd
  have hz3 : c < 256 := by have := hz.2.2.2; simpa using this
  have hc0 : 0 ≤ c := hz.2.2.1
  have hBD := Lib.hid (rdPs_bd (b := b) (s := ([], [d], a3, b3)) hd.1 hd.2.1)
  have hLN := Lib.hid (rdPs_len (b := b) (s := ([], [d], a3, b3)))
  have hSt := Lib.hid (fun k h j => rdPs_stay (b := b) (s := ([], [d], a3, b3)) (k := k) h j)
  obtain ⟨C, rfl⟩ := Int.eq_ofNat_of_zero_le hc0
  simp only [Int.toNat_natCast]
  have hw0 := he.lt
  have hpw := hp.lt
  have hC : C < 256 := by omega
  clear hk hz hz3 hc0 h1 h2 h3 hd
  obtain ⟨i0, ih, i1, i2, i3⟩ := info_parts Tryd.info22
  obtain ⟨j0, jh, j1, j2, j3⟩ := info_parts Tryd.info3
  go_enter Tryd.func77, Tryd.ntmps77
  go_wp2_with fail
  obtain ⟨w0, hw0e, W0⟩ := rd_w0 w p b he hp
  rw [hw0e]; clear hw0e hp he
  refine (N1.out _ W0.et W0.rd hpe).mono ?_; rintro e w1 ⟨rfl, hp1, hf1, he1⟩
  have W1 := Lib.hid (W0.call hp1 hf1 he1 hpw)
  clear hp1 hf1 he1 W0
  go_wp2_with fail
  refine (N2.out _ W1.out.et W1.out.rd hpe).mono ?_; rintro e w2 ⟨rfl, hp2, hf2, he2⟩
  have W2 := Lib.hid (W1.out.call hp2 hf2 he2 hpw)
  have hsz2 := W2.out.sz
  clear hp2 hf2 he2
  go_upto_region 11 with (fail)
  go_cut [7] (fun s7 wc => ∃ g c, NodeW w wc p b a3 b3 false (.slice none 0 0) (.slice none 0 0) (.slice (some ⟨g, 0, none⟩) 1 c) ⟨false, [], [], [d]⟩)
  case first =>
    have Aq1d : w2.drew.cell? ⟨w.heap.size + 1, 3, none⟩ = some (.slice none 0 0) := (blk_cell W2.out.nb) 3
    go_region_law
      (first
        | (go_simp; go_at_call 98; refine (N3.out _ W2.out.drew.et W2.out.drew.rd hpe).mono ?_; rintro e A1 ⟨rfl, Ap1, Af1, Ae1⟩; have AW1 := Lib.hid (W2.out.drew.call Ap1 Af1 Ae1 hpw); have Ak1 := (blk_cell AW1.out.nb) 3; have Ak1a := (blk_cell (blk_alloc (o := .cells #[.int .i64 d] 3) AW1.out.nb)) 3; simp only [List.getElem?_toArray, List.getElem?_cons_zero, List.getElem?_cons_succ] at Ak1 Ak1a)
        | (refine step_append_lies _ (by rfl) _ _ _ (by rfl) (w.heap.size + 2) 3 j0 _ 1 8 Tryd.underlying71 jh j1 j2 j3 rfl (by decide) (.slice none 0 0) 0 ([]) (by rfl) (AW1.out.oD.alloc _) ⟨A1.heap.size, 0, none⟩ 1 1 [.int .i64 d] (by rfl) (by rfl) (World.news_of_block (cs := #[.int .i64 d]) (t := 3) (fr := (0, 0)) (heap_alloc_new A1 _)) (by simp [Value.oneCell']) (by decide) (by simp only [maxLen]; omega) (by omega) (by have := AW1.out.sz; simp; omega) (A1.heap.size + 1) (by simp) ?_; intro Ag Ac A2 Ahown Ahgrow Ahat Ahlt; have AK2 := (AW1.out.alloc (.cells #[.int .i64 d] 3)).kept Ahgrow (fun k hk => (AW1.out.oD.lt k hk).1) hpw hw0; have Ak2 := (blk_cell AK2.nb) 3; have Ak3 := blk_frozen AK2.nb; simp only [List.getElem?_toArray, List.getElem?_cons_zero, List.getElem?_cons_succ] at Ak2))
    all_goals
      have W4 := (Lib.hid (AW1.out.alloc (.cells #[.int .i64 d] 3))).out.appD (x := d) hpw hw0 (by exact Ahown) Ahgrow
      clear AK2 Ak2 Ak3 Aq1d
      go_wp2_with fail
      go_meet
      exact ⟨Ag, Ac, W4⟩
  case rest =>
    obtain ⟨g0, c0, hcut⟩ := hcut
    have W4 := Lib.hid hcut
    clear hcut
    go_wp2_with fail
    go_loopw [7] (fun iv wr => ∃ k : Nat, k ≤ C ∧ iv = .int .i64 k ∧ ∃ vK vD, NodeW w wr p b (rdPs b ([], [d], a3, b3) k).2.2.1 (rdPs b ([], [d], a3, b3) k).2.2.2 false (.slice none 0 0) vK vD ⟨false, [], (rdPs b ([], [d], a3, b3) k).1, (rdPs b ([], [d], a3, b3) k).2.1⟩) (fun iv _ => C - (intOf iv).toNat)
    case atStart => exact ⟨0, Nat.zero_le _, rfl, .slice none 0 0, .slice (some ⟨g0, 0, none⟩) 1 c0, W4.out⟩
    case round =>
      obtain ⟨k, hk, rfl, vK, vD, hW⟩ := hrel
      clear W1 W2 W4
      obtain ⟨pK, cK, rfl⟩ := row_form hW.oK
      obtain ⟨pD, cD, rfl⟩ := row_form hW.oD
      have hbd := hBD.out k
      have hln := hLN.out k
      have hstay := hSt.out k
      have hstep : rdPs b ([], [d], a3, b3) (k + 1) = prStep b (rdPs b ([], [d], a3, b3) k) := rfl
      obtain ⟨K, D, a, bad, hs⟩ : ∃ K D a bad, rdPs b ([], [d], a3, b3) k = (K, D, a, bad) := ⟨_, _, _, _, rfl⟩
      rw [hs] at hbd hln hstay hW hstep
      simp only [List.length_nil, List.length_cons, Nat.zero_add] at hbd hln hstay hW
      have HW := Lib.hid hW
      have HS := Lib.hid hs
      have Hstep := Lib.hid hstep
      obtain ⟨ev, hrd, hev⟩ := hW.rd
      have hcr := blk_cell hrd
      have hcn := blk_cell hW.nb
      have hcf := blk_frozen hW.res
      have hcs := blk_cell hW.res
      clear hrd hs hstep hW
      by_cases hkC : k < C
      · have hi : (k : Int) < (C : Int) := by omega
        rcases hev with ⟨rfl, rfl⟩ | ⟨rfl, q, rfl⟩
        · obtain ⟨x, a4, b4, hx⟩ : ∃ x a4 b4, rdR b a false 4 = (x, a4, b4) := ⟨_, _, _, rfl⟩
          have hxb := rdR_bd (b := b) (a := a) (bad := false) (n := 4) (.inr (.inr rfl)) hbd.1 hbd.2
          have N4 := Lib.hid (rn_num p b a false 4 hb (by decide)); rw [hx] at N4
          rw [hx] at hxb
          obtain ⟨y, a5, b5, hy⟩ : ∃ y a5 b5, rdR b a4 b4 2 = (y, a5, b5) := ⟨_, _, _, rfl⟩
          have N5 := Lib.hid (rn_num p b a4 b4 2 hb (by decide)); rw [hy] at N5
          have e1 : rdPs b ([], [d], a3, b3) (k + 1) = (K ++ [x], D ++ [y], a5, b5) := by rw [Hstep.out]; simp [prStep, hx, hy]
          have E1 := Lib.hid e1
          have hx0 : 0 ≤ x := hxb.2.2.1
          have hx1 : x < 4294967296 := by have := hxb.2.2.2; simpa using this
          have hxw : IntKind.u32.wrap x = x := by rw [IntKind.wrap_u32, Int.emod_eq_of_lt hx0 hx1]
          clear hx hy hxb e1 hcf hcs
          have hsz := HW.out.sz
          go_upto_region 15 with (fail)
          clear hcr hcn
          go_cut [7] from 44 to 70 (fun s7 wc => s7 = .int .i64 k ∧ ∃ g c, NodeW w wc p b a4 b4 false (.slice none 0 0) (.slice (some ⟨g, 0, none⟩) (K.length + 1) c) (.slice pD D.length cD) ⟨false, [], K ++ [x], D⟩)
          case first =>
            have Bq1d : wr.drew.cell? ⟨w.heap.size + 1, 2, none⟩ = some (.slice pK K.length cK) := (blk_cell HW.out.nb) 2
            go_region_law
              (first
                | (go_simp; go_at_call 98; refine (N4.out _ HW.out.drew.et HW.out.drew.rd hpe).mono ?_; rintro e B1 ⟨rfl, Bp1, Bf1, Be1⟩; have BW1 := Lib.hid (HW.out.drew.call Bp1 Bf1 Be1 hpw); have Bk1 := (blk_cell BW1.out.nb) 2; have Bk1a := (blk_cell (blk_alloc (o := .cells #[.int .u32 x] 22) BW1.out.nb)) 2; simp only [List.getElem?_toArray, List.getElem?_cons_zero, List.getElem?_cons_succ] at Bk1 Bk1a)
                | (refine step_append_lies _ (by rfl) _ _ _ (by rfl) (w.heap.size + 2) 22 i0 _ 1 4 Tryd.underlying70 ih i1 i2 i3 rfl (by decide) (.slice pK K.length cK) K.length (K.map (Value.int .u32)) (by rfl) (BW1.out.oK.alloc _) ⟨B1.heap.size, 0, none⟩ 1 1 [.int .u32 x] (by rfl) (by rfl) (World.news_of_block (cs := #[.int .u32 x]) (t := 22) (fr := (0, 0)) (heap_alloc_new B1 _)) (by simp [Value.oneCell']) (by decide) (by simp only [maxLen]; omega) (by omega) (by have := BW1.out.sz; simp; omega) (B1.heap.size + 1) (by simp) ?_; intro Bg Bc B2 Bhown Bhgrow Bhat Bhlt; have BK2 := (BW1.out.alloc (.cells #[.int .u32 x] 22)).kept Bhgrow (fun k hk => (BW1.out.oK.lt k hk).1) hpw hw0; have Bk2 := (blk_cell BK2.nb) 2; have Bk3 := blk_frozen BK2.nb; simp only [List.getElem?_toArray, List.getElem?_cons_zero, List.getElem?_cons_succ] at Bk2))
            all_goals
              have W5 := (Lib.hid (BW1.out.alloc (.cells #[.int .u32 x] 22))).out.appK (x := x) hpw hw0 (by exact Bhown) Bhgrow
              clear BK2 Bk2 Bk3 Bq1d Bk1 Bk1a
              go_wp2_with fail
              go_meet
              exact ⟨rfl, Bg, Bc, W5⟩
          case rest =>
            obtain ⟨rfl, g1, c1, hcut⟩ := hcut
            have W5 := Lib.hid hcut
            clear hcut
            have hsz6 := W5.out.sz
            go_wp2_with fail
            have Fq1d : wc.drew.cell? ⟨w.heap.size + 1, 3, none⟩ = some (.slice pD D.length cD) := (blk_cell W5.out.nb) 3
            go_region_law
              (first
                | (go_simp; go_at_call 98; refine (N5.out _ W5.out.drew.et W5.out.drew.rd hpe).mono ?_; rintro e F1 ⟨rfl, Fp1, Ff1, Fe1⟩; have FW1 := Lib.hid (W5.out.drew.call Fp1 Ff1 Fe1 hpw); have Fk1 := (blk_cell FW1.out.nb) 3; have Fk1a := (blk_cell (blk_alloc (o := .cells #[.int .i64 y] 3) FW1.out.nb)) 3; simp only [List.getElem?_toArray, List.getElem?_cons_zero, List.getElem?_cons_succ] at Fk1 Fk1a)
                | (refine step_append_lies _ (by rfl) _ _ _ (by rfl) (w.heap.size + 2) 3 j0 _ 1 8 Tryd.underlying71 jh j1 j2 j3 rfl (by decide) (.slice pD D.length cD) D.length (D.map (Value.int .i64)) (by rfl) (FW1.out.oD.alloc _) ⟨F1.heap.size, 0, none⟩ 1 1 [.int .i64 y] (by rfl) (by rfl) (World.news_of_block (cs := #[.int .i64 y]) (t := 3) (fr := (0, 0)) (heap_alloc_new F1 _)) (by simp [Value.oneCell']) (by decide) (by simp only [maxLen]; omega) (by omega) (by have := FW1.out.sz; simp; omega) (F1.heap.size + 1) (by simp) ?_; intro Fg Fc F2 Fhown Fhgrow Fhat Fhlt; have FK2 := (FW1.out.alloc (.cells #[.int .i64 y] 3)).kept Fhgrow (fun k hk => (FW1.out.oD.lt k hk).1) hpw hw0; have Fk2 := (blk_cell FK2.nb) 3; have Fk3 := blk_frozen FK2.nb; simp only [List.getElem?_toArray, List.getElem?_cons_zero, List.getElem?_cons_succ] at Fk2))
            all_goals
              have W7 := (Lib.hid (FW1.out.alloc (.cells #[.int .i64 y] 3))).out.appD (x := y) hpw hw0 (by exact Fhown) Fhgrow
              clear FK2 Fk2 Fk3 Fq1d Fk1 Fk1a
              go_wp2_with fail
              go_roundw
              case rel =>
                refine ⟨k + 1, by omega, by go_num, .slice (some ⟨g1, 0, none⟩) (K.length + 1) c1, .slice (some ⟨Fg, 0, none⟩) (D.length + 1) Fc, ?_⟩
                rw [E1.out]
                exact W7
              case measure => simp [intOf]; omega
        · -- it is bad
          have hfin : Hid (rdPs b ([], [d], a3, b3) C = (K, D, a, true)) := by
            show _ = _
            obtain ⟨j, rfl⟩ : ∃ j, C = k + j := ⟨C - k, by omega⟩
            exact (hstay rfl j)
          have DN := HW.out.done hpw hw0 hpe rfl (by simp) (by simp only; omega) (by simp only; omega)
          have s0 := blk_cell DN.1 0
          have s1 := blk_cell DN.1 1
          have s2 := blk_cell DN.1 2
          have s3 := blk_cell DN.1 3
          simp only [List.getElem?_toArray, List.getElem?_cons_zero, List.getElem?_cons_succ] at s0 s1 s2 s3
          have D2 := Lib.hid DN.2
          clear DN
          unfold set4 at s0 s1 s2 s3 D2
          go_wp2_with fail
          refine bodyPost_ret (v := .agg #[.bool false, .slice none 0 0, .slice pK K.length cK, .slice pD D.length cD]) (by simp only [results, Tryd.results77]; simp [go_sem, s0, s1, s2, s3]) rfl ⟨_, _, _, rfl, ?_⟩
          rw [hfin.out]
          exact D2.out
      · have hi : ¬ (k : Int) < (C : Int) := by omega
        obtain rfl : k = C := by omega
        have DN := HW.out.done hpw hw0 hpe rfl (by simp) (by simp only; omega) (by simp only; omega)
        have s0 := blk_cell DN.1 0
        have s1 := blk_cell DN.1 1
        have s2 := blk_cell DN.1 2
        have s3 := blk_cell DN.1 3
        simp only [List.getElem?_toArray, List.getElem?_cons_zero, List.getElem?_cons_succ] at s0 s1 s2 s3
        have D2 := Lib.hid DN.2
        clear DN
        unfold set4 at s0 s1 s2 s3 D2
        go_wp2_with fail
        refine bodyPost_ret (v := .agg #[.bool false, .slice none 0 0, .slice pK K.length cK, .slice pD D.length cD]) (by simp only [results, Tryd.results77]; simp [go_sem, s0, s1, s2, s3]) rfl ⟨_, _, _, rfl, ?_⟩
        rw [HS.out]
        exact D2.out
end Go.Proofs.YtlpdanghcdajmaaDoor
