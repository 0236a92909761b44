/- Layer 23: the reference's Decode of an inner node; Decode. -/
import Derived.Test.YtlpdanghcdajmaaDoorOn
namespace Go.Proofs.YtlpdanghcdajmaaDoor
open Go.RowKit
set_option maxRecDepth 100000 in
set_option maxHeartbeats 8000000 in
theorem ref_Decode_inner (b : ByteArray) (hb : b.size ≤ 236) (a1 a2 a3 c d : Int) (b1 b2 b3 : Bool) (h1 : rdR b 0 false 1 = (2, a1, b1)) (h2 : rdR b a1 b1 1 = (c, a2, b2)) (h3 : rdR b a2 b2 2 = (d, a3, b3)) (w : World) :
    Calls Tryd.prog 47 #[.string b] w fun e w' => ∃ v1 v2 v3, e = .returned (.tuple #[.agg #[.bool (decN b).1.lf, v1, v2, v3], .int .i64 (decN b).2]) ∧ NdAt w' v1 v2 v3 (decN b).1 ∧ Below w.heap.size w w' := by
  have HN0 : Hid (rdN b = (⟨false, [], (rdPs b ([], [d], a3, b3) c.toNat).1, (rdPs b ([], [d], a3, b3) c.toNat).2.1⟩, (rdPs b ([], [d], a3, b3) c.toNat).2.2.1, (rdPs b ([], [d], a3, b3) c.toNat).2.2.2)) := by show _ = _; unfold rdN; simp only [h1, h2, h3]; rw [if_neg (by decide), if_pos trivial]
  have hk := rdR_bd (b := b) (a := 0) (bad := false) (n := 1) (.inl rfl) (by decide) (by omega)
  rw [h1] at hk
  have hz := rdR_bd (b := b) (a := a1) (bad := b1) (n := 1) (.inl rfl) hk.1 hk.2.1
  rw [h2] at hz
  have hd := rdR_bd (b := b) (a := a2) (bad := b2) (n := 2) (.inr (.inl rfl)) hz.1 hz.2.1
  rw [h3] at hd
  have hz3 : c < 256 := by have := hz.2.2.2; simpa using this
  have hc0 : 0 ≤ c := hz.2.2.1
  have hBD := Lib.hid (rdPs_bd (b := b) (s := ([], [d], a3, b3)) hd.1 hd.2.1)
  have hLN := Lib.hid (rdPs_len (b := b) (s := ([], [d], a3, b3)))
  have hSt := Lib.hid (fun k h j => rdPs_stay (b := b) (s := ([], [d], a3, b3)) (k := k) h j)
  have N3 := Lib.hid (rr_num (w.heap.size + 1) b a2 b2 2 (by omega) (by decide)); rw [h3] at N3
  obtain ⟨C, rfl⟩ := Int.eq_ofNat_of_zero_le hc0
  simp only [Int.toNat_natCast] at HN0
  have hC : C < 256 := by omega
  obtain ⟨i0, ih, i1, i2, i3⟩ := info_parts Tryd.info22
  obtain ⟨j0, jh, j1, j2, j3⟩ := info_parts Tryd.info3
  have hbi : ¬ (236 : Int) < (b.size : Int) := by omega
  have N1 := Lib.hid (rr_num (w.heap.size + 1) b 0 false 1 (by omega) (by decide)); rw [h1] at N1
  have N2 := Lib.hid (rr_num (w.heap.size + 1) b a1 b1 1 (by omega) (by decide)); rw [h2] at N2
  clear h1 h2 h3 hk hz hz3 hc0 hd
  go_enter Tryd.func47, Tryd.ntmps47
  go_upto_region 4 with (fail)
  obtain ⟨w0, hw0, hr0, hp0, B0, hz0⟩ := rdec_w0 w b
  rw [hw0]; clear hw0
  go_wp2_with fail
  refine (N1.out _ hp0).mono ?_; rintro e w1 ⟨rfl, hp1, hf1⟩
  have hr1 := Lib.hid (blk_fr hr0 hf1 (by omega))
  have B1 := Lib.hid (Below.fr B0 hf1 (by omega) B0.size)
  have hz1 : w.heap.size + 1 < w1.heap.size := by have := hf1.size; omega
  clear hr0 hp0 B0 hf1 hz0
  go_wp2_with fail
  refine (N2.out _ hp1).mono ?_; rintro e w2 ⟨rfl, hp2, hf2⟩
  have hr2 := Lib.hid (blk_fr hr1.out hf2 (by omega))
  have B2 := Lib.hid (Below.fr B1.out hf2 (by omega) B1.out.size)
  have hz2 : w.heap.size + 1 < w2.heap.size := by have := hf2.size; omega
  have W3 := Lib.hid (refW_new hp2 hr2.out B2.out hz2)
  clear hp1 hf2 hp2
  go_upto_region 6 with (fail)
  generalize w2.alloc (.cells #[.bool false, .slice none 0 0, .slice none 0 0, .slice none 0 0] 77) = w3 at W3 ⊢
  have hsz3 := W3.out.sz
  go_upto_region 19 with (fail)
  go_cut [10] (fun s10 wc => ∃ g c, RefW w wc w2.heap.size b a3 b3 false (.slice none 0 0) (.slice none 0 0) (.slice (some ⟨g, 0, none⟩) 1 c) ⟨false, [], [], [d]⟩)
  case first =>
    have Aq1d : w3.drew.cell? ⟨w2.heap.size, 3, none⟩ = some (.slice none 0 0) := (blk_cell W3.out.nb) 3
    go_region_law
      (first
        | (go_simp; go_at_call 79; refine (N3.out _ W3.out.drew.rd).mono ?_; rintro e A1 ⟨rfl, Ap1, Af1⟩; have AW1 := Lib.hid (W3.out.drew.call Ap1 Af1); have Ak1 := (blk_cell AW1.out.nb) 3; have Ak1a := (blk_cell (blk_alloc (o := .cells #[.int .i64 d] 3) AW1.out.nb)) 3; simp only [List.getElem?_toArray, List.getElem?_cons_zero, List.getElem?_cons_succ] at Ak1 Ak1a)
        | (refine step_append_lies _ (by rfl) _ _ _ (by rfl) (w2.heap.size + 1) 3 j0 _ 1 8 Tryd.underlying71 jh j1 j2 j3 rfl (by decide) (.slice none 0 0) 0 ([]) (by rfl) (AW1.out.oD.alloc _) ⟨A1.heap.size, 0, none⟩ 1 1 [.int .i64 d] (by rfl) (by rfl) (World.news_of_block (cs := #[.int .i64 d]) (t := 3) (fr := (0, 0)) (heap_alloc_new A1 _)) (by simp [Value.oneCell']) (by decide) (by simp only [maxLen]; omega) (by omega) (by have := AW1.out.sz; simp; omega) (A1.heap.size + 1) (by simp) ?_; intro Ag Ac A2 Ahown Ahgrow Ahat Ahlt; have AK2 := (AW1.out.alloc (.cells #[.int .i64 d] 3)).kept Ahgrow (fun k hk => (AW1.out.oD.lt k hk).1); have Ak2 := (blk_cell AK2.nb) 3; have Ak3 := blk_frozen AK2.nb; simp only [List.getElem?_toArray, List.getElem?_cons_zero, List.getElem?_cons_succ] at Ak2))
    all_goals
      have W4 := (Lib.hid (AW1.out.alloc (.cells #[.int .i64 d] 3))).out.appD (x := d) (by exact Ahown) Ahgrow
      clear AK2 Ak2 Ak3 Aq1d
      go_wp2_with fail
      go_meet
      exact ⟨Ag, Ac, W4⟩
  case rest =>
    obtain ⟨g0, c0, hcut⟩ := hcut
    have W4 := Lib.hid hcut
    clear hcut
    go_wp2_with fail
    go_loopw [10] (fun iv wr => ∃ k : Nat, k ≤ C ∧ iv = .int .i64 k ∧ ∃ vK vD, RefW w wr w2.heap.size b (rdPs b ([], [d], a3, b3) k).2.2.1 (rdPs b ([], [d], a3, b3) k).2.2.2 false (.slice none 0 0) vK vD ⟨false, [], (rdPs b ([], [d], a3, b3) k).1, (rdPs b ([], [d], a3, b3) k).2.1⟩) (fun iv _ => C - (intOf iv).toNat)
    case atStart => exact ⟨0, Nat.zero_le _, rfl, .slice none 0 0, .slice (some ⟨g0, 0, none⟩) 1 c0, W4.out⟩
    case round =>
      obtain ⟨k, hk, rfl, vK, vD, hW⟩ := hrel
      clear W3 W4 hr1 hr2
      obtain ⟨pK, cK, rfl⟩ := row_form hW.oK
      obtain ⟨pD, cD, rfl⟩ := row_form hW.oD
      have hbd := hBD.out k
      have hln := hLN.out k
      have hstay := hSt.out k
      have hstep : rdPs b ([], [d], a3, b3) (k + 1) = prStep b (rdPs b ([], [d], a3, b3) k) := rfl
      obtain ⟨K, D, a, bad, hs⟩ : ∃ K D a bad, rdPs b ([], [d], a3, b3) k = (K, D, a, bad) := ⟨_, _, _, _, rfl⟩
      rw [hs] at hbd hln hstay hW hstep
      simp only [List.length_nil, List.length_cons, Nat.zero_add] at hbd hln hstay hW
      have HW := Lib.hid hW
      have HS := Lib.hid hs
      have Hstep := Lib.hid hstep
      have hcr := blk_cell hW.rd
      clear hs hstep hW
      by_cases hkC : k < C
      · have hi : (k : Int) < (C : Int) := by omega
        cases bad with
        | false =>
          obtain ⟨x, a4, b4, hx⟩ : ∃ x a4 b4, rdR b a false 4 = (x, a4, b4) := ⟨_, _, _, rfl⟩
          have hxb := rdR_bd (b := b) (a := a) (bad := false) (n := 4) (.inr (.inr rfl)) hbd.1 hbd.2
          have N4 := Lib.hid (rr_num (w.heap.size + 1) b a false 4 (by omega) (by decide)); rw [hx] at N4
          rw [hx] at hxb
          obtain ⟨y, a5, b5, hy⟩ : ∃ y a5 b5, rdR b a4 b4 2 = (y, a5, b5) := ⟨_, _, _, rfl⟩
          have N5 := Lib.hid (rr_num (w.heap.size + 1) b a4 b4 2 (by omega) (by decide)); rw [hy] at N5
          have e1 : rdPs b ([], [d], a3, b3) (k + 1) = (K ++ [x], D ++ [y], a5, b5) := by rw [Hstep.out]; simp [prStep, hx, hy]
          have E1 := Lib.hid e1
          have hx0 : 0 ≤ x := hxb.2.2.1
          have hx1 : x < 4294967296 := by have := hxb.2.2.2; simpa using this
          have hxw : IntKind.u32.wrap x = x := by rw [IntKind.wrap_u32, Int.emod_eq_of_lt hx0 hx1]
          clear hx hy hxb e1
          have hsz := HW.out.sz
          go_upto_region 23 with (fail)
          clear hcr
          go_cut [10] from 71 to 97 (fun s10 wc => s10 = .int .i64 k ∧ ∃ g c, RefW w wc w2.heap.size b a4 b4 false (.slice none 0 0) (.slice (some ⟨g, 0, none⟩) (K.length + 1) c) (.slice pD D.length cD) ⟨false, [], K ++ [x], D⟩)
          case first =>
            have Bq1d : wr.drew.cell? ⟨w2.heap.size, 2, none⟩ = some (.slice pK K.length cK) := (blk_cell HW.out.nb) 2
            go_region_law
              (first
                | (go_simp; go_at_call 79; refine (N4.out _ HW.out.drew.rd).mono ?_; rintro e B1 ⟨rfl, Bp1, Bf1⟩; have BW1 := Lib.hid (HW.out.drew.call Bp1 Bf1); have Bk1 := (blk_cell BW1.out.nb) 2; have Bk1a := (blk_cell (blk_alloc (o := .cells #[.int .u32 x] 22) BW1.out.nb)) 2; simp only [List.getElem?_toArray, List.getElem?_cons_zero, List.getElem?_cons_succ] at Bk1 Bk1a)
                | (refine step_append_lies _ (by rfl) _ _ _ (by rfl) (w2.heap.size + 1) 22 i0 _ 1 4 Tryd.underlying70 ih i1 i2 i3 rfl (by decide) (.slice pK K.length cK) K.length (K.map (Value.int .u32)) (by rfl) (BW1.out.oK.alloc _) ⟨B1.heap.size, 0, none⟩ 1 1 [.int .u32 x] (by rfl) (by rfl) (World.news_of_block (cs := #[.int .u32 x]) (t := 22) (fr := (0, 0)) (heap_alloc_new B1 _)) (by simp [Value.oneCell']) (by decide) (by simp only [maxLen]; omega) (by omega) (by have := BW1.out.sz; simp; omega) (B1.heap.size + 1) (by simp) ?_; intro Bg Bc B2 Bhown Bhgrow Bhat Bhlt; have BK2 := (BW1.out.alloc (.cells #[.int .u32 x] 22)).kept Bhgrow (fun k hk => (BW1.out.oK.lt k hk).1); have Bk2 := (blk_cell BK2.nb) 2; have Bk3 := blk_frozen BK2.nb; simp only [List.getElem?_toArray, List.getElem?_cons_zero, List.getElem?_cons_succ] at Bk2))
            all_goals
              have W5 := (Lib.hid (BW1.out.alloc (.cells #[.int .u32 x] 22))).out.appK (x := x) (by exact Bhown) Bhgrow
              clear BK2 Bk2 Bk3 Bq1d Bk1 Bk1a
              go_wp2_with fail
              go_meet
              exact ⟨rfl, Bg, Bc, W5⟩
          case rest =>
            obtain ⟨rfl, g1, c1, hcut⟩ := hcut
            have W5 := Lib.hid hcut
            clear hcut
            have hsz6 := W5.out.sz
            go_wp2_with fail
            have Fq1d : wc.drew.cell? ⟨w2.heap.size, 3, none⟩ = some (.slice pD D.length cD) := (blk_cell W5.out.nb) 3
            go_region_law
              (first
                | (go_simp; go_at_call 79; refine (N5.out _ W5.out.drew.rd).mono ?_; rintro e F1 ⟨rfl, Fp1, Ff1⟩; have FW1 := Lib.hid (W5.out.drew.call Fp1 Ff1); have Fk1 := (blk_cell FW1.out.nb) 3; have Fk1a := (blk_cell (blk_alloc (o := .cells #[.int .i64 y] 3) FW1.out.nb)) 3; simp only [List.getElem?_toArray, List.getElem?_cons_zero, List.getElem?_cons_succ] at Fk1 Fk1a)
                | (refine step_append_lies _ (by rfl) _ _ _ (by rfl) (w2.heap.size + 1) 3 j0 _ 1 8 Tryd.underlying71 jh j1 j2 j3 rfl (by decide) (.slice pD D.length cD) D.length (D.map (Value.int .i64)) (by rfl) (FW1.out.oD.alloc _) ⟨F1.heap.size, 0, none⟩ 1 1 [.int .i64 y] (by rfl) (by rfl) (World.news_of_block (cs := #[.int .i64 y]) (t := 3) (fr := (0, 0)) (heap_alloc_new F1 _)) (by simp [Value.oneCell']) (by decide) (by simp only [maxLen]; omega) (by omega) (by have := FW1.out.sz; simp; omega) (F1.heap.size + 1) (by simp) ?_; intro Fg Fc F2 Fhown Fhgrow Fhat Fhlt; have FK2 := (FW1.out.alloc (.cells #[.int .i64 y] 3)).kept Fhgrow (fun k hk => (FW1.out.oD.lt k hk).1); have Fk2 := (blk_cell FK2.nb) 3; have Fk3 := blk_frozen FK2.nb; simp only [List.getElem?_toArray, List.getElem?_cons_zero, List.getElem?_cons_succ] at Fk2))
            all_goals
              have W7 := (Lib.hid (FW1.out.alloc (.cells #[.int .i64 y] 3))).out.appD (x := y) (by exact Fhown) Fhgrow
              clear FK2 Fk2 Fk3 Fq1d Fk1 Fk1a
              go_wp2_with fail
              go_roundw
              case rel =>
                refine ⟨k + 1, by omega, by go_num, .slice (some ⟨g1, 0, none⟩) (K.length + 1) c1, .slice (some ⟨Fg, 0, none⟩) (D.length + 1) Fc, ?_⟩
                rw [E1.out]
                exact W7
              case measure => simp [intOf]; omega
        | true =>
          have HN : Hid (rdN b = (⟨false, [], K, D⟩, a, true)) := by
            show _ = _
            rw [HN0.out]
            obtain ⟨j, hj⟩ : ∃ j, C = k + j := ⟨C - k, by omega⟩
            rw [hj, hstay rfl j]
          have hno : Hid (decN b = (Nd.nil, 11)) := by show _ = _; exact decN_no' (by unfold decOk; rw [HN.out]; simp)
          have hcw := blk_cell HW.out.rd
          have hcr := blk_cell (HW.out.res)
          have hfr := blk_frozen (HW.out.res)
          have br6 := set4_blk (HW.out.res) (.bool false) (.slice none 0 0) (.slice none 0 0) (.slice none 0 0)
          have B6 := set4_below (HW.out.bel) (Nat.le_refl _) (.bool false) (.slice none 0 0) (.slice none 0 0) (.slice none 0 0)
          have s0 := blk_cell br6 0
          have s1 := blk_cell br6 1
          have s2 := blk_cell br6 2
          have s3 := blk_cell br6 3
          simp only [List.getElem?_toArray, List.getElem?_cons_zero, List.getElem?_cons_succ] at s0 s1 s2 s3
          have H6 := Lib.hid B6
          clear B6 br6
          unfold set4 at s0 s1 s2 s3 H6
          go_wp2_with fail
          exact bodyPost_ret (v := .tuple #[.agg #[.bool false, .slice none 0 0, .slice none 0 0, .slice none 0 0], .int .i64 11]) (by simp only [results, Tryd.results47]; simp [go_sem, s0, s1, s2, s3]) rfl (by rw [hno.out]; exact ⟨_, _, _, rfl, ndNil _, H6.out⟩)
      · have hi : ¬ (k : Int) < (C : Int) := by omega
        have HN : Hid (rdN b = (⟨false, [], K, D⟩, a, bad)) := by
          show _ = _
          have : C = k := by omega
          rw [HN0.out, this, HS.out]
        cases bad with
        | true =>
          have hno : Hid (decN b = (Nd.nil, 11)) := by show _ = _; exact decN_no' (by unfold decOk; rw [HN.out]; simp)
          have hcw := blk_cell HW.out.rd
          have hcr := blk_cell (HW.out.res)
          have hfr := blk_frozen (HW.out.res)
          have br6 := set4_blk (HW.out.res) (.bool false) (.slice none 0 0) (.slice none 0 0) (.slice none 0 0)
          have B6 := set4_below (HW.out.bel) (Nat.le_refl _) (.bool false) (.slice none 0 0) (.slice none 0 0) (.slice none 0 0)
          have s0 := blk_cell br6 0
          have s1 := blk_cell br6 1
          have s2 := blk_cell br6 2
          have s3 := blk_cell br6 3
          simp only [List.getElem?_toArray, List.getElem?_cons_zero, List.getElem?_cons_succ] at s0 s1 s2 s3
          have H6 := Lib.hid B6
          clear B6 br6
          unfold set4 at s0 s1 s2 s3 H6
          go_wp2_with fail
          exact bodyPost_ret (v := .tuple #[.agg #[.bool false, .slice none 0 0, .slice none 0 0, .slice none 0 0], .int .i64 11]) (by simp only [results, Tryd.results47]; simp [go_sem, s0, s1, s2, s3]) rfl (by rw [hno.out]; exact ⟨_, _, _, rfl, ndNil _, H6.out⟩)
        | false =>
          have GD := Lib.hid (fun W h => ref_Good ⟨false, [], K, D⟩ (.slice none 0 0) (.slice pK K.length cK) (.slice pD D.length cD) W h)
          have hcw := blk_cell HW.out.rd
          have hcn := blk_cell HW.out.nb
          have hN1 := Lib.hid (HW.out.nd (by simp) (by simp only; omega) (by simp only; omega))
          by_cases hat : a = (b.size : Int)
          rotate_left
          · have hno : Hid (decN b = (Nd.nil, 11)) := by show _ = _; exact decN_no' (by unfold decOk; rw [HN.out]; simp [hat])
            have hat1 : (a != (b.size : Int)) = true := by rw [bne_iff_ne]; exact hat
            have hat2 : (a == (b.size : Int)) = false := by rw [beq_eq_false_iff_ne]; exact hat
            have hcr := blk_cell (HW.out.res)
            have hfr := blk_frozen (HW.out.res)
            have br6 := set4_blk (HW.out.res) (.bool false) (.slice none 0 0) (.slice none 0 0) (.slice none 0 0)
            have B6 := set4_below (HW.out.bel) (Nat.le_refl _) (.bool false) (.slice none 0 0) (.slice none 0 0) (.slice none 0 0)
            have s0 := blk_cell br6 0
            have s1 := blk_cell br6 1
            have s2 := blk_cell br6 2
            have s3 := blk_cell br6 3
            simp only [List.getElem?_toArray, List.getElem?_cons_zero, List.getElem?_cons_succ] at s0 s1 s2 s3
            have H6 := Lib.hid B6
            clear B6 br6
            unfold set4 at s0 s1 s2 s3 H6
            go_wp2_with fail
            exact bodyPost_ret (v := .tuple #[.agg #[.bool false, .slice none 0 0, .slice none 0 0, .slice none 0 0], .int .i64 11]) (by simp only [results, Tryd.results47]; simp [go_sem, s0, s1, s2, s3]) rfl (by rw [hno.out]; exact ⟨_, _, _, rfl, ndNil _, H6.out⟩)
          have hat1 : (a != (b.size : Int)) = false := by rw [bne_eq_false_iff_eq]; exact hat
          have Hat := Lib.hid hat
          clear hat
          cases hgd : Nd.good ⟨false, [], K, D⟩ with
          | false =>
            have hno : Hid (decN b = (Nd.nil, 11)) := by show _ = _; exact decN_no' (by unfold decOk; rw [HN.out]; simp [hgd])
            rw [hgd] at GD
            clear hgd
            go_wp2_with fail
            refine (GD.out _ hN1.out).mono ?_; rintro e y1 ⟨rfl, hby⟩
            have HR1 := Lib.hid (blk_below HW.out.res hby)
            have HB1 := Lib.hid (bstep HW.out.bel hby)
            clear hby hcw hcn
            have hcr := blk_cell (HR1.out)
            have hfr := blk_frozen (HR1.out)
            have br6 := set4_blk (HR1.out) (.bool false) (.slice none 0 0) (.slice none 0 0) (.slice none 0 0)
            have B6 := set4_below (HB1.out) (Nat.le_refl _) (.bool false) (.slice none 0 0) (.slice none 0 0) (.slice none 0 0)
            have s0 := blk_cell br6 0
            have s1 := blk_cell br6 1
            have s2 := blk_cell br6 2
            have s3 := blk_cell br6 3
            simp only [List.getElem?_toArray, List.getElem?_cons_zero, List.getElem?_cons_succ] at s0 s1 s2 s3
            have H6 := Lib.hid B6
            clear B6 br6
            unfold set4 at s0 s1 s2 s3 H6
            go_wp2_with fail
            exact bodyPost_ret (v := .tuple #[.agg #[.bool false, .slice none 0 0, .slice none 0 0, .slice none 0 0], .int .i64 11]) (by simp only [results, Tryd.results47]; simp [go_sem, s0, s1, s2, s3]) rfl (by rw [hno.out]; exact ⟨_, _, _, rfl, ndNil _, H6.out⟩)
          | true =>
            have hyes : Hid (decN b = (⟨false, [], K, D⟩, 0)) := by
              show _ = _
              have h1 := (rdN_ok (b := b) (by rw [HN.out]) (by rw [HN.out]; exact hgd)).2.1
              rw [HN.out] at h1
              simp only at h1
              have h2 : Nd.size ⟨false, [], K, D⟩ ≤ 236 := by rw [← h1, Hat.out]; omega
              have h3 : decOk b = true := by unfold decOk; rw [HN.out]; simp [Hat.out, hgd, h2]
              rw [decN_yes' h3, HN.out]
            rw [hgd] at GD
            clear hgd
            go_wp2_with fail
            refine (GD.out _ hN1.out).mono ?_; rintro e y1 ⟨rfl, hby⟩
            have HR1 := Lib.hid (blk_below HW.out.res hby)
            have HB1 := Lib.hid (bstep HW.out.bel hby)
            have hcn := blk_cell (blk_below HW.out.nb hby)
            have HND := Lib.hid (HW.out.ndSet hby (by simp) (by simp only; omega) (by simp only; omega) (.bool false) (.slice none 0 0) (.slice pK K.length cK) (.slice pD D.length cD))
            clear hby hcw
            have hcr := blk_cell HR1.out
            have hfr := blk_frozen HR1.out
            have br6 := set4_blk HR1.out (.bool false) (.slice none 0 0) (.slice pK K.length cK) (.slice pD D.length cD)
            have B6 := set4_below HB1.out (Nat.le_refl _) (.bool false) (.slice none 0 0) (.slice pK K.length cK) (.slice pD D.length cD)
            have s0 := blk_cell br6 0
            have s1 := blk_cell br6 1
            have s2 := blk_cell br6 2
            have s3 := blk_cell br6 3
            simp only [List.getElem?_toArray, List.getElem?_cons_zero, List.getElem?_cons_succ] at s0 s1 s2 s3
            have H6 := Lib.hid (And.intro HND.out B6)
            clear B6 br6
            unfold set4 at s0 s1 s2 s3 H6
            go_wp2_with fail
            exact bodyPost_ret (v := .tuple #[.agg #[.bool false, .slice none 0 0, .slice pK K.length cK, .slice pD D.length cD], .int .i64 0]) (by simp only [results, Tryd.results47]; simp [go_sem, s0, s1, s2, s3]) rfl (by rw [hyes.out]; exact ⟨_, _, _, rfl, H6.out.1, H6.out.2⟩)
theorem ref_Decode (b : ByteArray) (w : World) :
    Calls Tryd.prog 47 #[.string b] w fun e w' => ∃ v1 v2 v3, e = .returned (.tuple #[.agg #[.bool (decN b).1.lf, v1, v2, v3], .int .i64 (decN b).2]) ∧ NdAt w' v1 v2 v3 (decN b).1 ∧ Below w.heap.size w w' := by
  by_cases hb : 236 < b.size
  · exact ref_Decode_long b hb w
  · have hb' : b.size ≤ 236 := by omega
    obtain ⟨k, a1, b1, h1⟩ : ∃ k a1 b1, rdR b 0 false 1 = (k, a1, b1) := ⟨_, _, _, rfl⟩
    obtain ⟨c, a2, b2, h2⟩ : ∃ c a2 b2, rdR b a1 b1 1 = (c, a2, b2) := ⟨_, _, _, rfl⟩
    by_cases k1 : k = 1
    · subst k1; exact ref_Decode_leaf b hb' a1 a2 c b1 b2 h1 h2 w
    · by_cases k2 : k = 2
      · subst k2
        obtain ⟨d, a3, b3, h3⟩ : ∃ d a3 b3, rdR b a2 b2 2 = (d, a3, b3) := ⟨_, _, _, rfl⟩
        exact ref_Decode_inner b hb' a1 a2 a3 c d b1 b2 b3 h1 h2 h3 w
      · exact ref_Decode_else b hb' k a1 a2 c b1 b2 h1 h2 k1 k2 w
end Go.Proofs.YtlpdanghcdajmaaDoor
