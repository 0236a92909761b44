/- Frames (layer 18): FrameBack. -/
import Derived.Test.YtbopppnlgicpeaaDoorFt
import Derived.Test.YtbopppnlgicpeaaDoorFq
import Derived.Deep.RegionHeld3
namespace Go.Proofs.YtbopppnlgicpeaaDoor
open Go.RowKit
theorem bel1 {B : Nat} {a W : World} (h : Below B a W ∧ B ≤ W.heap.size) : Below B a W := h.1
theorem keep_ModE (a m : Int) (hm : 0 < m) (hm1 : m < 4294967296) (w : World) :
    Calls Tryd.prog 46 #[.int .i64 a, .int .i64 m] w fun e w' => e = .returned (.int .i64 (a.tmod m % m)) ∧ w' = w := by
  have h0 : ¬ m < 1 := by omega
  have h1 : ¬ m = 0 := by omega
  have t1 : -m < a.tmod m := Int.lt_tmod_of_pos a hm
  have t2 : a.tmod m < m := Int.tmod_lt_of_pos a hm
  have t3 : 0 ≤ a.tmod m % m := Int.emod_nonneg _ h1
  have t4 : a.tmod m % m < m := Int.emod_lt_of_pos _ hm
  go_enter Tryd.func46, Tryd.ntmps46
  go_wp2_with fail
  go_ret
  exact ⟨rfl, rfl⟩
theorem strs_take {w : World} {b off c t : Nat} {l : List ByteArray} (h : StrsAt w b off l) (ht : t ≤ l.length) (hc : t ≤ c) : SlStrs w (.slice (some ⟨b, off, none⟩) t c) (l.take t) := by
  have hl : (l.take t).length = t := by rw [List.length_take]; omega
  exact .inr ⟨b, off, c, by rw [hl], by rw [hl]; exact hc, h.take t⟩
theorem strs_drop {w : World} {b off c t m : Nat} {l : List ByteArray} (h : StrsAt w b off l) (hm : m = l.length - t) (hc : m ≤ c) : SlStrs w (.slice (some ⟨b, off + t, none⟩) m c) (l.drop t) := by
  have hl : (l.drop t).length = m := by rw [List.length_drop]; omega
  exact .inr ⟨b, off + t, c, by rw [hl], by rw [hl]; exact hc, h.drop t⟩
theorem strs_dropE {w : World} {b off c t m : Nat} {l : List ByteArray} (_h : StrsAt w b off l) (ht : l.length ≤ t) (hm : m = l.length - t) : SlStrs w (.slice (some ⟨b, off, none⟩) m c) (l.drop t) := by
  obtain rfl : m = 0 := by omega
  rw [List.drop_of_length_le ht]
  exact .inr ⟨b, off, c, rfl, Nat.zero_le _, ⟨fun h => absurd rfl h, fun i h => absurd h (by simp)⟩⟩
theorem row_set {W : World} {B g k c t : Nat} {e : TypeId} {l : List ByteArray} (h : W.ownsRow B e 1 (.slice (some ⟨g, 0, none⟩) k c) k (l.map Value.string)) (hl : l.length = k) (ht : t < k) (Y : ByteArray) :
    SlStrs (W.setCell ⟨g, t, none⟩ (.string Y)) (.slice (some ⟨g, 0, none⟩) k c) (l.set t Y) ∧ W.frozen? ⟨g, t, none⟩ = false ∧ ∃ u, W.cell? ⟨g, t, none⟩ = some (.string u) := by
  have hc : ∀ j (hj : j < l.length), W.cell? ⟨g, j, none⟩ = some (.string l[j]) := fun j hj => row_cellS h rfl (by rw [List.getElem?_map, List.getElem?_eq_getElem hj]; rfl)
  have ht' : t < l.length := by omega
  rcases h.2 with ⟨h6, _⟩ | ⟨g', c', cur, h6, hb, hg, hn, _⟩
  · exact absurd h6 (by simp)
  · injection h6 with e1 e2 e3
    injection e1 with e1
    injection e1 with e4 e5 e6
    subst e4 e3
    refine ⟨.inr ⟨g, 0, c, by rw [List.length_set, hl], by rw [List.length_set, hl]; exact hn, ⟨fun _ => by simp [World.setCell]; exact blk_lt hg, fun i hi => ?_⟩⟩, blk_frozen hg _, _, hc t ht'⟩
    rw [List.length_set] at hi
    rw [Nat.zero_add, List.getElem_set]
    by_cases hti : t = i
    · subst hti
      rw [if_pos rfl]
      exact World.cell?_setCell_same _ _ _ (hc t ht')
    · rw [if_neg hti, World.cell?_setCell_other _ _ _ _ (by intro e; injection e with _ e2 _; exact hti e2)]
      exact hc i hi
theorem strs_ofN {w : World} {base n : Nat} {e : TypeId} {v : Value} {l : List ByteArray} (hn : n = l.length) (h : w.ownsRow base e 1 v n (l.map Value.string)) : SlStrs w v l := by subst hn; exact SlStrs.of_own h
set_option maxRecDepth 100000 in
set_option maxHeartbeats 8000000 in
theorem law18_FrameBack (n : Int) (S : ByteArray) (x y : Int) (n0 : 0 ≤ n) (n1 : n < 4294967296) (_hS : S.size ≤ 140737488351232) (_x0 : -9223372036854775808 ≤ x) (_x1 : x < 9223372036854775808) (_y0 : -9223372036854775808 ≤ y) (_y1 : y < 9223372036854775808) (a0 a1 a2 : Addr) (w : World) (hw : FrW w a0 a1 a2) :
    Calls Tryd.prog 9 #[.int .u32 n, .string S, .agg #[.int .i64 x, .int .i64 y]] w fun e w' => e = .returned (.bool true) ∧ Below w.heap.size w w' := by
  have WK := Lib.hid (fun W h => wakes18 a0 a1 a2 W h)
  obtain ⟨w0, hw0⟩ : ∃ w0, w0 = w.alloc (.cells #[.int .i64 x, .int .i64 y] 75) := ⟨_, rfl⟩
  have B0 : Hid (Below w.heap.size w w0) := by show Below _ _ _; rw [hw0]; exact below_a1 _ _
  have bx : Hid (w0.heap[w.heap.size]? = some (.cells #[.int .i64 x, .int .i64 y] 75 (0, 0))) := by show _ = _; rw [hw0]; exact blk_new _ _
  have HW := Lib.hid (hw.below B0.out)
  clear hw
  by_cases c0 : 3000 < S.size
  · have d0 : (3000 : Int) < (S.size : Int) := by omega
    go_enter Tryd.func9, Tryd.ntmps9
    go_upto_region 1 with (fail)
    rw [← hw0]; clear hw0
    go_wp2_with fail
    refine (WK.out _ HW.out).mono ?_; rintro e w1 ⟨rfl, hb1⟩
    have B1 := Lib.hid (bstep B0.out hb1)
    clear hb1
    go_wp2_with fail
    go_ret
    exact ⟨rfl, B1.out⟩
  have d0 : ¬ (3000 : Int) < (S.size : Int) := by omega
  have MK := Lib.hid (frame_Make n n0 n1 S (by omega) w0 HW.out.et HW.out.tbl)
  by_cases c1 : n = 0 ∨ 2000 < S.size
  · obtain ⟨c, hc, hc0⟩ : ∃ c : Int, makeF n S.data.toList = ([], c) ∧ (c != 0) = true := by
      unfold makeF
      by_cases z : n = 0
      · exact ⟨1, by rw [if_pos z], rfl⟩
      · exact ⟨2, by rw [if_neg z, if_pos (by rw [size_list]; omega)], rfl⟩
    rw [hc] at MK
    clear hc c1
    go_enter Tryd.func9, Tryd.ntmps9
    go_upto_region 1 with (fail)
    rw [← hw0]; clear hw0
    go_wp2_with fail
    refine MK.out.mono ?_; rintro e w1 ⟨v, rfl, hv, hb1⟩
    have B1 := Lib.hid (bstep B0.out hb1)
    have W1 := Lib.hid (HW.out.below hb1)
    obtain ⟨p, cp, rfl, hcp⟩ := hv.form
    clear hb1 hv
    go_wp2_with fail
    refine (WK.out _ W1.out).mono ?_; rintro e w2 ⟨rfl, hb2⟩
    have B2 := Lib.hid (bstep B1.out hb2)
    clear hb2
    go_wp2_with fail
    go_ret
    exact ⟨rfl, B2.out⟩
  have hn0 : n ≠ 0 := fun h => c1 (.inl h)
  have hs : S.data.toList.length ≤ 2000 := by rw [size_list]; omega
  rw [makeF_ok hn0 hs] at MK
  obtain ⟨k, hk⟩ : ∃ k, k = szN S.data.toList.length := ⟨_, rfl⟩
  have hkp : 0 < k := by rw [hk]; exact sz_pos _
  have hk9 : k ≤ 9 := by rw [hk]; exact sz_le hs
  obtain ⟨L, hL⟩ : ∃ L, L = (secsF n S.data.toList).map ofL := ⟨_, rfl⟩
  have hLk : L.length = k := by rw [hL, List.length_map, secsF_length, hk]
  dsimp only at MK
  rw [← hL] at MK
  have SZ := Lib.hid (fun W => ref18_Size (S.size : Int) W)
  rw [sizeF_nat (by omega), ← size_list, ← hk] at SZ
  have RE := Lib.hid (fun q => back_ext (s := S.data.toList) (by omega : 0 < n) n1 hs q)
  have RS := Lib.hid (fun t ht => back_short (n := n) (s := S.data.toList) hs (t := t) ht)
  rw [← hL, ← hk] at RE RS
  have SI : Hid (ofL S.data.toList = S) := ofL_of S
  have HL := Lib.hid hL; have HLk := Lib.hid hLk; have Hk := Lib.hid hk; have Hs := Lib.hid hs
  have b1 : ((k : Int) != (k : Int)) = false := by simp
  have b2 : ((k : Int) == 0) = false := by rw [beq_eq_false_iff_ne]; omega
  have b3 : (0 : Int) < (k : Int) := by omega
  clear hL hLk hk hs c0 c1
  go_enter Tryd.func9, Tryd.ntmps9
  go_upto_region 1 with (fail)
  rw [← hw0]; clear hw0
  go_wp2_with fail
  refine MK.out.mono ?_; rintro e w3 ⟨v, rfl, hv, hb3⟩
  have B3 := Lib.hid (bstep B0.out hb3)
  have W3 := Lib.hid (HW.out.below hb3)
  have bx3 := Lib.hid (blk_below bx.out hb3)
  obtain ⟨p, cp, rfl, hcp⟩ := hv.form
  obtain ⟨bv, ov, rfl, hS⟩ := hv.atN rfl (k := 0) (by rw [HLk.out]; exact hkp)
  obtain ⟨A, hA⟩ : ∃ A, A = L[0]'(by rw [HLk.out]; exact hkp) := ⟨_, rfl⟩
  have C3 : Hid (w3.cell? ⟨bv, ov, none⟩ = some (.string A)) := by
    have := hS.at' 0 (by rw [HLk.out]; exact hkp)
    rw [hA]; exact this
  have HS3 := Lib.hid hv
  rw [HLk.out] at HS3 hcp ⊢
  have HST := Lib.hid hS
  clear hb3 hv hA hS
  go_wp2_with fail
  refine (SZ.out _).mono ?_; rintro e w4 ⟨rfl, rfl⟩
  go_wp2_with fail
  have Bd : Hid (Below w3.heap.size w3 w3 ∧ w3.heap.size ≤ w3.heap.size) := ⟨Below.refl _ _, Nat.le_refl _⟩
  obtain ⟨i0, ih, i1, i2, i3⟩ := info_parts Tryd.info9
  have RD := Lib.hid (fun v W h1 h2 => frame_Read v (L ++ [A, ⟨#[]⟩]) (by simp; have := HLk.out; omega) a0 a1 a2 W h1 h2)
  rw [RE.out [A, ⟨#[]⟩]] at RD
  dsimp only [ReadQ] at RD
  rw [SI.out] at RD
  have hL2 : Hid (k + 2 = (L ++ [A, ⟨#[]⟩]).length) := by show _ = _; simp; have := HLk.out; omega
  go_upto_region 8 with (fail)
  go_cut [9, 10, 11, 12] (fun s9 s10 s11 s12 wc => s9 = .string S ∧ s10 = .int .u32 n ∧ s11 = .int .i64 k ∧ s12 = .bool true ∧ Below w3.heap.size w3 wc)
  case first =>
    have hLk := HLk.out
    go_region_held3 (fun w' => w'.cell? ⟨bv, ov, none⟩ = some (.string A)) (first | (refine cell_below C3.out ?_; refine bel1 ?_; repeat (first | exact FB.out | exact EB.out | exact CB.out | exact Bd.out | refine bdr ?_ | refine bal ?_ _)))
      (first
        | (go_at_call 45; refine (RD.out _ _ (W3.out.below (bel1 (by repeat (first | exact FB.out | exact EB.out | exact CB.out | exact Bd.out | refine bdr ?_ | refine bal ?_ _)))) (strs_ofN hL2.out hO2)).mono ?_; rintro e y3 ⟨he, hy3⟩; obtain rfl : e = _ := he; have FB : Hid (Below w3.heap.size w3 y3 ∧ w3.heap.size ≤ y3.heap.size) := bbl (by repeat (first | exact FB.out | exact EB.out | exact CB.out | exact Bd.out | refine bdr ?_ | refine bal ?_ _)) hy3; clear hy3)
        | (refine step_append_strs (by rfl) _ _ _ (by rfl) 9 i0 _ Tryd.underlying60 ih i1 i2 i3 (by decide) w3.heap.size g1 k _ L (by rfl) (by repeat (first | exact hO1 | refine row_kA ?_ _)) _ (by rfl) [A, ⟨#[]⟩] (by refine strs_two (e := 9) ?_; show (_ : World).heap[_]? = some (Obj.cells #[.string A, .string ⟨#[]⟩] 9 (0, 0)); repeat (first | (with_reducible refine kD ?_) | (with_reducible refine kG1 hg2 ?_ (by first | omega | (simp; done) | (simp; omega)) (by omega)) | (with_reducible refine kG1 hg1 ?_ (by first | omega | (simp; done) | (simp; omega)) (by omega)) | (with_reducible exact kN _ (by first | omega | (simp; done) | (simp; omega))) | (with_reducible refine kA ?_ (by first | omega | (simp; done) | (simp; omega)) _))) (by first | omega | (simp; done) | (simp; omega)) (by first | omega | (simp; done) | (simp; omega)) (bel2 w3 (by repeat (first | exact FB.out | exact EB.out | exact CB.out | exact Bd.out | refine bdr ?_ | refine bal ?_ _))) (k + 2) (by first | omega | (simp; done) | (simp; omega)) (L ++ [A, ⟨#[]⟩]) (by first | rfl | (simp; done)) ?_; intro g2 c2 x2 hO2 hg2 ha2; have EB : Hid (Below w3.heap.size w3 x2 ∧ w3.heap.size ≤ x2.heap.size) := bgr (by repeat (first | exact FB.out | exact EB.out | exact CB.out | exact Bd.out | refine bdr ?_ | refine bal ?_ _)) hg2 (by omega); have s2 := hg2.size; have q2 := hO2.lt g2 rfl; (try simp at ha2); (try simp at s2))
        | (refine step_append_strs (by rfl) _ _ _ (by rfl) 9 i0 _ Tryd.underlying60 ih i1 i2 i3 (by decide) w3.heap.size _ 0 0 [] (by rfl) (row_s0 (by first | omega | (simp; done) | (simp; omega)) (by repeat (first | (with_reducible refine kD ?_) | (with_reducible refine kG1 hg2 ?_ (by first | omega | (simp; done) | (simp; omega)) (by omega)) | (with_reducible refine kG1 hg1 ?_ (by first | omega | (simp; done) | (simp; omega)) (by omega)) | (with_reducible exact kN _ (by first | omega | (simp; done) | (simp; omega))) | (with_reducible refine kA ?_ (by first | omega | (simp; done) | (simp; omega)) _)))) _ (by rfl) L (HS3.out.below (bel1 (by repeat (first | exact FB.out | exact EB.out | exact CB.out | exact Bd.out | refine bdr ?_ | refine bal ?_ _)))) (by first | omega | (simp; done) | (simp; omega)) (by first | omega | (simp; done) | (simp; omega)) (bel2 w3 (by repeat (first | exact FB.out | exact EB.out | exact CB.out | exact Bd.out | refine bdr ?_ | refine bal ?_ _))) k (by first | omega | (simp; done) | (simp; omega)) L (by first | rfl | (simp; done)) ?_; intro g1 c1 x1 hO1 hg1 ha1; have CB : Hid (Below w3.heap.size w3 x1 ∧ w3.heap.size ≤ x1.heap.size) := bgr (by repeat (first | exact FB.out | exact EB.out | exact CB.out | exact Bd.out | refine bdr ?_ | refine bal ?_ _)) hg1 (by first | omega | (simp; done) | (simp; omega)); have s1 := hg1.size; have q1 := hO1.lt g1 rfl; (try simp at ha1); (try simp at s1)))
    all_goals
      go_wp2_with fail
      go_meet
      exact ⟨rfl, rfl, rfl, rfl, FB.out.1⟩
  case rest =>
  obtain ⟨rfl, rfl, rfl, rfl, hbc⟩ := hcut
  have BC := Lib.hid hbc
  have BWC := Lib.hid (bstep B3.out hbc)
  have WC := Lib.hid (W3.out.below hbc)
  have bxc := Lib.hid (blk_below bx3.out hbc)
  clear RD hL2 C3 hbc
  have q1 : (S.toList == S.toList) = true := by simp
  have q2 : (n != n) = false := by simp
  have hcx := blk_cell bxc.out
  obtain ⟨t, ht⟩ : ∃ t : Nat, (t : Int) = x.tmod (k : Int) % (k : Int) := ⟨(x.tmod (k : Int) % (k : Int)).toNat, Int.toNat_of_nonneg (Int.emod_nonneg _ (by omega))⟩
  have htk : t < k := by have := Int.emod_lt_of_pos (x.tmod (k : Int)) (b := (k : Int)) (by omega); omega
  obtain ⟨p, hp⟩ : ∃ p : Nat, (p : Int) = y.tmod 1000 % 1000 := ⟨(y.tmod 1000 % 1000).toNat, Int.toNat_of_nonneg (Int.emod_nonneg _ (by omega))⟩
  have hpk : p < 1000 := by omega
  obtain ⟨m, hm⟩ : ∃ m : Int, m = (n + 1) % 4294967296 := ⟨_, rfl⟩
  obtain ⟨o, ho⟩ : ∃ o : Int, o = (m + (p : Int)) % 4294967296 := ⟨_, rfl⟩
  have MX := Lib.hid (fun W => keep_ModE x (k : Int) (by omega) (by omega) W)
  have MY := Lib.hid (fun W => keep_ModE y 1000 (by omega) (by omega) W)
  rw [← ht] at MX
  rw [← hp] at MY
  have o0 : 0 ≤ o := by omega
  have o1 : o < 4294967296 := by omega
  have e1 : IntKind.u32.wrap (n + 1) = m := by rw [IntKind.wrap_u32, hm]
  have e2 : IntKind.u32.wrap (m + (p : Int)) = o := by rw [IntKind.wrap_u32, ho]
  have e3 : IntKind.u32.wrap (p : Int) = (p : Int) := by rw [IntKind.wrap_u32]; omega
  have e4 : (p : Int) % 4294967296 = (p : Int) := by omega
  have e5 : (n + 1) % 4294967296 = m := hm.symm
  have e6 : (m + (p : Int)) % 4294967296 = o := ho.symm
  clear ht hp hm ho
  have c0 : wc.cell? ⟨w.heap.size, 0, none⟩ = some (.int .i64 x) := hcx 0
  have c1 : wc.cell? ⟨w.heap.size, 1, none⟩ = some (.int .i64 y) := hcx 1
  clear hcx
  go_upto_region 11 with (fail)
  go_quiet (first | (go_at_call_of 46 (Value.int IntKind.i64 x); exact Calls.quiet_of_same (MX.out _)) | (go_at_call_of 46 (Value.int IntKind.i64 y); exact Calls.quiet_of_same (MY.out _)))
  have BN : Hid (Below w3.heap.size w3 (wc.drewN nq)) := BC.out.trans ((below_dN wc nq).mono BC.out.size)
  generalize wc.drewN nq = wd at BN ⊢
  clear c0 c1 e1 e2 e3 e4 e5 e6 BC BWC WC bxc
  have W4 := Lib.hid (W3.out.below BN.out)
  have BN3 := Lib.hid (bstep B3.out BN.out)
  have HSN := Lib.hid (HST.out.below BN.out)
  have hL3 : Hid (k - 1 = (L.take t ++ L.drop (t + 1)).length) := by show _ = _; rw [List.length_append, List.length_take, List.length_drop]; have := HLk.out; omega
  have t0 : (0 : Int) ≤ (t : Int) := by omega
  have t1 : (t : Int) ≤ (k : Int) := by omega
  have t2 : (t : Int) ≤ (cp : Int) := by omega
  have t3 : IntKind.i64.wrap ((t : Int) + 1) = (t : Int) + 1 := IntWalk.i64_in _ (by omega)
  have t4 : (0 : Int) ≤ (t : Int) + 1 := by omega
  have t5 : ((t : Int) + 1).toNat = t + 1 := by omega
  have t6 : (t : Int) + 1 ≤ (k : Int) := by omega
  have t7 : (k : Int) ≤ (cp : Int) := by omega
  have hLk := HLk.out
  have sz5 : w3.heap.size ≤ wd.heap.size := BN.out.size
  have HT : Hid (SlStrs w3 (.slice (some ⟨bv, ov, none⟩) t cp) (L.take t)) := strs_take HST.out (by omega) (by omega)
  go_upto_region 12 with (fail)
  go_cut [15] (fun s15 wc => ∃ g c, s15 = .slice (some ⟨g, 0, none⟩) (k - 1) c ∧ SlStrs wc (.slice (some ⟨g, 0, none⟩) (k - 1) c) (L.take t ++ L.drop (t + 1)) ∧ Below w3.heap.size w3 wc)
  case first =>
    by_cases hc : cp = t + 1
    · obtain rfl : k = t + 1 := by omega
      subst hc
      have t8 : (t : Int) ≤ (t : Int) + 1 := by omega
      have HD : Hid (∀ c, SlStrs w3 (.slice (some ⟨bv, ov, none⟩) 0 c) (L.drop (t + 1))) := fun c => strs_dropE HST.out (by omega) (by omega)
      have Bd : Hid (Below w3.heap.size w3 wd ∧ w3.heap.size ≤ wd.heap.size) := ⟨BN.out, BN.out.size⟩
      go_region_held3 (fun _ => True) (trivial)
        (first
          | (refine step_append_strs (by rfl) _ _ _ (by rfl) 9 i0 _ Tryd.underlying60 ih i1 i2 i3 (by decide) w3.heap.size g1 t _ (L.take t) (by rfl) (by repeat (first | exact hO1 | refine row_kA ?_ _)) _ (by rfl) (L.drop (t + 1)) ((HD.out _).below (bel1 (by repeat (first | exact FB.out | exact EB.out | exact CB.out | exact Bd.out | refine bdr ?_ | refine bal ?_ _)))) (by first | omega | (simp; done) | (simp; omega)) (by first | omega | (simp; done) | (simp; omega)) (bel2 w3 (by repeat (first | exact FB.out | exact EB.out | exact CB.out | exact Bd.out | refine bdr ?_ | refine bal ?_ _))) t (by first | omega | (simp; done) | (simp; omega)) (L.take t ++ L.drop (t + 1)) (by first | rfl | (simp; done)) ?_; intro g2 c2 x2 hO2 hg2 ha2; have EB : Hid (Below w3.heap.size w3 x2 ∧ w3.heap.size ≤ x2.heap.size) := bgr (by repeat (first | exact FB.out | exact EB.out | exact CB.out | exact Bd.out | refine bdr ?_ | refine bal ?_ _)) hg2 (by omega); have s2 := hg2.size; have q2 := hO2.lt g2 rfl; (try simp at ha2); (try simp at s2))
          | (refine step_append_strs (by rfl) _ _ _ (by rfl) 9 i0 _ Tryd.underlying60 ih i1 i2 i3 (by decide) w3.heap.size _ 0 0 [] (by rfl) (row_s0 (by first | omega | (simp; done) | (simp; omega)) (by repeat (first | (with_reducible refine kD ?_) | (with_reducible refine kG1 hg2 ?_ (by first | omega | (simp; done) | (simp; omega)) (by omega)) | (with_reducible refine kG1 hg1 ?_ (by first | omega | (simp; done) | (simp; omega)) (by omega)) | (with_reducible exact kN _ (by first | omega | (simp; done) | (simp; omega))) | (with_reducible refine kA ?_ (by first | omega | (simp; done) | (simp; omega)) _)))) _ (by rfl) (L.take t) (HT.out.below (bel1 (by repeat (first | exact FB.out | exact EB.out | exact CB.out | exact Bd.out | refine bdr ?_ | refine bal ?_ _)))) (by first | omega | (simp; done) | (simp; omega)) (by first | omega | (simp; done) | (simp; omega)) (bel2 w3 (by repeat (first | exact FB.out | exact EB.out | exact CB.out | exact Bd.out | refine bdr ?_ | refine bal ?_ _))) t (by first | omega | (simp; done) | (simp; omega)) (L.take t) (by first | rfl | (simp; done)) ?_; intro g1 c1 x1 hO1 hg1 ha1; have CB : Hid (Below w3.heap.size w3 x1 ∧ w3.heap.size ≤ x1.heap.size) := bgr (by repeat (first | exact FB.out | exact EB.out | exact CB.out | exact Bd.out | refine bdr ?_ | refine bal ?_ _)) hg1 (by first | omega | (simp; done) | (simp; omega)); have s1 := hg1.size; have q1 := hO1.lt g1 rfl; (try simp at ha1); (try simp at s1)))
      go_wp2_with fail
      go_meet
      exact ⟨g2, c2, rfl, strs_ofN hL3.out hO2, EB.out.1⟩
    · have HD : Hid (SlStrs w3 (.slice (some ⟨bv, ov + (t + 1), none⟩) (k - (t + 1)) (cp - (t + 1))) (L.drop (t + 1))) := strs_drop HST.out (by omega) (by omega)
      have Bd : Hid (Below w3.heap.size w3 wd ∧ w3.heap.size ≤ wd.heap.size) := ⟨BN.out, BN.out.size⟩
      go_region_held3 (fun _ => True) (trivial)
        (first
          | (refine step_append_strs (by rfl) _ _ _ (by rfl) 9 i0 _ Tryd.underlying60 ih i1 i2 i3 (by decide) w3.heap.size g1 t _ (L.take t) (by rfl) (by repeat (first | exact hO1 | refine row_kA ?_ _)) _ (by rfl) (L.drop (t + 1)) (HD.out.below (bel1 (by repeat (first | exact FB.out | exact EB.out | exact CB.out | exact Bd.out | refine bdr ?_ | refine bal ?_ _)))) (by first | omega | (simp; done) | (simp; omega)) (by first | omega | (simp; done) | (simp; omega)) (bel2 w3 (by repeat (first | exact FB.out | exact EB.out | exact CB.out | exact Bd.out | refine bdr ?_ | refine bal ?_ _))) (k - 1) (by first | omega | (simp; done) | (simp; omega)) (L.take t ++ L.drop (t + 1)) (by first | rfl | (simp; done)) ?_; intro g2 c2 x2 hO2 hg2 ha2; have EB : Hid (Below w3.heap.size w3 x2 ∧ w3.heap.size ≤ x2.heap.size) := bgr (by repeat (first | exact FB.out | exact EB.out | exact CB.out | exact Bd.out | refine bdr ?_ | refine bal ?_ _)) hg2 (by omega); have s2 := hg2.size; have q2 := hO2.lt g2 rfl; (try simp at ha2); (try simp at s2))
          | (refine step_append_strs (by rfl) _ _ _ (by rfl) 9 i0 _ Tryd.underlying60 ih i1 i2 i3 (by decide) w3.heap.size _ 0 0 [] (by rfl) (row_s0 (by first | omega | (simp; done) | (simp; omega)) (by repeat (first | (with_reducible refine kD ?_) | (with_reducible refine kG1 hg2 ?_ (by first | omega | (simp; done) | (simp; omega)) (by omega)) | (with_reducible refine kG1 hg1 ?_ (by first | omega | (simp; done) | (simp; omega)) (by omega)) | (with_reducible exact kN _ (by first | omega | (simp; done) | (simp; omega))) | (with_reducible refine kA ?_ (by first | omega | (simp; done) | (simp; omega)) _)))) _ (by rfl) (L.take t) (HT.out.below (bel1 (by repeat (first | exact FB.out | exact EB.out | exact CB.out | exact Bd.out | refine bdr ?_ | refine bal ?_ _)))) (by first | omega | (simp; done) | (simp; omega)) (by first | omega | (simp; done) | (simp; omega)) (bel2 w3 (by repeat (first | exact FB.out | exact EB.out | exact CB.out | exact Bd.out | refine bdr ?_ | refine bal ?_ _))) t (by first | omega | (simp; done) | (simp; omega)) (L.take t) (by first | rfl | (simp; done)) ?_; intro g1 c1 x1 hO1 hg1 ha1; have CB : Hid (Below w3.heap.size w3 x1 ∧ w3.heap.size ≤ x1.heap.size) := bgr (by repeat (first | exact FB.out | exact EB.out | exact CB.out | exact Bd.out | refine bdr ?_ | refine bal ?_ _)) hg1 (by first | omega | (simp; done) | (simp; omega)); have s1 := hg1.size; have q1 := hO1.lt g1 rfl; (try simp at ha1); (try simp at s1)))
      go_wp2_with fail
      go_meet
      exact ⟨g2, c2, rfl, strs_ofN hL3.out hO2, EB.out.1⟩
  case rest =>
  obtain ⟨g, c, rfl, hsh, hbc⟩ := hcut
  have B5 := Lib.hid (bstep B3.out hbc)
  have W5 := Lib.hid (W3.out.below hbc)
  have BC5 := Lib.hid hbc
  have RS5 := Lib.hid (frame_Read _ _ (by rw [← hL3.out]; omega) a0 a1 a2 _ W5.out hsh)
  rw [RS.out t htk] at RS5
  dsimp only [ReadQ] at RS5
  clear hbc hsh HT t2 t3 t4 t5 BN W4 BN3 HSN
  go_wp2_with fail
  refine RS5.out.mono ?_; rintro e w6 ⟨he, hb6⟩
  obtain rfl : e = _ := he
  have B6 := Lib.hid (bstep B5.out hb6)
  have BC6 := Lib.hid (BC5.out.trans (hb6.mono BC5.out.size))
  have W6 := Lib.hid (W5.out.below hb6)
  clear hb6 RS5
  by_cases co : o = 0 ∨ o = n
  · have hq : ((o == 0) = true) ∨ ((o == 0) = false ∧ (o == n) = true) := by
      simp only [beq_iff_eq, beq_eq_false_iff_ne]; omega
    rcases hq with q3 | ⟨q3, q4⟩
    all_goals
      go_wp2_with fail
      refine (WK.out _ W6.out).mono ?_; rintro e w7 ⟨rfl, hb7⟩
      have B7 := Lib.hid (bstep B6.out hb7)
      clear hb7
      go_wp2_with fail
      go_ret
      exact ⟨rfl, B7.out⟩
  have q3 : (o == 0) = false := by rw [beq_eq_false_iff_ne]; omega
  have q4 : (o == n) = false := by rw [beq_eq_false_iff_ne]; omega
  have hno : o ≠ n := fun h => co (.inr h)
  have hno0 : o ≠ 0 := fun h => co (.inl h)
  have MO := Lib.hid (frame_Make o o0 o1 S (by omega) w6 W6.out.et W6.out.tbl)
  rw [makeF_ok hno0 Hs.out] at MO
  obtain ⟨M, hM⟩ : ∃ M, M = (secsF o S.data.toList).map ofL := ⟨_, rfl⟩
  have hMk : M.length = k := by rw [hM, List.length_map, secsF_length, ← Hk.out]
  dsimp only at MO
  rw [← hM] at MO
  have HM := Lib.hid hM; have HMk := Lib.hid hMk
  clear hM hMk co
  go_wp2_with fail
  refine MO.out.mono ?_; rintro e w7 ⟨u, rfl, hu, hb7⟩
  have B7 := Lib.hid (bstep B6.out hb7)
  have BC7 := Lib.hid (BC6.out.trans (hb7.mono BC6.out.size))
  have W7 := Lib.hid (W6.out.below hb7)
  obtain ⟨pu, cu, rfl, hcu⟩ := hu.form
  obtain ⟨bu, ou, rfl, hsu⟩ := hu.atN rfl (k := t) (by rw [HMk.out]; exact htk)
  obtain ⟨Y, hY⟩ : ∃ Y, Y = M[t]'(by rw [HMk.out]; exact htk) := ⟨_, rfl⟩
  have cY := hsu.at' t (by rw [HMk.out]; exact htk)
  rw [← hY] at cY
  rw [HMk.out] at hcu ⊢
  have hYM : Hid (M[t]? = some Y) := by show _ = _; rw [hY]; exact List.getElem?_eq_getElem _
  have b5 : (t : Int) < (k : Int) := by omega
  have b6 : (0 : Int) ≤ (t : Int) := by omega
  have HLA : Hid (SlStrs (w7.alloc (.cells #[] 9)) (.slice (some ⟨bv, ov, none⟩) k cp) L) := HS3.out.below (BC7.out.alloc BC7.out.size _)
  have HcY := Lib.hid cY
  clear hb7 hu hsu hY cY
  go_upto_region 21 with (fail)
  go_wp2_with (at_builtin; refine wpList_append_strs rfl _ _ _ rfl 9 i0 _ Tryd.underlying60 ih i1 i2 i3 (by decide) w7.heap.size w7.heap.size 0 0 [] rfl (row_s0 (Nat.le_refl _) (kN _ rfl)) _ rfl L HLA.out (by omega) (by omega) (by simp) k (by omega) L rfl ?_; intro gg cc w8 hO hg8 hgg; obtain ⟨hSl, hfz, u8, hu8⟩ := row_set hO HLk.out htk Y; have B78 := bgr (a := w7) ⟨below_a1 w7 (.cells #[] 9), by simp⟩ hg8 (Nat.le_refl _); have cY8 : w8.cell? ⟨bu, ou + t, none⟩ = some (.string Y) := cell_below HcY.out B78.1; have B9 := Lib.hid (B78.1.setCell (p := ⟨gg, t, none⟩) (hO.lt gg rfl).1 (.string Y)); have W9 := Lib.hid (W7.out.below B9.out); have HSl := Lib.hid hSl; clear hO hg8 hgg hSl B78)
  have R9 := Lib.hid (frame_Read _ _ (by rw [List.length_set, HLk.out]; omega) a0 a1 a2 _ W9.out HSl.out)
  by_cases hk1 : k = 1
  · have e1 : readF (LL (L.set t Y)) = some (S.data.toList, o, 1) := by
      have h := hYM.out
      obtain rfl : t = 0 := by omega
      rw [HL.out]
      rw [HM.out] at h
      exact back_one (by omega) o1 Hs.out (by rw [← Hk.out]; exact hk1) h
    rw [e1] at R9
    dsimp only [ReadQ] at R9
    have q8 : ((k : Int) == 1) = true := by rw [hk1]; rfl
    clear hk1 e1
    refine R9.out.mono ?_; rintro e w9 ⟨he, hb9⟩
    obtain rfl : e = _ := he
    have B10 := Lib.hid (bstep (bstep B7.out B9.out) hb9)
    have W10 := Lib.hid (W9.out.below hb9)
    clear hb9
    go_wp2_with fail
    refine (WK.out _ W10.out).mono ?_; rintro e w11 ⟨rfl, hb11⟩
    have B11 := Lib.hid (bstep B10.out hb11)
    clear hb11
    go_wp2_with fail
    go_ret
    exact ⟨rfl, B11.out⟩
  · have e1 : readF (LL (L.set t Y)) = none := by
      have h := hYM.out
      rw [HL.out]
      rw [HM.out] at h
      exact back_mixed n0 n1 o0 o1 hno Hs.out (by rw [← Hk.out]; exact htk) (by rw [← Hk.out]; exact hk1) h
    rw [e1] at R9
    dsimp only [ReadQ] at R9
    have q8 : ((k : Int) == 1) = false := by rw [beq_eq_false_iff_ne]; omega
    clear hk1 e1
    refine R9.out.mono ?_; rintro e w9 ⟨he, hb9⟩
    obtain rfl : e = _ := he
    have B10 := Lib.hid (bstep (bstep B7.out B9.out) hb9)
    have W10 := Lib.hid (W9.out.below hb9)
    clear hb9
    go_wp2_with fail
    refine (WK.out _ W10.out).mono ?_; rintro e w11 ⟨rfl, hb11⟩
    have B11 := Lib.hid (bstep B10.out hb11)
    clear hb11
    go_wp2_with fail
    go_ret
    exact ⟨rfl, B11.out⟩
end Go.Proofs.YtbopppnlgicpeaaDoor
