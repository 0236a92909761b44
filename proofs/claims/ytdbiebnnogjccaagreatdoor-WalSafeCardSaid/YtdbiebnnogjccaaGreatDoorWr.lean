/- The log (layer 21): the law WalSafe. -/
import Derived.Test.YtdbiebnnogjccaaGreatDoorWh
import Derived.Test.YtdbiebnnogjccaaGreatDoorOpw
import Derived.Test.YtdbiebnnogjccaaGreatDoorFs
namespace Go.Proofs.YtdbiebnnogjccaaGreatDoor
open Go.RowKit
theorem SlStrs.frN {S : Nat → Prop} {w w' : World} {v : Value} {l : List ByteArray} (h : SlStrs w v l) (hf : Fr S w w') (hs : ∀ b off n c, v = .slice (some ⟨b, off, none⟩) n c → ¬ S b) : SlStrs w' v l := by
  rcases h with h | ⟨b, off, cap, e, hc, h⟩
  · exact .inl h
  · exact .inr ⟨b, off, cap, e, hc, h.fr hf fun _ => hs _ _ _ _ e⟩
theorem may_few {x : Wl} {lg : Nat} {s : ByteArray} (hd : x.dead = false) (hs : s.size ≤ 2000) : x.may lg s = 0 ∨ x.may lg s = 73 := by
  unfold Wl.may
  rw [if_neg (by rw [hd]; decide), if_neg (by omega)]
  split
  · exact .inr rfl
  · exact .inl rfl
set_option maxRecDepth 100000 in
set_option maxHeartbeats 40000000 in
theorem law21_WalSafe (vr : Value) (Rs : List (List ByteArray)) (vs : Value) (Ss : List Int) (vk : Value) (Ks : List (List (Int × Int))) (a0 a1 a2 aD aA bD bL bF : Addr) (w : World) (hlr : Rs.length ≤ 9223372036854775807) (_htr : ∀ x ∈ Rs, x.length ≤ 9223372036854775807) (hvr : SlN SlX w vr Rs) (hls : Ss.length ≤ 9223372036854775807) (hts : ∀ x ∈ Ss, 0 ≤ x ∧ x < 256) (hvs : SlU8 w vs Ss) (hlk : Ks.length ≤ 9223372036854775807) (_htk : ∀ x ∈ Ks, x.length ≤ 9223372036854775807) (hvk : SlN SlKept w vk Ks) (hw : WlW w a0 a1 a2 aD aA bD bL bF) :
    Calls Tryz.prog 3 #[vr, vs, vk] w fun e w' => e = .returned (.bool true) ∧ Below w.heap.size w w' := by
  have HW := Lib.hid hw
  have WK := Lib.hid (fun W h => wakes21 a0 a1 a2 aD aA bD bL bF W h)
  have HVR := Lib.hid hvr
  have HVS := Lib.hid hvs
  have HVK := Lib.hid hvk
  have HTS := Lib.hid hts
  obtain ⟨pr, cr, rfl⟩ := hvr.form
  obtain ⟨ps, cs0, rfl⟩ := hvs.form
  obtain ⟨pk, ck, rfl⟩ := hvk.form
  clear hw hvr hvs hvk hts
  have NW := Lib.hid (disk_New 200 (by decide) (by decide) w)
  obtain ⟨g, hg⟩ : ∃ g, g = w.heap.size + 2 := ⟨_, rfl⟩
  obtain ⟨mb, hmb⟩ : ∃ g, g = w.heap.size := ⟨_, rfl⟩
  obtain ⟨cb, hcb2⟩ : ∃ g, g = w.heap.size + 1 := ⟨_, rfl⟩
  have gB : Hid (∀ b, DkS g mb cb b → w.heap.size ≤ b) := by rintro b (h | h | h) <;> omega
  have NW' : Hid (Calls Tryz.prog 11 #[.int .i64 200] w fun e w' => e = .returned (.tuple #[.pointer (some ⟨g, 0, none⟩), .int .i64 0]) ∧ DiskAt w' g mb cb 0 (.slice none 0 0) (Dk.new 200) ∧ Below w.heap.size w w') := by rw [hg, hmb, hcb2]; exact NW.out
  have C0 : (Dk.new 200).Calm 200 := calm_new (by decide) (by decide)
  have O1 := Lib.hid (fun W k1 k2 => wal_Open 3 (by decide) (by decide) g mb cb (.slice none 0 0) (Dk.new 200) 49 (logs_of (n := 200) (lg := 49) rfl (by decide) (by decide) (by decide)).symm a0 a1 a2 aD aA W k1 k2 C0.ok)
  rw [open_new (lg := 49) (by decide) (by decide) (by decide) (by decide) (by decide), show (Dk.new 200).n = 200 from rfl] at O1
  unfold OpenP at O1
  dsimp only at O1
  have P0 := Lib.hid PhW.safe0
  obtain ⟨A0, hA0⟩ : ∃ A, A = (Dk.new 200).secs := ⟨_, rfl⟩
  rw [← hA0] at P0
  obtain ⟨D0, hD0⟩ : ∃ d, d = Dk.new 200 := ⟨_, rfl⟩
  have OK0 : Hid (D0.Ok ∧ D0.n = 200) := by rw [hD0]; exact ⟨C0.ok, rfl⟩
  rw [← hD0] at NW' O1 P0
  clear C0 NW hg hmb hcb2 hD0 hA0
  obtain ⟨i0, ih, i1, i2, i3⟩ := info_parts Tryz.info9
  obtain ⟨k0, kh, k1, k2, k3⟩ := info_parts Tryz.info131
  go_enter Tryz.func3, Tryz.ntmps3
  go_wp2_with fail
  refine NW'.out.mono ?_; rintro e w1 ⟨rfl, hd, hb1⟩
  have H1 : Hid (DiskAt w1 g mb cb 4096 (.slice none 0 0) D0) := ⟨hd.blk, hd.hm.mono (by omega), hd.hc.mono (by omega), hd.hk, hd.n0, hd.n1, hd.gm, hd.gc, hd.mc, hd.kn⟩
  have B1 := Lib.hid hb1
  clear hd hb1 NW'
  go_wp2_with fail
  refine (O1.out _ (HW.out.below B1.out).h H1.out).mono ?_; rintro e w2 ⟨hb, p, rv, rfl, hp, hl⟩
  have W2 := Lib.hid (walAt_open B1.out H1.out OK0.out.1 OK0.out.2 (by decide) (by decide) gB.out (fun b off c m e => by cases e) hb hp hl)
  have B2 := Lib.hid (bstep B1.out hb)
  clear hb hp hl H1 O1 OK0
  by_cases hna : 6 < Rs.length
  · have q1 : (6 : Int) < (Rs.length : Int) := by omega
    clear hna
    go_wp2_with fail
    refine (WK.out _ (HW.out.below B2.out)).mono ?_; rintro e w3 ⟨rfl, hb⟩
    have B3 := Lib.hid (bstep B2.out hb)
    clear hb
    go_wp2_with fail
    go_ret
    exact ⟨rfl, B3.out⟩
  have q1 : ¬ (6 : Int) < (Rs.length : Int) := by omega
  by_cases hnb : 20 < Ks.length
  · have q2 : (20 : Int) < (Ks.length : Int) := by omega
    clear hna hnb
    go_wp2_with fail
    refine (WK.out _ (HW.out.below B2.out)).mono ?_; rintro e w3 ⟨rfl, hb⟩
    have B3 := Lib.hid (bstep B2.out hb)
    clear hb
    go_wp2_with fail
    go_ret
    exact ⟨rfl, B3.out⟩
  have q2 : ¬ (20 : Int) < (Ks.length : Int) := by omega
  obtain ⟨nr, hn⟩ : ∃ n, n = Rs.length := ⟨_, rfl⟩
  rw [← hn] at q1 hna
  have Hnr := Lib.hid hn
  rw [← hn]
  clear hn
  obtain ⟨nk, hn⟩ : ∃ n, n = Ks.length := ⟨_, rfl⟩
  rw [← hn] at q2 hnb
  have Hnk := Lib.hid hn
  rw [← hn]
  clear hn
  obtain ⟨ns, hn⟩ : ∃ n, n = Ss.length := ⟨_, rfl⟩
  rw [← hn]
  have Hns := Lib.hid hn
  clear hn hlr hls hlk
  go_wp2_with fail
  go_loopw [9, 11, 12] (fun xp hv c wr => ∃ (i : Nat) (d : Dk) (p : Nat) (rv : Value) (A : List ByteArray) (q : Int) (us : Nat) (H : List ByteArray), xp = .pointer (some ⟨p, 0, none⟩) ∧ i ≤ nr ∧ c = .int .i64 i ∧ q ≤ 3 + 12 * (i : Int) ∧ PhW 200 49 A q us 0 [] d ∧ q = nextW 3 A ∧ us = (scanW A 49 3 0).2 ∧ H = (scanW A 49 3 0).1 ∧ H.length ≤ 49 ∧ WalAt wr w.heap.size p g mb cb (.slice none 0 0) rv 200 49 ⟨H, q + (([] : List ByteArray).length : Int), us + (layR (numW q ([] : List ByteArray))).length, false⟩ d ∧ SlStrs wr hv H ∧ (∀ b off n c, hv = .slice (some ⟨b, off, none⟩) n c → ¬ LgS g mb cb p rv b) ∧ Below w.heap.size w wr) (fun _ _ c _ => nr - (intOf c).toNat)
  case atStart => exact ⟨0, D0, p, rv, A0, 3, 0, [], rfl, Nat.zero_le _, rfl, by omega, P0.out.1, P0.out.2.1, P0.out.2.2.1, P0.out.2.2.2, by simp, by simpa [layR, numW] using W2.out, .inl ⟨rfl, rfl⟩, (fun b off n c e => by cases e), B2.out⟩
  case round =>
    clear W2 B2 P0
    obtain ⟨i, d, p, rv, A, q, us, H, rfl, hik, rfl, hq12, hPh, hqA, huA, hHA, hHl, hWl, hHS, hHN, hB⟩ := hrel
    have PH := Lib.hid hPh; have QA := Lib.hid hqA; have UA := Lib.hid huA; have HA := Lib.hid hHA; have WL := Lib.hid hWl; have HS := Lib.hid hHS; have HN := Lib.hid hHN; have HB := Lib.hid hB
    obtain ⟨ph, ch, rfl, _⟩ := hHS.form
    clear hPh hqA huA hHA hWl hHS hHN hB
    by_cases hlt : i < nr
    · have hi : (i : Int) < (nr : Int) := by omega
      have hi0 : (0 : Int) ≤ (i : Int) := by omega
      have v1 : IntKind.i64.wrap ((i : Int) + 1) = (i : Int) + 1 := IntWalk.i64_in _ (by omega)
      have hl : i < Rs.length := by have := Hnr.out; omega
      obtain ⟨b, off, rfl, uu, cu, hQ⟩ := HVR.out.at hl
      obtain ⟨X, hX⟩ : ∃ X, X = Rs[i] := ⟨_, rfl⟩
      rw [← hX] at hQ
      obtain ⟨px, cx, rfl⟩ := hQ.form
      have CU : Hid (∀ W, Below w.heap.size w W → W.cell? ⟨b, off + i, none⟩ = some (.slice px X.length cx)) := fun W h => dk_cell cu h
      have XQ := Lib.hid hQ
      clear cu hQ hX hl
      obtain ⟨K, hK⟩ : ∃ K, K = X.length := ⟨_, rfl⟩
      rw [← hK] at CU XQ
      have HKX := Lib.hid hK
      clear hK
      have cu := CU.out _ HB.out
      by_cases h12 : 12 < K
      · have q12 : (12 : Int) < (K : Int) := by omega
        clear h12
        go_wp2_with fail
        refine (WK.out _ (HW.out.below HB.out)).mono ?_; rintro e w3 ⟨rfl, hb⟩
        have B3 := Lib.hid (bstep HB.out hb)
        clear hb
        go_wp2_with fail
        go_ret
        exact ⟨rfl, B3.out⟩
      have q12 : ¬ (12 : Int) < (K : Int) := by omega
      go_wp2_with fail
      go_loopw [11, 13, 14] (fun hv sv c wr => ∃ (k sr : Nat) (d : Dk) (rv : Value), k ≤ K ∧ c = .int .i64 k ∧ sv = .int .i64 ((H.length + sr : Nat) : Int) ∧ (∀ s ∈ X.take k, s.size ≤ 600) ∧ PhW 200 49 A q us sr (X.take k) d ∧ WalAt wr w.heap.size p g mb cb (.slice none 0 0) rv 200 49 ⟨H ++ X.take k, q + ((X.take k).length : Int), us + (layR (numW q (X.take k))).length, false⟩ d ∧ SlStrs wr hv (H ++ X.take k) ∧ (∀ b off n c, hv = .slice (some ⟨b, off, none⟩) n c → ¬ LgS g mb cb p rv b) ∧ Below w.heap.size w wr) (fun _ _ c _ => K - (intOf c).toNat)
      case atStart => exact ⟨0, 0, d, rv, Nat.zero_le _, rfl, by simp, (fun s hs => absurd hs (by simp)), by simpa using PH.out, by simpa using WL.out, by simpa using HS.out, HN.out, HB.out⟩
      case round =>
        clear PH WL HS HN HB cu
        obtain ⟨k, sr, d, rv, hkK, rfl, rfl, hsm, hPh, hWl, hHS, hHN, hB⟩ := hrel
        have SM := Lib.hid hsm; have PH := Lib.hid hPh; have WL := Lib.hid hWl; have HS := Lib.hid hHS; have HN := Lib.hid hHN; have HB := Lib.hid hB
        obtain ⟨ph, ch, rfl, _⟩ := hHS.form
        clear hsm hPh hWl hHS hHN hB
        obtain ⟨kk, hkk⟩ : ∃ kk, kk = (H ++ X.take k).length := ⟨_, rfl⟩
        obtain ⟨sv, hsv⟩ : ∃ sv : Int, sv = ((H.length + sr : Nat) : Int) := ⟨_, rfl⟩
        rw [← hkk] at HS HN ⊢
        rw [← hsv]
        have HKK := Lib.hid hkk
        have HSV := Lib.hid hsv
        clear hkk hsv
        have tk : (X.take k).length = k := by rw [List.length_take]; have := HKX.out; omega
        have Tk := Lib.hid tk
        have srk : sr ≤ k := by have := PH.out.sl; omega
        have cu := CU.out _ HB.out
        by_cases hlk : k < K
        · have hk1 : (k : Int) < (K : Int) := by omega
          have hk0 : (0 : Int) ≤ (k : Int) := by omega
          have v2 : IntKind.i64.wrap ((k : Int) + 1) = (k : Int) + 1 := IntWalk.i64_in _ (by omega)
          have hl2 : k < X.length := by have := HKX.out; omega
          obtain ⟨bs, os, rfl, At⟩ := XQ.out.at hl2
          have T1 : Hid (X.take (k + 1) = X.take k ++ [X[k]]) := List.take_succ_eq_append_getElem hl2
          have cs := At.at' k hl2
          obtain ⟨s, hs⟩ : ∃ s, s = X[k] := ⟨_, rfl⟩
          rw [← hs] at cs T1
          have SOf : Hid (∀ W, Below w.heap.size w W → W.cell? ⟨bs, os + k, none⟩ = some (.string s)) := fun W h => dk_cell cs h
          clear cs At hs hl2 tk
          have cs := SOf.out _ HB.out
          by_cases h6 : 600 < s.size
          · have q6 : (600 : Int) < (s.size : Int) := by omega
            clear h6
            go_wp2_with fail
            refine (WK.out _ (HW.out.below HB.out)).mono ?_; rintro e w3 ⟨rfl, hb⟩
            have B3 := Lib.hid (bstep HB.out hb)
            clear hb
            go_wp2_with fail
            go_ret
            exact ⟨rfl, B3.out⟩
          have q6 : ¬ (600 : Int) < (s.size : Int) := by omega
          have AP := Lib.hid (fun W k1 k2 => wal_Append (p := p) (g := g) (mb := mb) (cb := cb) (kv := .slice none 0 0) (rv := rv) (n := 200) (lg := 49) (x := ⟨H ++ X.take k, q + ((X.take k).length : Int), us + (layR (numW q (X.take k))).length, false⟩) (d := d) s a0 a1 a2 aD aA bD bL bF w W HW.out k1 k2)
          rcases may_few (x := ⟨H ++ X.take k, q + ((X.take k).length : Int), us + (layR (numW q (X.take k))).length, false⟩) (lg := 49) (s := s) rfl (by omega) with hm0 | hm0
          · obtain ⟨z1, z2, z3⟩ := may_zero hm0
            dsimp only at z2 z3
            obtain ⟨d', e1, PH2⟩ := PH.out.append (s := s) (H ++ X.take k) z1 z3 z2
            rw [e1] at AP
            unfold AppP at AP
            dsimp only at AP
            rw [List.append_assoc, ← T1.out] at AP
            rw [← T1.out] at PH2
            have PH2 := Lib.hid PH2
            have SM2 : Hid (∀ y ∈ X.take (k + 1), y.size ≤ 600) := fun y hy => by
              rw [T1.out] at hy
              rcases List.mem_append.1 hy with k | k
              · exact SM.out y k
              · have : y = s := by simpa using k
                rw [this]; omega
            have XL : Hid ((X.take (k + 1)).length = k + 1) := by show _ = _; rw [T1.out, List.length_append, Tk.out]; rfl
            clear e1 hm0 z1 z2 z3 h6
            go_wp2_with fail
            refine (AP.out _ HB.out WL.out).mono ?_; rintro e w3 ⟨rv6, rfl, hw6, hf6, hr6⟩
            have W3 := Lib.hid hw6
            have B3 := Lib.hid (WL.out.bel HB.out rfl hf6)
            have HS3 := Lib.hid (HS.out.frN hf6 (fun b off n c e => HN.out b off n c e))
            clear hw6 hf6 hr6 WL HB HN AP cu cs
            obtain ⟨HX, hHX⟩ : ∃ HX, HX = H ++ X.take k := ⟨_, rfl⟩
            have hLk : HX.length = kk := by rw [hHX, HKK.out]
            have kkb : kk ≤ 61 := by rw [HKK.out, List.length_append, Tk.out]; omega
            have HHX := Lib.hid hHX
            rw [← hHX] at HS3
            have hL2 : Hid (kk + 1 = (HX ++ [s]).length) := by show _ = _; rw [List.length_append, hLk]; rfl
            have HLk := Lib.hid hLk
            clear hHX hLk HS
            have CR : Hid (w3.cell? ⟨b, off + i, none⟩ = some (.slice (some ⟨bs, os, none⟩) K cx)) := CU.out _ B3.out
            have CS : Hid (w3.cell? ⟨bs, os + k, none⟩ = some (.string s)) := SOf.out _ B3.out
            have Bd : Hid (Below w3.heap.size w3 w3 ∧ w3.heap.size ≤ w3.heap.size) := ⟨Below.refl _ _, Nat.le_refl _⟩
            go_upto_region 20 with (fail)
            go_cut [11] (fun s11 wc => SlStrs wc s11 (HX ++ [s]) ∧ (∀ b off n c, s11 = .slice (some ⟨b, off, none⟩) n c → w3.heap.size ≤ b ∧ b < wc.heap.size) ∧ Below w3.heap.size w3 wc)
            case first =>
              have hLk := HLk.out
              go_region_held3 (fun w' => w'.cell? ⟨b, off + i, none⟩ = some (.slice (some ⟨bs, os, none⟩) K cx) ∧ w'.cell? ⟨bs, os + k, none⟩ = some (.string s)) (first | (refine ⟨cell_below CR.out ?_, cell_below CS.out ?_⟩ <;> (refine bel1 ?_; repeat (first | exact EB.out | exact CB.out | exact Bd.out | refine bdr ?_ | refine bal ?_ _))))
                (first
                  | (refine step_append_strs (by rfl) _ _ _ (by rfl) 9 i0 _ Tryz.underlying34 ih i1 i2 i3 (by decide) w3.heap.size g1 kk _ HX (by rfl) (by repeat (first | exact hO1 | refine row_kA ?_ _)) _ (by rfl) [s] (by refine slStrs_one (t := 9) ?_; show (_ : World).heap[_]? = some (Obj.cells #[.string s] 9 (0, 0)); repeat (first | (with_reducible refine kD ?_) | (with_reducible refine kG1 hg2 ?_ (by first | omega | (simp; done) | (simp; omega)) (by omega)) | (with_reducible refine kG1 hg1 ?_ (by first | omega | (simp; done) | (simp; omega)) (by omega)) | (with_reducible exact kN _ (by first | omega | (simp; done) | (simp; omega))) | (with_reducible refine kA ?_ (by first | omega | (simp; done) | (simp; omega)) _))) (by first | omega | (simp; done) | (simp; omega)) (by first | omega | (simp; done) | (simp; omega)) (bel2 w3 (by repeat (first | exact EB.out | exact CB.out | exact Bd.out | refine bdr ?_ | refine bal ?_ _))) (kk + 1) (by first | omega | (simp; done) | (simp; omega)) (HX ++ [s]) (by first | rfl | (simp; done)) ?_; intro g2 c2 x2 hO2 hg2 ha2; have EB : Hid (Below w3.heap.size w3 x2 ∧ w3.heap.size ≤ x2.heap.size) := bgr (by repeat (first | exact EB.out | exact CB.out | exact Bd.out | refine bdr ?_ | refine bal ?_ _)) hg2 (by omega); have s2 := hg2.size; have q2 := hO2.lt g2 rfl; (try simp at ha2); (try simp at s2))
                  | (refine step_append_strs (by rfl) _ _ _ (by rfl) 9 i0 _ Tryz.underlying34 ih i1 i2 i3 (by decide) w3.heap.size _ 0 0 [] (by rfl) (row_s0 (by first | omega | (simp; done) | (simp; omega)) (by repeat (first | (with_reducible refine kD ?_) | (with_reducible refine kG1 hg2 ?_ (by first | omega | (simp; done) | (simp; omega)) (by omega)) | (with_reducible refine kG1 hg1 ?_ (by first | omega | (simp; done) | (simp; omega)) (by omega)) | (with_reducible exact kN _ (by first | omega | (simp; done) | (simp; omega))) | (with_reducible refine kA ?_ (by first | omega | (simp; done) | (simp; omega)) _)))) _ (by rfl) HX (HS3.out.below (bel1 (by repeat (first | exact EB.out | exact CB.out | exact Bd.out | refine bdr ?_ | refine bal ?_ _)))) (by first | omega | (simp; done) | (simp; omega)) (by first | omega | (simp; done) | (simp; omega)) (bel2 w3 (by repeat (first | exact EB.out | exact CB.out | exact Bd.out | refine bdr ?_ | refine bal ?_ _))) kk (by first | omega | (simp; done) | (simp; omega)) HX (by first | rfl | (simp; done)) ?_; intro g1 c1 x1 hO1 hg1 ha1; have CB : Hid (Below w3.heap.size w3 x1 ∧ w3.heap.size ≤ x1.heap.size) := bgr (by repeat (first | exact EB.out | exact CB.out | exact Bd.out | refine bdr ?_ | refine bal ?_ _)) hg1 (by first | omega | (simp; done) | (simp; omega)); have s1 := hg1.size; have q1 := hO1.lt g1 rfl; (try simp at ha1); (try simp at s1)))
              all_goals
                go_wp2_with fail
                go_meet
                exact ⟨strs_ofN hL2.out hO2, (fun b off n c e => by injection e with e _ _; injection e with e; injection e with e _ _; rw [← e]; exact ⟨(hO2.lt _ rfl).1, (hO2.lt _ rfl).2⟩), EB.out.1⟩
            case rest =>
              obtain ⟨hs11, hn11, hbc⟩ := hcut
              have WC := Lib.hid (W3.out.below hbc)
              have BC := Lib.hid (bstep B3.out hbc)
              rw [HHX.out, List.append_assoc, ← T1.out] at hs11
              have VC := Lib.hid hs11
              obtain ⟨p7, c7, rfl, _⟩ := hs11.form
              have NC' := Lib.hid hn11
              obtain ⟨kk1, hkk1⟩ : ∃ kk1, kk1 = (H ++ X.take (k + 1)).length := ⟨_, rfl⟩
              have KK : Hid (kk1 = H.length + (k + 1)) := by show _ = _; rw [hkk1, List.length_append, XL.out]
              rw [← hkk1] at VC NC' ⊢
              have NC : Hid (∀ b off n c, Value.slice p7 kk1 c7 = .slice (some ⟨b, off, none⟩) n c → ¬ LgS g mb cb p rv6 b) := fun b off n c e hL => by have h1 := W3.out.lgS_lt b hL; have h2 := (NC'.out b off n c e).1; omega
              clear hs11 hn11 hbc hkk1 CR CS Bd W3 B3 HS3 hL2 HLk kkb
              by_cases hsy : i < ns
              · have y1 : (i : Int) < (ns : Int) := by omega
                have hls : i < Ss.length := by have := Hns.out; omega
                obtain ⟨bb, ob, cap, ev, _, cb8⟩ := HVS.out.at hls
                obtain ⟨hx0, hx1⟩ := HTS.out Ss[i] (List.getElem_mem hls)
                obtain ⟨xx, hxx⟩ : ∃ xx, xx = Ss[i] := ⟨_, rfl⟩
                rw [← hxx] at cb8 hx0 hx1
                injection ev with ev1 _ ev3
                subst ev1 ev3
                have w1 : IntKind.i64.wrap xx = xx := IntWalk.i64_in _ (by omega)
                have w2 : IntKind.i64.wrap (xx.tmod 13) = xx.tmod 13 := by rw [Int.tmod_eq_emod_of_nonneg hx0]; have h1 := Int.emod_nonneg xx (show (13 : Int) ≠ 0 by decide); have h2 := Int.emod_lt_of_pos xx (show (0 : Int) < 13 by decide); exact IntWalk.i64_in _ (by omega)
                have c8 := dk_cell cb8 BC.out
                obtain ⟨tt, htt⟩ : ∃ tt, tt = xx.tmod 13 := ⟨_, rfl⟩
                have w3' : xx.tmod 13 = tt := htt.symm
                rw [w3'] at w2
                clear hxx cb8 hx0 hx1 htt hls
                by_cases heq : tt = (k : Int)
                · have e9 : (tt == (k : Int)) = true := by simpa using heq
                  have XX := Lib.hid PH2.out.pour
                  rw [XL.out] at XX
                  have SY := Lib.hid (fun W k1 k2 => wal_Sync (B := w.heap.size) (p := p) (g := g) (mb := mb) (cb := cb) (kv := .slice none 0 0) (rv := rv6) (n := 200) (lg := 49) (x := ⟨H ++ X.take (k + 1), q + ((X.take (k + 1)).length : Int), us + (layR (numW q (X.take (k + 1)))).length, false⟩) (d := d') aD aA W k1 k2)
                  rw [sync_calm PH2.out.calm rfl] at SY
                  dsimp only at SY
                  go_wp2_with fail
                  refine (SY.out _ (HW.out.below BC.out).h.d WC.out).mono ?_; rintro e w8 ⟨rfl, hw8, hf8⟩
                  have W8 := Lib.hid hw8
                  have B8 := Lib.hid (WC.out.bel BC.out rfl hf8)
                  have V8 := Lib.hid (VC.out.frN hf8 NC.out)
                  clear hw8 hf8
                  go_wp2_with fail
                  go_roundw
                  case rel => exact ⟨k + 1, k + 1, _, rv6, by omega, by go_num, by rw [KK.out], SM2.out, XX.out, W8.out, V8.out, NC.out, B8.out⟩
                  case measure => simp [intOf]; omega
                · have e9 : (tt == (k : Int)) = false := by simpa using heq
                  go_wp2_with fail
                  go_roundw
                  case rel => exact ⟨k + 1, sr, d', rv6, by omega, by go_num, by rw [HSV.out], SM2.out, PH2.out, WC.out, VC.out, NC.out, BC.out⟩
                  case measure => simp [intOf]; omega
              · have y1 : ¬ (i : Int) < (ns : Int) := by omega
                go_wp2_with fail
                go_roundw
                case rel => exact ⟨k + 1, sr, d', rv6, by omega, by go_num, by rw [HSV.out], SM2.out, PH2.out, WC.out, VC.out, NC.out, BC.out⟩
                case measure => simp [intOf]; omega
          · have e1 := append_may (d := d) (show (⟨H ++ X.take k, q + ((X.take k).length : Int), us + (layR (numW q (X.take k))).length, false⟩ : Wl).may 49 s ≠ 0 by rw [hm0]; decide)
            rw [hm0] at e1
            rw [e1] at AP
            unfold AppP at AP
            dsimp only at AP
            clear e1 hm0
            go_wp2_with fail
            refine (AP.out _ HB.out WL.out).mono ?_; rintro e w6 ⟨rv6, rfl, hw6, hf6, _⟩
            have P6 := Lib.hid (WL.out.bel HB.out rfl hf6)
            clear hw6 hf6
            go_wp2_with fail
            refine (WK.out _ (HW.out.below P6.out)).mono ?_; rintro e w3 ⟨rfl, hb⟩
            have B3 := Lib.hid (bstep P6.out hb)
            clear hb
            go_wp2_with fail
            go_ret
            exact ⟨rfl, B3.out⟩
        · have hk1 : ¬ (k : Int) < (K : Int) := by omega
          obtain rfl : k = K := by omega
          have hXX : X.take k = X := List.take_of_length_le (by have := HKX.out; omega)
          rw [hXX] at PH WL HS HKK
          have KKX : Hid (kk = H.length + k) := by show _ = _; rw [HKK.out, List.length_append, ← HKX.out]
          have NX := Lib.hid (fun W k => wal_Next (B := w.heap.size) (p := p) (g := g) (n := 200) (lg := 49) (rv := rv) (x := ⟨H ++ X, q + (X.length : Int), us + (layR (numW q X)).length, false⟩) W k)
          dsimp only at NX
          obtain ⟨nx, hnx⟩ : ∃ nx, nx = q + (X.length : Int) := ⟨_, rfl⟩
          rw [← hnx] at NX WL
          have qb : q + (X.length : Int) ≤ 256 := by rw [← HKX.out]; omega
          have NXQ : Hid (nx = q + (k : Int)) := by show _ = _; rw [hnx, HKX.out]
          have SF := Lib.hid (fun l => PH.out.safe qb QA.out UA.out HA.out l)
          have PC := Lib.hid PH.out.calm
          clear hnx hXX qb SM CU XQ HVR HVS HTS
          go_upto_if 147 with (fail)
          go_cut [16] (fun s16 wc => wr = wc ∧ ∃ kl : List (Int × Int), SlKept wr s16 kl)
          case first =>
            by_cases hik2 : i < nk
            · have y1 : (i : Int) < (nk : Int) := by omega
              have hi0' : (0 : Int) ≤ (i : Int) := by omega
              have hls : i < Ks.length := by have := Hnk.out; omega
              obtain ⟨b2, o2, rfl, u2v, cu2, hQ2⟩ := HVK.out.at hls
              obtain ⟨kl0, hkl0⟩ : ∃ x, x = Ks[i] := ⟨_, rfl⟩
              rw [← hkl0] at hQ2
              have c2 := dk_cell cu2 HB.out
              have K2 := Lib.hid (hQ2.below HB.out)
              clear cu2 hQ2 hkl0 hls
              go_wp2_with fail
              go_meet
              exact ⟨rfl, _, K2.out⟩
            · have y1 : ¬ (i : Int) < (nk : Int) := by omega
              go_wp2_with fail
              go_meet
              exact ⟨rfl, [], .inl ⟨rfl, _, _, rfl⟩⟩
          case rest =>
            obtain ⟨rfl, kl, hk16⟩ := hcut
            obtain ⟨pk2, ck2, rfl⟩ := hk16.form
            have VK2 := Lib.hid hk16
            clear hk16
            by_cases hnk : 100 < kl.length
            · have q3 : (100 : Int) < (kl.length : Int) := by omega
              clear hnk
              go_wp2_with fail
              refine (WK.out _ (HW.out.below HB.out)).mono ?_; rintro e w3 ⟨rfl, hb⟩
              have B3 := Lib.hid (bstep HB.out hb)
              clear hb
              go_wp2_with fail
              go_ret
              exact ⟨rfl, B3.out⟩
            have q3 : ¬ (100 : Int) < (kl.length : Int) := by omega
            obtain ⟨j, q', u', A', sj, jX, ox2, qq, qe, PH2, QA2, UA2, HA2⟩ := SF.out kl
            have cT := calm_crashed PC.out kl
            have O3 := Lib.hid (fun W k1 k2 => wal_Open 3 (by omega) (by omega) g mb cb (.slice none 0 0) (d.crash kl).start 49 (logs_of (n := 200) (lg := 49) cT.n (by decide) (by decide) (by decide)).symm a0 a1 a2 aD aA W k1 k2 cT.ok)
            rw [ox2, cT.n] at O3
            unfold OpenP at O3
            dsimp only at O3
            have CK2 : Hid (∀ kvv W, DiskAt W g mb cb 4096 (.slice none 0 0) d → SlKept W kvv kl → (∀ b off n c, kvv = .slice (some ⟨b, off, none⟩) n c → ¬ DkS g mb cb b) → Calls Tryz.prog 17 #[.pointer (some ⟨g, 0, none⟩), kvv] W fun e w' => e = .returned (.tuple #[]) ∧ DiskAt w' g mb cb 4096 (.slice none 0 0) (d.crash kl) ∧ Fr (DkS g mb cb) W w') := fun kvv W h1 h2 h3 => disk_Crash kvv kl (by omega) g mb cb (.slice none 0 0) d W h1 PC.out.ok.ok0 h2 h3
            have ST := Lib.hid (fun W h1 => disk_Start g mb cb 4096 (.slice none 0 0) (d.crash kl) W h1)
            have HR49' : (H ++ X.take j).length ≤ 49 := by rw [HA2]; have h1 := (scanW_le (L := A') 49 3 0 (Nat.zero_le _)).1; have h2 := (scanW_le (L := A') 49 3 0 (Nat.zero_le _)).2.2; have h3 := PH2.al; omega
            obtain ⟨R, hR⟩ : ∃ R, R = H ++ X.take j := ⟨_, rfl⟩
            have lj : R.length = H.length + j := by rw [hR, List.length_append, List.length_take]; omega
            have TX := Lib.hid (fun v u W k1 k2 => keep_Texts v u R R (by rw [hR]; omega) W k1 k2)
            rw [show decide (R = R) = true from decide_eq_true rfl] at TX
            have RC := Lib.hid (fun B p rv W k => wal_RecordsF (B := B) (p := p) (g := g) (n := 200) (lg := 49) (rv := rv) (x := ⟨H ++ X.take j, q' + (([] : List ByteArray).length : Int), u' + (layR (numW q' ([] : List ByteArray))).length, false⟩) W k)
            have N3 : Hid (∀ B p rv W, LogAt W B p g 200 49 rv ⟨H ++ X.take j, q' + (([] : List ByteArray).length : Int), u' + (layR (numW q' ([] : List ByteArray))).length, false⟩ → Calls Tryz.prog 16 #[.pointer (some ⟨p, 0, none⟩)] W fun e w' => e = .returned (.int .u32 q') ∧ W = w') := fun B p rv W k => (wal_Next W k).mono (fun e w' h => ⟨h.1.trans (by show Ending.returned (.int .u32 (q' + (([] : List ByteArray).length : Int))) = _; rw [show q' + (([] : List ByteArray).length : Int) = q' from Int.add_zero _]), h.2⟩)
            dsimp only at RC
            have HRX : Hid (∀ W b off c, StrsAt W b off (H ++ X) → R.length ≤ c → SlStrs W (.slice (some ⟨b, off, none⟩) R.length c) R) := fun W b off c h hc => by
              have e : (H ++ X).take R.length = R := by rw [lj, List.take_append, List.take_of_length_le (by omega), Nat.add_sub_cancel_left, hR]
              have h2 := strs_take (t := R.length) h (by rw [lj, List.length_append]; omega) hc
              rwa [e] at h2
            rw [← hR] at RC N3 O3 HR49' HA2
            have HR49 := Lib.hid HR49'
            obtain ⟨d5, hd5⟩ : ∃ d5, d5 = (d.crash kl).start := ⟨_, rfl⟩
            rw [← hd5] at O3 ST PH2
            have OK5 : Hid (d5.Ok ∧ d5.n = 200) := by rw [hd5]; exact ⟨cT.ok, cT.n⟩
            have P2 := Lib.hid (And.intro PH2 (And.intro QA2 (And.intro UA2 HA2)))
            obtain ⟨jj, hjj⟩ : ∃ jj, jj = R.length := ⟨_, rfl⟩
            rw [← hjj] at HRX lj
            have HJJ := Lib.hid hjj
            have JL : Hid (jj = H.length + j) := lj
            have JF : Hid (sr ≤ j ∧ j ≤ k ∧ q' ≤ nx ∧ (j = k → nx ≤ q')) := ⟨sj, by rw [HKX.out]; exact jX, by rw [NXQ.out, HKX.out]; exact qq, fun e => by rw [NXQ.out, HKX.out]; exact qe (by rw [← HKX.out]; exact e)⟩
            have kl100 : kl.length ≤ 100 := by omega
            clear hd5 hjj hR lj SF PH PC cT ox2 qq qe PH2 QA2 UA2 HA2 HR49' sj jX QA UA HA HVK hnk
            go_wp2_with fail
            refine (NX.out _ WL.out.log).mono ?_; rintro e w4 ⟨rfl, rfl⟩
            go_wp2_with (at_builtin; refine wpList_append_new rfl _ _ _ rfl 131 k0 _ Tryz.underlying37 kh k1 2 k2 (by omega) _ rfl _ rfl kl.length (ktCells kl) (ktCells_len kl) (VK2.out.below (below_alloc1 _ _)).cells (by omega) ?_; intro G c w6 m1 m2 m3 m4 m5; have K6 := Lib.hid (SlKept.of_cells m1 m2 (fun h => (m5 h).2)); have E6 := Lib.hid (bstep (below_alloc1 _ _) m3); have B6 := Lib.hid (bstep HB.out E6.out); have W6 := Lib.hid (WL.out.below E6.out); have V6 := Lib.hid (HS.out.below E6.out); have hg : wr.heap.size ≤ G := (m4.elim (fun h => Nat.le_of_eq h.symm) (fun h => by rw [h]; simp)); have HNK : Hid (∀ b off n c', Value.slice (some ⟨G, 0, none⟩) kl.length c = .slice (some ⟨b, off, none⟩) n c' → ¬ DkS g mb cb b) := (fun b off n c' e => by injection e with e _ _; injection e with e; injection e with e _ _; have e1 := WL.out.dsk.lt; have e2 := WL.out.dsk.hm.lt; have e3 := WL.out.dsk.hc.lt; rintro (h | h | h) <;> omega); clear m1 m2 m3 m4 m5 hg)
            refine (CK2.out _ _ W6.out.dsk K6.out HNK.out).mono ?_; rintro e w7 ⟨rfl, hd, hf⟩
            have D7 := Lib.hid hd
            have V7 := Lib.hid (V6.out.disk W6.out.dsk hf)
            have B7 := Lib.hid (frb B6.out hf (gB.out _ (.inl rfl)) (gB.out _ (.inr (.inl rfl))) (gB.out _ (.inr (.inr rfl))))
            clear hd hf W6 V6 B6 K6 HNK CK2 E6 WL HS HB HN VK2 NX
            go_wp2_with fail
            refine (ST.out _ D7.out).mono ?_; rintro e w8 ⟨rfl, hd, hf⟩
            have hf := hf.mono (T := DkS g mb cb) (fun _ h => .inl h)
            have D8 := Lib.hid hd
            have V8 := Lib.hid (V7.out.disk D7.out hf)
            have B8 := Lib.hid (frb B7.out hf (gB.out _ (.inl rfl)) (gB.out _ (.inr (.inl rfl))) (gB.out _ (.inr (.inr rfl))))
            clear hd hf D7 V7 B7 ST
            go_wp2_with fail
            refine (O3.out _ (HW.out.below B8.out).h D8.out).mono ?_; rintro e w9 ⟨hb, p3, rv3, rfl, hp3, hl3⟩
            have W9' := Lib.hid (walAt_open B8.out D8.out OK5.out.1 OK5.out.2 (by decide) (by decide) gB.out (fun b off c m e => by cases e) hb hp3 hl3)
            have V9' := Lib.hid (V8.out.below hb)
            have B9' := Lib.hid (bstep B8.out hb)
            clear hb hp3 hl3 D8 V8 B8 O3
            go_wp2_with fail
            refine (RC.out _ p3 rv3 _ W9'.out.log).mono ?_; rintro e w9b ⟨v9, rfl, hv, hfr, hb⟩
            have V9 := Lib.hid hv
            have W9 := Lib.hid (W9'.out.below hb)
            have U9 := Lib.hid (V9'.out.below hb)
            have B9 := Lib.hid (bstep B9'.out hb)
            have N10 : Hid (∀ b off n c, v9 = .slice (some ⟨b, off, none⟩) n c → ¬ LgS g mb cb p3 rv3 b) := fun b off n c e hL => by have h1 := W9'.out.lgS_lt b hL; have h2 := hfr b off n c e; omega
            obtain ⟨pv9, cv9, rfl, _⟩ := hv.form
            rw [← HJJ.out] at V9 N10 ⊢
            obtain ⟨jf1, jf2, jf3, jf4⟩ := JF.out
            have jl := JL.out
            have hkx := KKX.out
            have hsv := HSV.out
            have z1 : ¬ (jj : Int) < sv := by omega
            have z2 : ¬ (kk : Int) < (jj : Int) := by omega
            have z3 : (0 : Int) ≤ (jj : Int) := by omega
            have nxq := NXQ.out
            have q'b : q' ≤ 3 + 12 * ((i : Int) + 1) := by omega
            clear hb hv hfr V9' W9' B9' RC
            rcases U9.out with ⟨hv13, hBn⟩ | ⟨G, off, cap, hv13, hcap, hAt⟩
            · have hk0 : kk = 0 := by rw [HKK.out, hBn]; rfl
              have hj0 : jj = 0 := by omega
              have zz : ¬ q' < nx := by have := jf4 (by omega); omega
              injection hv13 with hv1 hv2 hv3
              clear hv2
              subst hv1 hv3
              have HVt : Hid (SlStrs w9b (.slice none 0 0) R) := .inl ⟨rfl, List.eq_nil_of_length_eq_zero (by rw [← HJJ.out]; exact hj0)⟩
              clear jf1 jf2 jf3 jf4 jl hsv hkx nxq hBn
              subst hk0 hj0
              go_wp2_with fail
              refine (TX.out _ _ _ V9.out HVt.out).mono ?_; rintro e w10 ⟨rfl, hb⟩
              have W10 := Lib.hid (W9.out.below hb)
              have V10 := Lib.hid (V9.out.below hb)
              have B10 := Lib.hid (bstep B9.out hb)
              clear hb W9 V9 B9
              go_wp2_with fail
              refine (N3.out _ p3 rv3 _ W10.out.log).mono ?_; rintro e w11 ⟨rfl, rfl⟩
              go_wp2_with fail
              go_roundw
              case rel => exact ⟨i + 1, d5, p3, rv3, A', q', u', R, rfl, by omega, by go_num, by omega, P2.out.1, P2.out.2.1, P2.out.2.2.1, P2.out.2.2.2, HR49.out, W10.out, V10.out, N10.out, B10.out⟩
              case measure => simp [intOf]; omega
            · have hcc : kk ≤ cap := by rw [HKK.out]; exact hcap
              have q8 : (jj : Int) ≤ (cap : Int) := by omega
              injection hv13 with hv1 hv2 hv3
              clear hv2
              subst hv1 hv3
              have HVt : Hid (SlStrs w9b (.slice (some ⟨G, off, none⟩) jj ch) R) := HRX.out _ _ _ _ hAt (by omega)
              clear hAt hcap
              by_cases zz : q' < nx
              · have nj : ¬ (jj : Int) = (kk : Int) := fun e => by have := jf4 (by omega); omega
                have nj2 : ((jj : Int) == (kk : Int)) = false := by simpa using nj
                clear jf1 jf2 jf3 jf4 jl hsv hkx nxq
                go_wp2_with fail
                refine (TX.out _ _ _ V9.out HVt.out).mono ?_; rintro e w10 ⟨rfl, hb⟩
                have W10 := Lib.hid (W9.out.below hb)
                have V10 := Lib.hid (V9.out.below hb)
                have B10 := Lib.hid (bstep B9.out hb)
                clear hb W9 V9 B9
                go_wp2_with fail
                refine (N3.out _ p3 rv3 _ W10.out.log).mono ?_; rintro e w11 ⟨rfl, rfl⟩
                go_wp2_with fail
                go_roundw
                case rel => exact ⟨i + 1, d5, p3, rv3, A', q', u', R, rfl, by omega, by go_num, by omega, P2.out.1, P2.out.2.1, P2.out.2.2.1, P2.out.2.2.2, HR49.out, W10.out, V10.out, N10.out, B10.out⟩
                case measure => simp [intOf]; omega
              · clear jf1 jf2 jf3 jf4 jl hsv hkx nxq
                go_wp2_with fail
                refine (TX.out _ _ _ V9.out HVt.out).mono ?_; rintro e w10 ⟨rfl, hb⟩
                have W10 := Lib.hid (W9.out.below hb)
                have V10 := Lib.hid (V9.out.below hb)
                have B10 := Lib.hid (bstep B9.out hb)
                clear hb W9 V9 B9
                go_wp2_with fail
                refine (N3.out _ p3 rv3 _ W10.out.log).mono ?_; rintro e w11 ⟨rfl, rfl⟩
                go_wp2_with fail
                go_roundw
                case rel => exact ⟨i + 1, d5, p3, rv3, A', q', u', R, rfl, by omega, by go_num, by omega, P2.out.1, P2.out.2.1, P2.out.2.2.1, P2.out.2.2.2, HR49.out, W10.out, V10.out, N10.out, B10.out⟩
                case measure => simp [intOf]; omega
    · have hi : ¬ (i : Int) < (nr : Int) := by omega
      go_wp2_with fail
      refine (WK.out _ (HW.out.below HB.out)).mono ?_; rintro e w3 ⟨rfl, hb⟩
      have B3 := Lib.hid (bstep HB.out hb)
      clear hb
      go_wp2_with fail
      go_ret
      exact ⟨rfl, B3.out⟩
end Go.Proofs.YtdbiebnnogjccaaGreatDoor
