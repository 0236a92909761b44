/- Frames (layer 18): FrameTorn. -/
import Derived.Test.YtbopppnlgicpeaaDoorFn
namespace Go.Proofs.YtbopppnlgicpeaaDoor
open Go.RowKit
theorem makeF_ok {n : Int} {s : List UInt8} (hn : n ≠ 0) (hs : s.length ≤ 2000) : makeF n s = (secsF n s, 0) := by
  unfold makeF; rw [if_neg hn, if_neg (by omega)]
theorem first_sec (n : Int) (s : List UInt8) : ∃ A L, (secsF n s).map ofL = A :: L ∧ A.data.toList.length = 256 ∧ A.data.toList.take 4 = mkL n ∧ A.data.toList.drop 252 = mkL n := by
  obtain ⟨L, hL⟩ := secs_cons n s
  refine ⟨ofL (secF n (allF s) (szN s.length) 0), L.map ofL, by rw [hL]; rfl, ?_⟩
  rw [ofL_list]
  exact ⟨sec_length (allF_length s) (sz_pos _), sec_take4, sec_end (allF_length s) (sz_pos _)⟩
set_option maxRecDepth 100000 in
set_option maxHeartbeats 8000000 in
theorem law18_FrameTorn (o n : Int) (S T : ByteArray) (o0 : 0 ≤ o) (o1 : o < 4294967296) (n0 : 0 ≤ n) (n1 : n < 4294967296) (_hS : S.size ≤ 140737488351232) (_hT : T.size ≤ 140737488351232) (a0 a1 a2 : Addr) (w : World) (hw : FrW w a0 a1 a2) :
    Calls Tryd.prog 10 #[.agg #[.int .u32 o, .int .u32 n], .string S, .string T] w fun e w' => e = .returned (.bool true) ∧ Below w.heap.size w w' := by
  have WK := Lib.hid (fun W h => wakes18 a0 a1 a2 W h)
  have HW0 := Lib.hid hw
  clear hw
  by_cases cg : 2000 < S.size ∨ 2000 < T.size ∨ o = n
  · have hd : (decide (2000 < (S.size : Int)) = true) ∨ (decide (2000 < (S.size : Int)) = false ∧ decide (2000 < (T.size : Int)) = true) ∨ (decide (2000 < (S.size : Int)) = false ∧ decide (2000 < (T.size : Int)) = false ∧ (o == n) = true) := by
      simp only [decide_eq_true_eq, decide_eq_false_iff_not, beq_iff_eq]; omega
    go_enter Tryd.func10, Tryd.ntmps10
    go_wp2_with fail
    go_quiet (fail)
    have hB : Below w.heap.size w ((w.alloc (.cells #[.int .u32 o, .int .u32 n] 80)).drewN nq) := ⟨rfl, rfl, rfl, by simp, fun k hk => Below.heap_alloc _ _ _ hk⟩
    generalize ((w.alloc (.cells #[.int .u32 o, .int .u32 n] 80)).drewN nq) = W at hB ⊢
    have HW := Lib.hid (HW0.out.below hB)
    have B0 := Lib.hid hB
    clear hB
    rcases hd with d1 | ⟨d1, d2⟩ | ⟨d1, d2, d3⟩
    all_goals
      go_wp2_with fail
      refine (WK.out _ HW.out).mono ?_; rintro e w1 ⟨rfl, hb1⟩
      have B1 := Lib.hid (bstep B0.out hb1)
      clear hb1
      go_wp2_with fail
      go_ret
      exact ⟨rfl, B1.out⟩
  have d1 : decide (2000 < (S.size : Int)) = false := by simp only [decide_eq_false_iff_not]; omega
  have d2 : decide (2000 < (T.size : Int)) = false := by simp only [decide_eq_false_iff_not]; omega
  have hne : o ≠ n := fun h => cg (.inr (.inr h))
  have d3 : (o == n) = false := by rw [beq_eq_false_iff_ne]; exact hne
  have hSl : S.data.toList.length ≤ 2000 := by rw [size_list]; omega
  have hTl : T.data.toList.length ≤ 2000 := by rw [size_list]; omega
  have MA := Lib.hid (fun W h g => frame_Make o o0 o1 S (by omega) W h g)
  have MB := Lib.hid (fun W h g => frame_Make n n0 n1 T (by omega) W h g)
  obtain ⟨LA, hLA⟩ : ∃ L, L = (makeF o S.data.toList).1.map ofL := ⟨_, rfl⟩
  obtain ⟨ca, hca⟩ : ∃ c, c = (makeF o S.data.toList).2 := ⟨_, rfl⟩
  obtain ⟨LB, hLB⟩ : ∃ L, L = (makeF n T.data.toList).1.map ofL := ⟨_, rfl⟩
  obtain ⟨cb, hcb⟩ : ∃ c, c = (makeF n T.data.toList).2 := ⟨_, rfl⟩
  rw [← hLA, ← hca] at MA
  rw [← hLB, ← hcb] at MB
  have HLA := Lib.hid hLA; have HLB := Lib.hid hLB; have Hca := Lib.hid hca; have Hcb := Lib.hid hcb
  clear cg hLA hLB hca hcb
  go_enter Tryd.func10, Tryd.ntmps10
  go_wp2_with fail
  go_quiet (fail)
  have hB : Below w.heap.size w ((w.alloc (.cells #[.int .u32 o, .int .u32 n] 80)).drewN nq) := ⟨rfl, rfl, rfl, by simp, fun k hk => Below.heap_alloc _ _ _ hk⟩
  generalize ((w.alloc (.cells #[.int .u32 o, .int .u32 n] 80)).drewN nq) = W at hB ⊢
  have HW := Lib.hid (HW0.out.below hB)
  have B0 := Lib.hid hB
  clear hB
  go_wp2_with fail
  refine (MA.out _ HW.out.et HW.out.tbl).mono ?_; rintro e w1 ⟨v, rfl, hv, hb1⟩
  have B1 := Lib.hid (bstep B0.out hb1)
  have HW1 := Lib.hid (HW.out.below hb1)
  have HV := Lib.hid hv
  clear hb1 hv
  go_wp2_with fail
  refine (MB.out _ HW1.out.et HW1.out.tbl).mono ?_; rintro e w2 ⟨u, rfl, hu, hb2⟩
  have B2 := Lib.hid (bstep B1.out hb2)
  have HW2 := Lib.hid (HW1.out.below hb2)
  have HV2 := Lib.hid (HV.out.below hb2)
  have HU := Lib.hid hu
  clear hb2 hu
  have hLA := HLA.out; have hLB := HLB.out; have hca := Hca.out; have hcb := Hcb.out
  clear HLA HLB Hca Hcb
  by_cases z : o = 0 ∨ n = 0
  · have hq : ((ca != 0) = true ∧ (o == 0) = true) ∨ ((ca != 0) = false ∧ (cb != 0) = true ∧ (o == 0) = false ∧ (n == 0) = true) := by
      by_cases zo : o = 0
      · refine .inl ⟨?_, by rw [zo]; rfl⟩
        rw [hca, zo]; unfold makeF; rw [if_pos rfl]; rfl
      · have zn : n = 0 := z.resolve_left zo
        refine .inr ⟨?_, ?_, by rw [beq_eq_false_iff_ne]; exact zo, by rw [zn]; rfl⟩
        · rw [hca, makeF_ok zo hSl]; rfl
        · rw [hcb, zn]; unfold makeF; rw [if_pos rfl]; rfl
    clear hca hcb hLA hLB z
    rcases hq with ⟨q1, q2⟩ | ⟨q1, q2, q3, q4⟩
    all_goals
      go_wp2_with fail
      refine (WK.out _ HW2.out).mono ?_; rintro e w3 ⟨rfl, hb3⟩
      have B3 := Lib.hid (bstep B2.out hb3)
      clear hb3
      go_wp2_with fail
      go_ret
      exact ⟨rfl, B3.out⟩
  have zo : o ≠ 0 := fun h => z (.inl h)
  have zn : n ≠ 0 := fun h => z (.inr h)
  rw [makeF_ok zo hSl] at hLA hca
  rw [makeF_ok zn hTl] at hLB hcb
  obtain ⟨A, XA, hXA, hAl, hA4, hA5⟩ := first_sec o S.data.toList
  obtain ⟨B, XB, hXB, hBl, hB4, hB5⟩ := first_sec n T.data.toList
  obtain rfl : ca = 0 := hca
  obtain rfl : cb = 0 := hcb
  have hLA' : LA = A :: XA := hLA.trans hXA
  have hLB' : LB = B :: XB := hLB.trans hXB
  obtain ⟨pv, cv, rfl, hcv⟩ := HV2.out.form
  obtain ⟨pu, cu, rfl, hcu⟩ := HU.out.form
  obtain ⟨bv, ov, rfl, hsv⟩ := HV2.out.atN rfl (k := 0) (by rw [hLA']; simp)
  obtain ⟨bu, ou, rfl, hsu⟩ := HU.out.atN rfl (k := 0) (by rw [hLB']; simp)
  have cA := hsv.at' 0 (by rw [hLA']; simp)
  have cB := hsu.at' 0 (by rw [hLB']; simp)
  simp only [hLA', hLB', List.getElem_cons_zero, Nat.add_zero] at cA cB
  have hAs : A.size = 256 := by rw [← size_list]; exact hAl
  have hBs : B.size = 256 := by rw [← size_list]; exact hBl
  obtain ⟨la, hla⟩ : ∃ k, k = LA.length := ⟨_, rfl⟩
  obtain ⟨lb, hlb⟩ : ∃ k, k = LB.length := ⟨_, rfl⟩
  have hla0 : 0 < la := by rw [hla, hLA']; simp
  have hlb0 : 0 < lb := by rw [hlb, hLB']; simp
  rw [← hla, ← hlb]
  have TS := Lib.hid (fun i hi => torn_say (i := i) hAl hBl (by omega : 0 < o) o1 (by omega : 0 < n) n1 hne hA4 hA5 hB4 hB5 hi)
  have TE := Lib.hid (fun i hi hlt => torn_end (i := i) hAl hBl (by omega : 0 < o) o1 (by omega : 0 < n) n1 hlt hA5 hB5 hi)
  have TL := Lib.hid (fun i hi => tornL_length (i := i) hAl hBl hi)
  have Hne := Lib.hid hne
  have q1 : ((la : Int) == 0) = false := by rw [beq_eq_false_iff_ne]; omega
  have q2 : ((lb : Int) == 0) = false := by rw [beq_eq_false_iff_ne]; omega
  have q3 : (0 : Int) < (la : Int) := by omega
  have q4 : (0 : Int) < (lb : Int) := by omega
  have q5 : ((A.size : Int) != 256) = false := by rw [hAs]; rfl
  have q6 : ((B.size : Int) != 256) = false := by rw [hBs]; rfl
  have C2 : Hid (w2.cell? ⟨bv, ov, none⟩ = some (.string A) ∧ w2.cell? ⟨bu, ou, none⟩ = some (.string B)) := ⟨cA, cB⟩
  have cA0 := cA
  have cB0 := cB
  clear hLA hLB hLA' hLB' hXA hXB hla hlb hla0 hlb0 hcv hcu hAl hA4 hA5 hBl hB4 hB5 z hsv hsu hne
  go_wp2_with fail
  clear cA cB cA0 cB0
  go_loopw [13] (fun cc wr => ∃ i : Nat, i ≤ 257 ∧ cc = .int .i64 i ∧ Below w.heap.size w wr ∧ Below w2.heap.size w2 wr) (fun cc _ => 257 - (intOf cc).toNat)
  case atStart => exact ⟨0, Nat.zero_le _, rfl, B2.out, Below.refl _ _⟩
  case round =>
    obtain ⟨i, hi, rfl, hbw, hb2⟩ := hrel
    have HBW := Lib.hid hbw
    have HB2 := Lib.hid hb2
    have WR := Lib.hid (HW0.out.below hbw)
    clear hbw
    by_cases hlt : i ≤ 256
    · have hlt1 : (i : Int) ≤ 256 := by omega
      have hi0 : (0 : Int) ≤ (i : Int) := by omega
      have hi1 : ¬ (i : Int) < 0 := by omega
      have cA : wr.cell? ⟨bv, ov, none⟩ = some (.string A) := cell_below C2.out.1 hb2
      have cB : wr.cell? ⟨bu, ou, none⟩ = some (.string B) := cell_below C2.out.2 hb2
      clear hb2
      have l1 : (i : Int) ≤ (A.size : Int) := by omega
      have l2 : (i : Int) ≤ (B.size : Int) := by omega
      obtain ⟨X, hX⟩ : ∃ X, X = B.extract 0 i ++ A.extract i 256 := ⟨_, rfl⟩
      have l3 : ¬ 9223372036854775807 < (B.extract 0 i).size + (A.extract i 256).size := by simp [hAs, hBs]; omega
      have l4 : ¬ 9223372036854775807 < (B.extract 0 i).size + (A.extract i A.size).size := by simp [hAs, hBs]; omega
      have hXl : X.data.toList = tornL A.data.toList B.data.toList i := by
        rw [hX, list_append, extract_list, extract_list, tornL, List.drop_zero, Nat.sub_zero]
        congr 1
        exact List.take_of_length_le (by rw [List.length_drop, size_list, hAs]; omega)
      go_wp2_with fail
      go_quiet (fail)
      rw [← hX]
      have hts := TS.out i hlt
      have hXz : X.size = 256 := by rw [← size_list, hXl]; exact TL.out i hlt
      have hend : o < n → valLE (X.data.toList.drop 252) ≤ n := fun h => by rw [hXl]; exact TE.out i hlt h
      have hB3 : Hid (Below wr.heap.size wr (wr.drewN nq)) := below_dN _ _
      generalize wr.drewN nq = wd at hB3 ⊢
      have NB := Lib.hid (fun W => frame_Num X W)
      rw [hXl] at NB
      have cB3 : wd.cell? ⟨bu, ou, none⟩ = some (.string B) := cell_below cB hB3.out
      have HCB := Lib.hid cB3
      have EN := Lib.hid (fun W => ref18_End (X.extract 252 256) (by simp [hXz]) W)
      rw [extract_list, List.take_of_length_le (by rw [List.length_drop, size_list, hXz]; decide)] at EN
      obtain ⟨v, hv⟩ : ∃ v, v = valLE (X.data.toList.drop 252) := ⟨_, rfl⟩
      rw [← hv] at EN hend
      have xe : tornL A.data.toList B.data.toList i = B.data.toList → (X.toList == B.toList) = true := fun h => by
        rw [Lib.toList_data, Lib.toList_data, hXl, h]; simp
      have xn : tornL A.data.toList B.data.toList i ≠ B.data.toList → (X.toList == B.toList) = false := fun h => by
        rw [Lib.toList_data, Lib.toList_data, hXl, beq_eq_false_iff_ne]; exact h
      have gt : (decide (o < n) = false) ∨ (decide (o < n) = true ∧ o < n ∧ ¬ n < v) := by
        by_cases h : o < n
        · exact .inr ⟨by simpa using h, h, by have := hend h; omega⟩
        · exact .inl (by simpa using h)
      obtain ⟨m, hm⟩ : ∃ m, m = numF (tornL A.data.toList B.data.toList i) := ⟨_, rfl⟩
      rw [← hm] at NB hts
      have l5 : (252 : Int) ≤ (X.size : Int) := by omega
      have hcs : ((m != 0) = false ∧ (m == n) = false ∧ (X.toList == B.toList) = false ∧ ((i : Int) == 0) = false) ∨
          ((m != 0) = true ∧ (m != o) = false ∧ (m == n) = false ∧ (X.toList == B.toList) = false) ∨
          ((m != 0) = true ∧ (m != o) = true ∧ (m != n) = false ∧ (m == n) = true ∧ (X.toList == B.toList) = true ∧ ((i : Int) == 0) = false) := by
        rcases hts with ⟨h1, h2, h3⟩ | ⟨h1, h2⟩ | ⟨h1, h2, h3⟩
        · refine .inl ⟨by rw [h1]; rfl, ?_, xn h2, by rw [beq_eq_false_iff_ne]; omega⟩
          rw [h1, beq_eq_false_iff_ne]; exact fun h => zn h.symm
        · refine .inr (.inl ⟨by rw [h1, bne_iff_ne]; exact zo, by rw [h1]; simp, ?_, xn h2⟩)
          rw [h1, beq_eq_false_iff_ne]; exact Hne.out
        · refine .inr (.inr ⟨by rw [h1, bne_iff_ne]; exact zn, ?_, by rw [h1]; simp, by rw [h1]; simp, xe h2, by rw [beq_eq_false_iff_ne]; omega⟩)
          rw [h1, bne_iff_ne]; exact fun h => Hne.out h.symm
      clear hX l1 l2 l3 l4 hXl cA cB hts hend hv xe xn hm
      go_wp2_with fail
      refine (NB.out _).mono ?_; rintro e wn ⟨rfl, hbn⟩
      have Bn := Lib.hid (bstep (bstep HBW.out hB3.out) hbn)
      have Bn2 := Lib.hid (bstep (bstep HB2.out hB3.out) hbn)
      have cBn : wn.cell? ⟨bu, ou, none⟩ = some (.string B) := cell_below HCB.out hbn
      clear hbn cB3
      rcases gt with g1 | ⟨g1, g2, g3⟩
      · rcases hcs with ⟨e1, e2, e3, e4⟩ | ⟨e1, e2, e3, e4⟩ | ⟨e1, e2, e3, e4, e5, e6⟩
        · go_wp2_with fail
          exact ⟨⟨i + 1, by omega, by rw [Int.natCast_add]; rfl, Bn.out, Bn2.out⟩, by simp [intOf]; omega⟩
        · by_cases iz : ((i : Int) == 0) = true
          · go_wp2_with fail
            exact ⟨⟨i + 1, by omega, by rw [Int.natCast_add]; rfl, Bn.out, Bn2.out⟩, by simp [intOf]; omega⟩
          · rw [Bool.not_eq_true] at iz
            go_wp2_with fail
            exact ⟨⟨i + 1, by omega, by rw [Int.natCast_add]; rfl, Bn.out, Bn2.out⟩, by simp [intOf]; omega⟩
        · go_wp2_with fail
          exact ⟨⟨i + 1, by omega, by rw [Int.natCast_add]; rfl, Bn.out, Bn2.out⟩, by simp [intOf]; omega⟩
      · rcases hcs with ⟨e1, e2, e3, e4⟩ | ⟨e1, e2, e3, e4⟩ | ⟨e1, e2, e3, e4, e5, e6⟩
        · go_wp2_with fail
          refine (EN.out _).mono ?_; rintro e wx ⟨rfl, rfl⟩
          go_wp2_with fail
          exact ⟨⟨i + 1, by omega, by rw [Int.natCast_add]; rfl, Bn.out, Bn2.out⟩, by simp [intOf]; omega⟩
        · by_cases iz : ((i : Int) == 0) = true
          · go_wp2_with fail
            refine (EN.out _).mono ?_; rintro e wx ⟨rfl, rfl⟩
            go_wp2_with fail
            exact ⟨⟨i + 1, by omega, by rw [Int.natCast_add]; rfl, Bn.out, Bn2.out⟩, by simp [intOf]; omega⟩
          · rw [Bool.not_eq_true] at iz
            go_wp2_with fail
            refine (EN.out _).mono ?_; rintro e wx ⟨rfl, rfl⟩
            go_wp2_with fail
            exact ⟨⟨i + 1, by omega, by rw [Int.natCast_add]; rfl, Bn.out, Bn2.out⟩, by simp [intOf]; omega⟩
        · go_wp2_with fail
          refine (EN.out _).mono ?_; rintro e wx ⟨rfl, rfl⟩
          go_wp2_with fail
          exact ⟨⟨i + 1, by omega, by rw [Int.natCast_add]; rfl, Bn.out, Bn2.out⟩, by simp [intOf]; omega⟩
    · have hlt1 : ¬ (i : Int) ≤ 256 := by omega
      go_wp2_with fail
      refine (WK.out _ WR.out).mono ?_; rintro e w4 ⟨rfl, hb4⟩
      have B4 := Lib.hid (bstep HBW.out hb4)
      clear hb4
      go_wp2_with fail
      go_ret
      exact ⟨rfl, B4.out⟩
end Go.Proofs.YtbopppnlgicpeaaDoor
