/- Layer 23: the reference's Good of a leaf; Good. -/
import Derived.Test.YtlpdanghcdajmaaDoorOc
import Derived.Deep.DeepCutAuto
import Derived.Deep.CutBlock
namespace Go.Proofs.YtlpdanghcdajmaaDoor
open Go.RowKit
theorem goodI_small (k z : Int) (t : ByteArray) (p : Int) (h : z ≤ 40) : goodI ⟨k, z, t, p⟩ = (decide (0 ≤ z) && ((t.size : Int) == z) && (p == 0)) := by unfold goodI; rw [if_pos h]
theorem goodI_large (k z : Int) (t : ByteArray) (p : Int) (h : 40 < z) : goodI ⟨k, z, t, p⟩ = (decide (z ≤ 2000) && t.toList.isEmpty && pageB p) := by unfold goodI; rw [if_neg (by simp only; omega)]
set_option maxRecDepth 100000 in
set_option maxHeartbeats 8000000 in
theorem ref_Good_leaf (I : List It) (K D : List Int) (v1 v2 v3 : Value) (w : World) (h : NdAt w v1 v2 v3 ⟨true, I, K, D⟩) :
    Calls Tryd.prog 49 #[.agg #[.bool true, v1, v2, v3]] w fun e w' => e = .returned (.bool (goodN true I K D)) ∧ Below w.heap.size w w' := by
  obtain ⟨p1, d1', p2, d2', p3, d3', rfl, rfl, rfl⟩ := h.form
  simp only at *
  have hr : goodN true I K D = (decide (K.length + D.length = 0) && decide (I.length ≤ 255) && !(I.any fun x => !goodI x) && risesB (I.map It.key)) := rfl
  have Hr := Lib.hid hr
  have hml : (I.map It.key).length = I.length := List.length_map ..
  have Hml := Lib.hid hml
  clear hr hml
  obtain ⟨w0, hw0⟩ : ∃ w0, w0 = w.alloc (.cells #[.bool true, .slice p1 I.length d1', .slice p2 K.length d2', .slice p3 D.length d3'] 77) := ⟨_, rfl⟩
  have B0 : Hid (Below w.heap.size w w0) := by show Below _ _ _; rw [hw0]; exact below_a1 _ _
  have H0 : Hid (NdAt w0 (.slice p1 I.length d1') (.slice p2 K.length d2') (.slice p3 D.length d3') ⟨true, I, K, D⟩) := by show NdAt _ _ _ _ _; exact h.below B0.out
  have bx : Hid (w0.heap[w.heap.size]? = some (.cells #[.bool true, .slice p1 I.length d1', .slice p2 K.length d2', .slice p3 D.length d3'] 77 (0, 0))) := by show _ = _; rw [hw0]; exact blk_new _ _
  have lI := h.lI
  simp only at lI
  clear h
  go_enter Tryd.func49, Tryd.ntmps49
  have hc := blk_cell bx.out
  go_upto_region 1 with (fail)
  rw [← hw0]
  clear hw0
  go_wp2_with fail
  go_loopw [5] (fun iv wr => ∃ k : Nat, k ≤ I.length ∧ iv = .int .i64 k ∧ (∀ j (hj : j < I.length), j < k → goodI I[j] = true) ∧ (∀ j, 0 < j → j < k → (I.map It.key).getD (j - 1) 0 < (I.map It.key).getD j 0) ∧ Below w0.heap.size w0 wr) (fun iv _ => I.length - (intOf iv).toNat)
  case atStart => exact ⟨0, Nat.zero_le _, rfl, fun j _ h => absurd h (by omega), fun j h1 h2 => absurd h2 (by omega), Below.refl _ _⟩
  case round =>
    obtain ⟨k, hk, rfl, hpre, hris, hB⟩ := hrel
    have HP := Lib.hid hpre
    have HR := Lib.hid hris
    have HB := Lib.hid hB
    have bxr := Lib.hid (blk_below bx.out hB)
    have hcr := blk_cell bxr.out
    have hzr : w0.heap.size ≤ wr.heap.size := hB.size
    have hbl : w.heap.size < wr.heap.size := blk_lt bxr.out
    clear hpre hris hB hc
    by_cases hlt : k < I.length
    rotate_left
    · have hi : ¬ (k : Int) < (I.length : Int) := by omega
      have hBB := Lib.hid (bstep B0.out HB.out)
      have hany : Hid ((I.any fun x => !goodI x) = false) := any_none fun j hj => by rw [HP.out j hj (by omega)]; rfl
      have hrs : Hid (risesB (I.map It.key) = true) := (risesB_iff _).2 fun j h1 h2 => HR.out j h1 (by rw [Hml.out] at h2; omega)
      have hq : Hid (goodN true I K D = (decide (K.length + D.length = 0) && decide (I.length ≤ 255))) := by
        show _ = _
        rw [Hr.out, hany.out, hrs.out]; simp
      clear HP HR
      by_cases a2 : I.length ≤ 255
      rotate_left
      · have x2 : ¬ (I.length : Int) ≤ 255 := by omega
        go_wp2_with fail
        go_ret
        exact ⟨by rw [hq.out, decide_eq_false a2]; simp, hBB.out⟩
      have x2 : (I.length : Int) ≤ 255 := by omega
      by_cases a3 : K.length = 0
      rotate_left
      · have x3 : ¬ (K.length : Int) = 0 := by omega
        have x4 : ((K.length : Int) == 0) = false := by rw [beq_eq_false_iff_ne]; exact x3
        have x5 : ¬ K.length + D.length = 0 := by omega
        go_wp2_with fail
        go_ret
        exact ⟨by rw [hq.out, decide_eq_false x5]; rfl, hBB.out⟩
      have x3 : ((K.length : Int) == 0) = true := by rw [beq_iff_eq]; omega
      by_cases a4 : D.length = 0
      rotate_left
      · have x3 : ¬ (D.length : Int) = 0 := by omega
        have x4 : ((D.length : Int) == 0) = false := by rw [beq_eq_false_iff_ne]; exact x3
        have x5 : ¬ K.length + D.length = 0 := by omega
        go_wp2_with fail
        go_ret
        exact ⟨ret_bool (by rw [hq.out, decide_eq_false x5]; simp [x4]), hBB.out⟩
      · have x4 : ((D.length : Int) == 0) = true := by rw [beq_iff_eq]; omega
        go_wp2_with fail
        go_ret
        exact ⟨ret_bool (by rw [hq.out]; simp [a2, a3, a4]), hBB.out⟩
    have hi : (k : Int) < (I.length : Int) := by omega
    obtain ⟨b, off, rfl, hI⟩ := (H0.out.below HB.out).I.at hlt
    have HI := Lib.hid hI
    have c0 := hI.key k hlt
    have c1 := hI.size k hlt
    have c2 := hI.text k hlt
    have c3 := hI.page k hlt
    have hbb : b < wr.heap.size := hI.lt (fun e => by subst e; simp at hlt)
    obtain ⟨x, hx⟩ : ∃ x, x = I[k] := ⟨_, rfl⟩
    rw [← hx] at c0 c1 c2 c3
    have Hx := Lib.hid hx
    have hbadI : goodI x = false → goodN true I K D = false := fun hg => by
      rw [Hr.out, any_of hlt (by rw [← Hx.out, hg]; rfl)]; simp
    have HBad := Lib.hid hbadI
    have hgky : (I.map It.key).getD k 0 = x.key := by rw [key_getD hlt, hx]
    have Gy := Lib.hid hgky
    clear hx hI hbadI hgky
    obtain ⟨xk, xs, xt, xp⟩ := x
    simp only at c0 c1 c2 c3
    obtain ⟨wa, hwa⟩ : ∃ wa, wa = wr.alloc (.cells #[.int .u32 xk, .int .i64 xs, .string xt, .int .i64 xp] 128) := ⟨_, rfl⟩
    have bqa : wa.heap[wr.heap.size]? = some (.cells #[.int .u32 xk, .int .i64 xs, .string xt, .int .i64 xp] 128 (0, 0)) := by rw [hwa]; exact blk_new _ _
    have BA : Hid (Below w0.heap.size w0 wa) := by show Below _ _ _; rw [hwa]; exact HB.out.alloc hzr _
    have bxa : wa.heap[w.heap.size]? = some (.cells #[.bool true, .slice (some ⟨b, off, none⟩) I.length d1', .slice p2 K.length d2', .slice p3 D.length d3'] 77 (0, 0)) := by rw [hwa]; exact blk_alloc bxr.out
    have IA : Hid (ItemsAt wa b off I) := by show ItemsAt _ _ _ _; rw [hwa]; exact HI.out.below (below_a1 _ _)
    have BBA := Lib.hid (bstep B0.out BA.out)
    have hcq := blk_cell bqa
    have hcx := blk_cell bxa
    go_upto_region 17 with (fail)
    rw [← hwa]
    clear hwa hcr c0 c1 c2 c3 bqa bxa
    by_cases s0 : xs < 0
    · have d0 : decide (xs < 0) = true := by simp [s0]
      have z0 : xs ≤ 40 := by omega
      go_wp2_with fail
      go_quiet (fail)
      go_wp2_with fail
      go_ret
      exact ⟨by rw [HBad.out (by rw [goodI_small xk xs xt xp (by omega)]; simp; omega)]; rfl, ⟨BBA.out.os, BBA.out.tape, BBA.out.output, BBA.out.size, BBA.out.block⟩⟩
    have d0 : decide (xs < 0) = false := by simp [s0]
    by_cases s1 : 2000 < xs
    · have d1 : decide (2000 < xs) = true := by simp [s1]
      have z0 : ¬ xs ≤ 40 := by omega
      have z1 : ¬ xs ≤ 2000 := by omega
      go_wp2_with fail
      go_quiet (fail)
      go_wp2_with fail
      go_ret
      exact ⟨by rw [HBad.out (by rw [goodI_large xk xs xt xp (by omega), decide_eq_false (by omega : ¬ xs ≤ 2000)]; rfl)]; rfl, ⟨BBA.out.os, BBA.out.tape, BBA.out.output, BBA.out.size, BBA.out.block⟩⟩
    have d1 : decide (2000 < xs) = false := by simp [s1]
    by_cases hk0' : k = 0
    · subst hk0'
      go_wp2_with fail
      go_quiet (fail)
      obtain ⟨wb, hwb⟩ : ∃ wb, wb = wa.drewN nq := ⟨_, rfl⟩
      rw [← hwb]
      have BB : Hid (Below w0.heap.size w0 wb) := by show Below _ _ _; rw [hwb]; exact ⟨BA.out.os, BA.out.tape, BA.out.output, BA.out.size, BA.out.block⟩
      have BBB := Lib.hid (bstep B0.out BB.out)
      have hcq : ∀ o, wb.cell? ⟨wr.heap.size, o, none⟩ = (#[.int .u32 xk, .int .i64 xs, .string xt, .int .i64 xp] : Array Value)[o]? := by rw [hwb]; exact hcq
      clear hwb
      by_cases z0 : xs ≤ 40
      · have dz : decide (xs ≤ 40) = true := by simp [z0]
        have dz2 : decide (40 < xs) = false := by simp; omega
        have nz2 : ¬ 40 < xs := by omega
        by_cases e1 : (xt.size : Int) = xs
        rotate_left
        · have e2 : ((xt.size : Int) != xs) = true := by rw [bne_iff_ne]; exact e1
          have e3 : ((xt.size : Int) == xs) = false := by rw [beq_eq_false_iff_ne]; exact e1
          go_wp2_with fail
          go_ret
          exact ⟨by rw [HBad.out (by rw [goodI_small xk xs xt xp (by omega), e3]; simp)]; rfl, BBB.out⟩
        have e2 : ((xt.size : Int) != xs) = false := by rw [bne_eq_false_iff_eq]; exact e1
        have e3 : ((xt.size : Int) == xs) = true := by rw [beq_iff_eq]; exact e1
        have E1 := Lib.hid e1
        clear e1
        by_cases f1 : xp = 0
        rotate_left
        · have f2 : (xp != 0) = true := by rw [bne_iff_ne]; exact f1
          have f3 : (xp == 0) = false := by rw [beq_eq_false_iff_ne]; exact f1
          go_wp2_with fail
          go_ret
          exact ⟨by rw [HBad.out (by rw [goodI_small xk xs xt xp (by omega), f3]; simp)]; rfl, BBB.out⟩
        have f2 : (xp != 0) = false := by rw [bne_eq_false_iff_eq]; exact f1
        have f3 : (xp == 0) = true := by rw [beq_iff_eq]; exact f1
        have F1 := Lib.hid f1
        clear f1
        have hgood : goodI ⟨xk, xs, xt, xp⟩ = true := by rw [goodI_small xk xs xt xp (by omega), e3, f3]; simp; omega
        have HG := Lib.hid hgood
        clear hgood
        go_wp2_with fail
        go_roundw
        case rel =>
          refine ⟨0 + 1, by omega, by go_num, fun j hj hjk => ?_, fun j h1 h2 => ?_, BB.out⟩
          · by_cases hjk' : j = 0
            · subst hjk'; rw [← Hx.out]; exact HG.out
            · exact HP.out j hj (by omega)
          · by_cases hjk' : j = 0
            · subst hjk'; exact absurd h1 (by omega)
            · exact HR.out j h1 (by omega)
        case measure => simp [intOf]; omega
      · have z1 : 40 < xs := by omega
        have dz : decide (xs ≤ 40) = false := by simp; omega
        have dz2 : decide (40 < xs) = true := by simp; omega
        by_cases e1 : xt = ⟨#[]⟩
        rotate_left
        · have e4 : ¬ xt.toList = [] := fun h => e1 (by apply bytes_ext; rw [← ByteArray.toList_eq]; exact h)
          have e3 : (xt.toList == []) = false := by rw [beq_eq_false_iff_ne]; exact e4
          have e2 : (xt.toList != []) = true := by rw [bne_iff_ne]; exact e4
          go_wp2_with fail
          go_ret
          exact ⟨by rw [HBad.out (by rw [goodI_large xk xs xt xp (by omega)]; simp [e4])]; rfl, BBB.out⟩
        subst e1
        cases hp : pageB xp with
        | false =>
          have Hp := Lib.hid hp
          clear hp
          go_wp2_with fail
          refine (ref23_page _ _).mono ?_; rintro e w9 ⟨rfl, rfl⟩
          rw [Hp.out]
          go_wp2_with fail
          go_ret
          exact ⟨by rw [HBad.out (by rw [goodI_large xk xs ⟨#[]⟩ xp (by omega)]; simp [Hp.out])]; rfl, BBB.out⟩
        | true =>
          have Hp := Lib.hid hp
          clear hp
          have hgood : goodI ⟨xk, xs, ⟨#[]⟩, xp⟩ = true := by
            have z2 : xs ≤ 2000 := by omega
            rw [goodI_large xk xs ⟨#[]⟩ xp (by omega)]; simp [Hp.out, z2] <;> rfl
          have HG := Lib.hid hgood
          clear hgood
          go_wp2_with fail
          refine (ref23_page _ _).mono ?_; rintro e w9 ⟨rfl, rfl⟩
          rw [Hp.out]
          go_wp2_with fail
          go_roundw
          case rel =>
            refine ⟨0 + 1, by omega, by go_num, fun j hj hjk => ?_, fun j h1 h2 => ?_, BB.out⟩
            · by_cases hjk' : j = 0
              · subst hjk'; rw [← Hx.out]; exact HG.out
              · exact HP.out j hj (by omega)
            · by_cases hjk' : j = 0
              · subst hjk'; exact absurd h1 (by omega)
              · exact HR.out j h1 (by omega)
          case measure => simp [intOf]; omega
    have hk0 : (0 : Int) < (k : Int) := by omega
    have dk : decide ((0 : Int) < (k : Int)) = true := by simp; omega
    have hkn : 0 < k := by omega
    have m0 : (0 : Int) ≤ (k : Int) - 1 := by omega
    have m1 : (k : Int) - 1 < (I.length : Int) := by omega
    have m4 : (1 : Int) ≤ (k : Int) := by omega
    have m6 : (k : Int) < (I.length : Int) + 1 := by omega
    have m5 : 1 ≤ k := by omega
    have m8 : k - 1 < I.length := by omega
    have m2 : ((k : Int) - 1).toNat = k - 1 := by omega
    have m3 : IntKind.i64.wrap ((k : Int) - 1) = (k : Int) - 1 := IntWalk.i64_in _ (by omega)
    have cy := IA.out.key (k - 1) m8
    have hgkx := key_getD (l := I) m8
    obtain ⟨y, hy⟩ : ∃ y, y = I[k - 1].key := ⟨_, rfl⟩
    rw [← hy] at cy hgkx
    have Gx := Lib.hid hgkx
    clear hy hgkx
    by_cases hxy : y < xk
    · have hge : ¬ xk ≤ y := by omega
      have dge : decide (xk ≤ y) = false := by simp; omega
      go_wp2_with fail
      go_quiet (fail)
      obtain ⟨wb, hwb⟩ : ∃ wb, wb = wa.drewN nq := ⟨_, rfl⟩
      rw [← hwb]
      have BB : Hid (Below w0.heap.size w0 wb) := by show Below _ _ _; rw [hwb]; exact ⟨BA.out.os, BA.out.tape, BA.out.output, BA.out.size, BA.out.block⟩
      have BBB := Lib.hid (bstep B0.out BB.out)
      have hcq : ∀ o, wb.cell? ⟨wr.heap.size, o, none⟩ = (#[.int .u32 xk, .int .i64 xs, .string xt, .int .i64 xp] : Array Value)[o]? := by rw [hwb]; exact hcq
      clear hwb
      by_cases z0 : xs ≤ 40
      · have dz : decide (xs ≤ 40) = true := by simp [z0]
        have dz2 : decide (40 < xs) = false := by simp; omega
        have nz2 : ¬ 40 < xs := by omega
        by_cases e1 : (xt.size : Int) = xs
        rotate_left
        · have e2 : ((xt.size : Int) != xs) = true := by rw [bne_iff_ne]; exact e1
          have e3 : ((xt.size : Int) == xs) = false := by rw [beq_eq_false_iff_ne]; exact e1
          go_wp2_with fail
          go_ret
          exact ⟨by rw [HBad.out (by rw [goodI_small xk xs xt xp (by omega), e3]; simp)]; rfl, BBB.out⟩
        have e2 : ((xt.size : Int) != xs) = false := by rw [bne_eq_false_iff_eq]; exact e1
        have e3 : ((xt.size : Int) == xs) = true := by rw [beq_iff_eq]; exact e1
        have E1 := Lib.hid e1
        clear e1
        by_cases f1 : xp = 0
        rotate_left
        · have f2 : (xp != 0) = true := by rw [bne_iff_ne]; exact f1
          have f3 : (xp == 0) = false := by rw [beq_eq_false_iff_ne]; exact f1
          go_wp2_with fail
          go_ret
          exact ⟨by rw [HBad.out (by rw [goodI_small xk xs xt xp (by omega), f3]; simp)]; rfl, BBB.out⟩
        have f2 : (xp != 0) = false := by rw [bne_eq_false_iff_eq]; exact f1
        have f3 : (xp == 0) = true := by rw [beq_iff_eq]; exact f1
        have F1 := Lib.hid f1
        clear f1
        have hgood : goodI ⟨xk, xs, xt, xp⟩ = true := by rw [goodI_small xk xs xt xp (by omega), e3, f3]; simp; omega
        have HG := Lib.hid hgood
        clear hgood
        go_wp2_with fail
        go_roundw
        case rel =>
          refine ⟨k + 1, by omega, by go_num, fun j hj hjk => ?_, fun j h1 h2 => ?_, BB.out⟩
          · by_cases hjk' : j = k
            · subst hjk'; rw [← Hx.out]; exact HG.out
            · exact HP.out j hj (by omega)
          · by_cases hjk' : j = k
            · subst hjk'; rw [Gx.out, Gy.out]; exact hxy
            · exact HR.out j h1 (by omega)
        case measure => simp [intOf]; omega
      · have z1 : 40 < xs := by omega
        have dz : decide (xs ≤ 40) = false := by simp; omega
        have dz2 : decide (40 < xs) = true := by simp; omega
        by_cases e1 : xt = ⟨#[]⟩
        rotate_left
        · have e4 : ¬ xt.toList = [] := fun h => e1 (by apply bytes_ext; rw [← ByteArray.toList_eq]; exact h)
          have e3 : (xt.toList == []) = false := by rw [beq_eq_false_iff_ne]; exact e4
          have e2 : (xt.toList != []) = true := by rw [bne_iff_ne]; exact e4
          go_wp2_with fail
          go_ret
          exact ⟨by rw [HBad.out (by rw [goodI_large xk xs xt xp (by omega)]; simp [e4])]; rfl, BBB.out⟩
        subst e1
        cases hp : pageB xp with
        | false =>
          have Hp := Lib.hid hp
          clear hp
          go_wp2_with fail
          refine (ref23_page _ _).mono ?_; rintro e w9 ⟨rfl, rfl⟩
          rw [Hp.out]
          go_wp2_with fail
          go_ret
          exact ⟨by rw [HBad.out (by rw [goodI_large xk xs ⟨#[]⟩ xp (by omega)]; simp [Hp.out])]; rfl, BBB.out⟩
        | true =>
          have Hp := Lib.hid hp
          clear hp
          have hgood : goodI ⟨xk, xs, ⟨#[]⟩, xp⟩ = true := by
            have z2 : xs ≤ 2000 := by omega
            rw [goodI_large xk xs ⟨#[]⟩ xp (by omega)]; simp [Hp.out, z2] <;> rfl
          have HG := Lib.hid hgood
          clear hgood
          go_wp2_with fail
          refine (ref23_page _ _).mono ?_; rintro e w9 ⟨rfl, rfl⟩
          rw [Hp.out]
          go_wp2_with fail
          go_roundw
          case rel =>
            refine ⟨k + 1, by omega, by go_num, fun j hj hjk => ?_, fun j h1 h2 => ?_, BB.out⟩
            · by_cases hjk' : j = k
              · subst hjk'; rw [← Hx.out]; exact HG.out
              · exact HP.out j hj (by omega)
            · by_cases hjk' : j = k
              · subst hjk'; rw [Gx.out, Gy.out]; exact hxy
              · exact HR.out j h1 (by omega)
          case measure => simp [intOf]; omega
    · have hge : xk ≤ y := by omega
      have dge : decide (xk ≤ y) = true := by simp; omega
      have hno : Hid (goodN true I K D = false) := by
        show _ = _
        rw [Hr.out, risesB_not (by omega) (by rw [Hml.out]; exact hlt) (by rw [Gx.out, Gy.out]; exact hxy)]; simp
      go_wp2_with fail
      go_quiet (fail)
      go_wp2_with fail
      go_ret
      exact ⟨by rw [hno.out]; rfl, ⟨BBA.out.os, BBA.out.tape, BBA.out.output, BBA.out.size, BBA.out.block⟩⟩
theorem ref_Good (n : Nd) (v1 v2 v3 : Value) (w : World) (h : NdAt w v1 v2 v3 n) :
    Calls Tryd.prog 49 #[.agg #[.bool n.lf, v1, v2, v3]] w fun e w' => e = .returned (.bool n.good) ∧ Below w.heap.size w w' := by
  obtain ⟨lf, I, K, D⟩ := n
  cases lf with
  | true => exact ref_Good_leaf I K D v1 v2 v3 w h
  | false => exact ref_Good_inner I K D v1 v2 v3 w h
end Go.Proofs.YtlpdanghcdajmaaDoor
