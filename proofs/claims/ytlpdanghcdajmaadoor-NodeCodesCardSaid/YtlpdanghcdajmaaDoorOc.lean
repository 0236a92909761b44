/- Layer 23: the reference's Good. -/
import Derived.Test.YtlpdanghcdajmaaDoorOa
import Derived.BigQuiet
namespace Go.Proofs.YtlpdanghcdajmaaDoor
open Go.RowKit
theorem any_of {α : Type} {l : List α} {p : α → Bool} {k : Nat} (h : k < l.length) (hp : p l[k] = true) : l.any p = true := List.any_eq_true.2 ⟨l[k], List.getElem_mem _, hp⟩
theorem any_none {α : Type} {l : List α} {p : α → Bool} (h : ∀ j (hj : j < l.length), p l[j] = false) : l.any p = false := by
  rw [List.any_eq_false]
  intro x hx
  obtain ⟨i, hi, rfl⟩ := List.getElem_of_mem hx
  rw [h i hi]; decide
set_option maxRecDepth 100000 in
set_option maxHeartbeats 4000000 in
theorem ref_Good_inner (I : List It) (K D : List Int) (v1 v2 v3 : Value) (w : World) (h : NdAt w v1 v2 v3 ⟨false, I, K, D⟩) :
    Calls Tryd.prog 49 #[.agg #[.bool false, v1, v2, v3]] w fun e w' => e = .returned (.bool (goodN false I K D)) ∧ Below w.heap.size w w' := by
  obtain ⟨p1, c1, p2, c2, p3, c3, rfl, rfl, rfl⟩ := h.form
  simp only at *
  have hr : goodN false I K D = (decide (I.length = 0) && decide (1 ≤ K.length) && decide (K.length ≤ 255) && decide (D.length = K.length + 1) && !(D.any fun x => !pageB x) && risesB K) := rfl
  have Hr := Lib.hid hr
  clear hr
  obtain ⟨w0, hw0⟩ : ∃ w0, w0 = w.alloc (.cells #[.bool false, .slice p1 I.length c1, .slice p2 K.length c2, .slice p3 D.length c3] 77) := ⟨_, rfl⟩
  have B0 : Hid (Below w.heap.size w w0) := by show Below _ _ _; rw [hw0]; exact below_a1 _ _
  have H0 : Hid (NdAt w0 (.slice p1 I.length c1) (.slice p2 K.length c2) (.slice p3 D.length c3) ⟨false, I, K, D⟩) := by show NdAt _ _ _ _ _; exact h.below B0.out
  have bx : Hid (w0.heap[w.heap.size]? = some (.cells #[.bool false, .slice p1 I.length c1, .slice p2 K.length c2, .slice p3 D.length c3] 77 (0, 0))) := by show _ = _; rw [hw0]; exact blk_new _ _
  have lK := h.lK
  have lD := h.lD
  simp only at lK lD
  clear h
  go_enter Tryd.func49, Tryd.ntmps49
  have hc := blk_cell bx.out
  go_upto_region 1 with (fail)
  rw [← hw0]
  clear hw0
  go_wp2_with fail
  go_loop [3] (fun iv => ∃ k : Nat, k ≤ D.length ∧ iv = .int .i64 k ∧ ∀ j (hj : j < D.length), j < k → pageB D[j] = true) (fun iv => D.length - (intOf iv).toNat)
  case atStart => exact ⟨0, Nat.zero_le _, rfl, fun j _ h => absurd h (by omega)⟩
  case round =>
    obtain ⟨k, hk, rfl, hpre⟩ := hrel
    have HP := Lib.hid hpre
    clear hpre
    by_cases hlt : k < D.length
    · have hi : (k : Int) < (D.length : Int) := by omega
      obtain ⟨b, off, rfl, hI⟩ := H0.out.D.at hlt
      have c0 := hI.at' k hlt
      clear hI
      obtain ⟨x, hx⟩ : ∃ x, x = D[k] := ⟨_, rfl⟩
      rw [← hx] at c0
      have Hx := Lib.hid hx
      clear hx
      cases hpx : pageB x with
      | true =>
        have Hpx := Lib.hid hpx
        clear hpx
        go_wp2_with fail
        refine (ref23_page _ _).mono ?_; rintro e w1 ⟨rfl, rfl⟩
        rw [Hpx.out]
        go_wp2_with fail
        go_round
        case rel =>
          refine ⟨k + 1, by omega, by go_num, fun j hj hjk => ?_⟩
          by_cases hjk' : j = k
          · subst hjk'; rw [← Hx.out]; exact Hpx.out
          · exact HP.out j hj (by omega)
        case measure => simp [intOf]; omega
      | false =>
        have Hpx := Lib.hid hpx
        clear hpx
        have hno : Hid (goodN false I K D = false) := by
          show _ = _
          rw [Hr.out, any_of hlt (by rw [← Hx.out, Hpx.out]; rfl)]; simp
        go_wp2_with fail
        refine (ref23_page _ _).mono ?_; rintro e w1 ⟨rfl, rfl⟩
        rw [Hpx.out]
        go_wp2_with fail
        go_ret
        exact ⟨by rw [hno.out]; rfl, B0.out⟩
    · have hi : ¬ (k : Int) < (D.length : Int) := by omega
      have hany : Hid ((D.any fun x => !pageB x) = false) := any_none fun j hj => by rw [HP.out j hj (by omega)]; rfl
      clear HP
      go_wp2_with fail
      clear hi hlt
      go_loopw [4] (fun iv wr => ∃ k : Nat, 1 ≤ k ∧ (k ≤ K.length ∨ k = 1) ∧ iv = .int .i64 k ∧ (∀ j, 0 < j → j < k → K.getD (j - 1) 0 < K.getD j 0) ∧ Below w0.heap.size w0 wr) (fun iv _ => K.length - (intOf iv).toNat)
      case atStart => exact ⟨1, Nat.le_refl _, .inr rfl, rfl, fun j h1 h2 => absurd h2 (by omega), Below.refl _ _⟩
      case round =>
        obtain ⟨k, hk1, hk2, rfl, hpre, hB⟩ := hrel
        have HP := Lib.hid hpre
        have HB := Lib.hid hB
        have bxr := blk_below bx.out hB
        have hcr := blk_cell bxr
        clear hpre hB hc
        by_cases hlt : k < K.length
        · have hi : (k : Int) < (K.length : Int) := by omega
          have hk0 : (0 : Int) < (k : Int) := by omega
          have m0 : (0 : Int) ≤ (k : Int) - 1 := by omega
          have m1 : (k : Int) - 1 < (K.length : Int) := by omega
          have m4 : (1 : Int) ≤ (k : Int) := by omega
          have m6 : (k : Int) < (K.length : Int) + 1 := by omega
          have m8 : k - 1 < K.length := by omega
          have m2 : ((k : Int) - 1).toNat = k - 1 := by omega
          have m3 : IntKind.i64.wrap ((k : Int) - 1) = (k : Int) - 1 := IntWalk.i64_in _ (by omega)
          have hkn : 0 < k := by omega
          have hkz : k ≠ 0 := by omega
          obtain ⟨b, off, rfl, hI⟩ := (H0.out.below HB.out).K.at hlt
          have c0 := hI.at' (k - 1) m8
          have c1 := hI.at' k hlt
          have gx : K.getD (k - 1) 0 = K[k - 1] := by simp [List.getD, List.getElem?_eq_getElem m8]
          have gy : K.getD k 0 = K[k] := by simp [List.getD, List.getElem?_eq_getElem hlt]
          obtain ⟨x, hx⟩ : ∃ x, x = K[k - 1] := ⟨_, rfl⟩
          obtain ⟨y, hy⟩ : ∃ y, y = K[k] := ⟨_, rfl⟩
          rw [← hx] at c0 gx
          rw [← hy] at c1 gy
          have Gx := Lib.hid gx
          have Gy := Lib.hid gy
          clear hx hy hI gx gy
          by_cases hxy : x < y
          · have hge : ¬ y ≤ x := by omega
            have hgd : decide (y ≤ x) = false := by simp [hge]
            go_wp2_with fail
            go_quiet (fail)
            go_wp2_with fail
            go_roundw
            case rel =>
              refine ⟨k + 1, by omega, .inl (by omega), by go_num, fun j h1 h2 => ?_, ⟨HB.out.os, HB.out.tape, HB.out.output, HB.out.size, HB.out.block⟩⟩
              by_cases hjk : j = k
              · subst hjk; rw [Gx.out, Gy.out]; exact hxy
              · exact HP.out j h1 (by omega)
            case measure => simp [intOf]; omega
          · have hge : y ≤ x := by omega
            have hgd : decide (y ≤ x) = true := by simp [hge]
            have hno : Hid (goodN false I K D = false) := by
              show _ = _
              rw [Hr.out, risesB_not (by omega) hlt (by rw [Gx.out, Gy.out]; omega)]; simp
            go_wp2_with fail
            go_quiet (fail)
            go_wp2_with fail
            go_ret
            have hBB := bstep B0.out HB.out
            exact ⟨by rw [hno.out]; rfl, ⟨hBB.os, hBB.tape, hBB.output, hBB.size, hBB.block⟩⟩
        · have hi : ¬ (k : Int) < (K.length : Int) := by omega
          have hBB := Lib.hid (bstep B0.out HB.out)
          have hrs : Hid (risesB K = true) := (risesB_iff K).2 fun j h1 h2 => HP.out j h1 (by omega)
          have hq : Hid (goodN false I K D = (decide (I.length = 0) && decide (1 ≤ K.length) && decide (K.length ≤ 255) && decide (D.length = K.length + 1))) := by
            show _ = _
            rw [Hr.out, hany.out, hrs.out]; simp
          clear HP
          by_cases a1 : I.length = 0
          rotate_left
          · have x1 : ¬ (I.length : Int) = 0 := by omega
            have x2 : ((I.length : Int) == 0) = false := by rw [beq_eq_false_iff_ne]; exact x1
            go_wp2_with fail
            go_ret
            exact ⟨by rw [hq.out, decide_eq_false a1]; rfl, hBB.out⟩
          by_cases a2 : 1 ≤ K.length
          rotate_left
          · have x0 : (I.length : Int) = 0 := by omega
            have x1 : ¬ (1 : Int) ≤ (K.length : Int) := by omega
            go_wp2_with fail
            go_ret
            exact ⟨by rw [hq.out, decide_eq_false a2]; simp, hBB.out⟩
          by_cases a3 : K.length ≤ 255
          rotate_left
          · have x0 : (I.length : Int) = 0 := by omega
            have x1 : (1 : Int) ≤ (K.length : Int) := by omega
            have x2 : ¬ (K.length : Int) ≤ 255 := by omega
            go_wp2_with fail
            go_ret
            exact ⟨by rw [hq.out, decide_eq_false a3]; simp, hBB.out⟩
          have x0 : (I.length : Int) = 0 := by omega
          have x1 : (1 : Int) ≤ (K.length : Int) := by omega
          have x2 : (K.length : Int) ≤ 255 := by omega
          by_cases a4 : D.length = K.length + 1
          · have x4 : ((D.length : Int) == (K.length : Int) + 1) = true := by rw [beq_iff_eq]; omega
            go_wp2_with fail
            go_ret
            exact ⟨ret_bool (by rw [hq.out]; simp [a1, a2, a3, a4]), hBB.out⟩
          · have x3 : ¬ (D.length : Int) = (K.length : Int) + 1 := by omega
            have x4 : ((D.length : Int) == (K.length : Int) + 1) = false := by rw [beq_eq_false_iff_ne]; exact x3
            go_wp2_with fail
            go_ret
            exact ⟨ret_bool (by rw [hq.out, decide_eq_false a4]; simp), hBB.out⟩
end Go.Proofs.YtlpdanghcdajmaaDoor
