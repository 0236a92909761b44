/- Layer 23: fair. -/
import Derived.Test.YtlpdanghcdajmaaDoorOd
import Derived.Test.YtlpdanghcdajmaaDoorOpn
namespace Go.Proofs.YtlpdanghcdajmaaDoor
open Go.RowKit
/-- What fair answers: true only where there are not too many. -/
def FairEnd (n : Nd) (e : Ending) : Prop := ∃ c, e = .returned (.bool c) ∧ (c = true → n.I.length ≤ 300 ∧ n.K.length ≤ 300 ∧ n.D.length ≤ 300)
theorem FairEnd.no {n : Nd} {e : Ending} (h : e = .returned (.bool false)) : FairEnd n e := ⟨false, h, fun h => by cases h⟩
theorem FairEnd.yes {n : Nd} {e : Ending} {c : Bool} (h : e = .returned (.bool c)) (h1 : n.I.length ≤ 300) (h2 : n.K.length ≤ 300) (h3 : n.D.length ≤ 300) : FairEnd n e := ⟨c, h, fun _ => ⟨h1, h2, h3⟩⟩
set_option maxRecDepth 100000 in
set_option maxHeartbeats 4000000 in
theorem law23_fair (n : Nd) (v1 v2 v3 : Value) (w : World) (h : NdIn w v1 v2 v3 n) :
    Calls Tryd.prog 41 #[.agg #[.bool n.lf, v1, v2, v3]] w fun e w' => FairEnd n e ∧ Below w.heap.size w w' := by
  obtain ⟨p1, d1, e1⟩ := h.I.form
  obtain ⟨p2, d2, e2⟩ := h.K.form
  obtain ⟨p3, d3, e3⟩ := h.D.form
  subst e1 e2 e3
  obtain ⟨w0, hw0⟩ : ∃ w0, w0 = w.alloc (.cells #[.bool n.lf, .slice p1 n.I.length d1, .slice p2 n.K.length d2, .slice p3 n.D.length d3] 73) := ⟨_, rfl⟩
  have B0 : Hid (Below w.heap.size w w0) := by show Below _ _ _; rw [hw0]; exact below_a1 _ _
  have H0 : Hid (SlItems w0 (.slice p1 n.I.length d1) n.I) := by show SlItems _ _ _; exact h.I.below B0.out
  have bx : Hid (w0.heap[w.heap.size]? = some (.cells #[.bool n.lf, .slice p1 n.I.length d1, .slice p2 n.K.length d2, .slice p3 n.D.length d3] 73 (0, 0))) := by show _ = _; rw [hw0]; exact blk_new _ _
  clear h
  go_enter Tryd.func41, Tryd.ntmps41
  have hc := blk_cell bx.out
  go_upto_region 1 with (fail)
  rw [← hw0]
  clear hw0
  go_wp2_with fail
  go_loop [3] (fun iv => ∃ k : Nat, k ≤ 400 ∧ iv = .int .i64 k) (fun iv => 400 - (intOf iv).toNat)
  case atStart => exact ⟨0, by omega, rfl⟩
  case round =>
    obtain ⟨k, hk, rfl⟩ := hrel
    by_cases hgo : k < n.I.length ∧ k < 400
    · obtain ⟨hlt, h4⟩ := hgo
      have hi : (k : Int) < (n.I.length : Int) := by omega
      have hj : (k : Int) < 400 := by omega
      obtain ⟨b, off, rfl, hI⟩ := H0.out.at hlt
      have c0 := hI.text k hlt
      clear hI
      obtain ⟨x, hx⟩ : ∃ x, x = n.I[k].text := ⟨_, rfl⟩
      rw [← hx] at c0
      clear hx
      by_cases hz : 3000 < x.size
      · have hz1 : (3000 : Int) < (x.size : Int) := by omega
        go_wp2_with fail
        go_ret
        exact ⟨FairEnd.no rfl, B0.out⟩
      · have hz1 : ¬ (3000 : Int) < (x.size : Int) := by omega
        go_wp2_with fail
        go_round
        case rel => exact ⟨k + 1, by omega, by go_num⟩
        case measure => simp [intOf]; omega
    · by_cases a1 : n.I.length ≤ 300
      · have hlt : ¬ (k : Int) < (n.I.length : Int) := by omega
        have x1 : (n.I.length : Int) ≤ 300 := by omega
        by_cases a2 : n.K.length ≤ 300
        · have x2 : (n.K.length : Int) ≤ 300 := by omega
          by_cases a3 : n.D.length ≤ 300
          · have x3 : (n.D.length : Int) ≤ 300 := by omega
            go_wp2_with fail
            go_ret
            exact ⟨FairEnd.yes rfl a1 a2 a3, B0.out⟩
          · have x3 : ¬ (n.D.length : Int) ≤ 300 := by omega
            go_wp2_with fail
            go_ret
            exact ⟨FairEnd.no (ret_bool (by simp)), B0.out⟩
        · have x2 : ¬ (n.K.length : Int) ≤ 300 := by omega
          go_wp2_with fail
          go_ret
          exact ⟨FairEnd.no rfl, B0.out⟩
      · have x1 : ¬ (n.I.length : Int) ≤ 300 := by omega
        by_cases hlt : k < n.I.length
        · have hi : (k : Int) < (n.I.length : Int) := by omega
          have hj : ¬ (k : Int) < 400 := by omega
          go_wp2_with fail
          go_ret
          exact ⟨FairEnd.no rfl, B0.out⟩
        · have hi : ¬ (k : Int) < (n.I.length : Int) := by omega
          go_wp2_with fail
          go_ret
          exact ⟨FairEnd.no rfl, B0.out⟩
theorem NdIn.below {w w' : World} {v1 v2 v3 : Value} {n : Nd} (h : NdIn w v1 v2 v3 n) (hb : Below w.heap.size w w') : NdIn w' v1 v2 v3 n := ⟨h.I.below hb, h.K.below hb, h.D.below hb, h.lI, h.lK, h.lD, h.typed⟩
theorem NdIn.at {w : World} {v1 v2 v3 : Value} {n : Nd} (h : NdIn w v1 v2 v3 n) (h1 : n.I.length ≤ 300) (h2 : n.K.length ≤ 300) (h3 : n.D.length ≤ 300) : NdAt w v1 v2 v3 n := ⟨h.I, h.K, h.D, by omega, by omega, by omega⟩
theorem NdIn.form {w : World} {v1 v2 v3 : Value} {n : Nd} (h : NdIn w v1 v2 v3 n) : ∃ p1 c1 p2 c2 p3 c3, v1 = .slice p1 n.I.length c1 ∧ v2 = .slice p2 n.K.length c2 ∧ v3 = .slice p3 n.D.length c3 := by
  obtain ⟨p1, c1, e1⟩ := h.I.form
  obtain ⟨p2, c2, e2⟩ := h.K.form
  obtain ⟨p3, c3, e3⟩ := h.D.form
  exact ⟨p1, c1, p2, c2, p3, c3, e1, e2, e3⟩
end Go.Proofs.YtlpdanghcdajmaaDoor
