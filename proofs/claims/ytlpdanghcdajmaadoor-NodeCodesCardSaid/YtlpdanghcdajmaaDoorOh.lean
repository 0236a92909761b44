/- Layer 23: Same: two copies of one node are alike. -/
import Derived.Test.YtlpdanghcdajmaaDoorOd
namespace Go.Proofs.YtlpdanghcdajmaaDoor
open Go.RowKit
set_option maxRecDepth 100000 in
set_option maxHeartbeats 4000000 in
theorem law23_Same (n : Nd) (v1 v2 v3 u1 u2 u3 : Value) (w : World) (h : NdAt w v1 v2 v3 n) (k : NdAt w u1 u2 u3 n) :
    Calls Tryd.prog 52 #[.agg #[.bool n.lf, v1, v2, v3], .agg #[.bool n.lf, u1, u2, u3]] w fun e w' => e = .returned (.bool true) ∧ Below w.heap.size w w' := by
  obtain ⟨p1, d1, p2, d2, p3, d3, rfl, rfl, rfl⟩ := h.form
  obtain ⟨q1, e1, q2, e2, q3, e3, rfl, rfl, rfl⟩ := k.form
  obtain ⟨w0, hw0⟩ : ∃ w0, w0 = (w.alloc (.cells #[.bool n.lf, .slice p1 n.I.length d1, .slice p2 n.K.length d2, .slice p3 n.D.length d3] 77)).alloc (.cells #[.bool n.lf, .slice q1 n.I.length e1, .slice q2 n.K.length e2, .slice q3 n.D.length e3] 77) := ⟨_, rfl⟩
  have B0 : Hid (Below w.heap.size w w0) := by show Below _ _ _; rw [hw0]; exact (bal (bal ⟨Below.refl _ _, Nat.le_refl _⟩ _) _).1
  have H0 := Lib.hid (h.below B0.out)
  have K0 := Lib.hid (k.below B0.out)
  have bx : Hid (w0.heap[w.heap.size]? = some (.cells #[.bool n.lf, .slice p1 n.I.length d1, .slice p2 n.K.length d2, .slice p3 n.D.length d3] 77 (0, 0))) := by show _ = _; rw [hw0]; exact blk_alloc (blk_new _ _)
  have by' : Hid (w0.heap[w.heap.size + 1]? = some (.cells #[.bool n.lf, .slice q1 n.I.length e1, .slice q2 n.K.length e2, .slice q3 n.D.length e3] 77 (0, 0))) := by
    show _ = _
    rw [hw0]
    exact kN _ (by simp)
  have lI := h.lI
  have lK := h.lK
  have lD := h.lD
  clear h k
  go_enter Tryd.func52, Tryd.ntmps52
  have hc := blk_cell bx.out
  have hd := blk_cell by'.out
  go_upto_region 1 with (fail)
  try rw [← hw0]
  clear hw0
  go_wp2_with fail
  go_loopw [5] (fun iv wr => ∃ k : Nat, k ≤ n.I.length ∧ iv = .int .i64 k ∧ Below w0.heap.size w0 wr) (fun iv _ => n.I.length - (intOf iv).toNat)
  case atStart => exact ⟨0, Nat.zero_le _, rfl, Below.refl _ _⟩
  case round =>
    obtain ⟨k, hk, rfl, hB⟩ := hrel
    have HB := Lib.hid hB
    have hcr := blk_cell (blk_below bx.out hB)
    have hdr := blk_cell (blk_below by'.out hB)
    clear hB hc hd
    by_cases hlt : k < n.I.length
    · have hi : (k : Int) < (n.I.length : Int) := by omega
      obtain ⟨b, off, rfl, hI⟩ := (H0.out.below HB.out).I.at hlt
      obtain ⟨b', off', rfl, hJ⟩ := (K0.out.below HB.out).I.at hlt
      have c0 := hI.key k hlt
      have c1 := hI.size k hlt
      have c2 := hI.text k hlt
      have c3 := hI.page k hlt
      have g0 := hJ.key k hlt
      have g1 := hJ.size k hlt
      have g2 := hJ.text k hlt
      have g3 := hJ.page k hlt
      obtain ⟨x, hx⟩ : ∃ x, x = n.I[k] := ⟨_, rfl⟩
      rw [← hx] at c0 c1 c2 c3 g0 g1 g2 g3
      clear hx hI hJ
      obtain ⟨xk, xs, xt, xp⟩ := x
      simp only at c0 c1 c2 c3 g0 g1 g2 g3
      go_wp2_with fail
      go_quiet (fail)
      go_wp2_with fail
      go_roundw
      case rel => exact ⟨k + 1, by omega, by go_num, ⟨HB.out.os, HB.out.tape, HB.out.output, HB.out.size, HB.out.block⟩⟩
      case measure => simp [intOf]; omega
    · have hi : ¬ (k : Int) < (n.I.length : Int) := by omega
      have BI := HB
      go_wp2_with fail
      clear hi hlt hcr hdr
      go_loopw [6] (fun iv wr => ∃ k : Nat, k ≤ n.K.length ∧ iv = .int .i64 k ∧ Below w0.heap.size w0 wr) (fun iv _ => n.K.length - (intOf iv).toNat)
      case atStart => exact ⟨0, Nat.zero_le _, rfl, BI.out⟩
      case round =>
        obtain ⟨k, hk, rfl, hB⟩ := hrel
        have HB := Lib.hid hB
        have hcr := blk_cell (blk_below bx.out hB)
        have hdr := blk_cell (blk_below by'.out hB)
        clear hB
        by_cases hlt : k < n.K.length
        · have hi : (k : Int) < (n.K.length : Int) := by omega
          obtain ⟨b, off, rfl, hI⟩ := (H0.out.below HB.out).K.at hlt
          obtain ⟨b', off', rfl, hJ⟩ := (K0.out.below HB.out).K.at hlt
          have c0 := hI.at' k hlt
          have g0 := hJ.at' k hlt
          obtain ⟨x, hx⟩ : ∃ x, x = n.K[k] := ⟨_, rfl⟩
          rw [← hx] at c0 g0
          clear hx hI hJ
          go_wp2_with fail
          go_quiet (fail)
          go_wp2_with fail
          go_roundw
          case rel => exact ⟨k + 1, by omega, by go_num, ⟨HB.out.os, HB.out.tape, HB.out.output, HB.out.size, HB.out.block⟩⟩
          case measure => simp [intOf]; omega
        · have hi : ¬ (k : Int) < (n.K.length : Int) := by omega
          have BK := HB
          go_wp2_with fail
          clear hi hlt hcr hdr
          go_loopw [7] (fun iv wr => ∃ k : Nat, k ≤ n.D.length ∧ iv = .int .i64 k ∧ Below w0.heap.size w0 wr) (fun iv _ => n.D.length - (intOf iv).toNat)
          case atStart => exact ⟨0, Nat.zero_le _, rfl, BK.out⟩
          case round =>
            obtain ⟨k, hk, rfl, hB⟩ := hrel
            have HB := Lib.hid hB
            have hcr := blk_cell (blk_below bx.out hB)
            have hdr := blk_cell (blk_below by'.out hB)
            clear hB
            by_cases hlt : k < n.D.length
            · have hi : (k : Int) < (n.D.length : Int) := by omega
              obtain ⟨b, off, rfl, hI⟩ := (H0.out.below HB.out).D.at hlt
              obtain ⟨b', off', rfl, hJ⟩ := (K0.out.below HB.out).D.at hlt
              have c0 := hI.at' k hlt
              have g0 := hJ.at' k hlt
              obtain ⟨x, hx⟩ : ∃ x, x = n.D[k] := ⟨_, rfl⟩
              rw [← hx] at c0 g0
              clear hx hI hJ
              go_wp2_with fail
              go_quiet (fail)
              go_wp2_with fail
              go_roundw
              case rel => exact ⟨k + 1, by omega, by go_num, ⟨HB.out.os, HB.out.tape, HB.out.output, HB.out.size, HB.out.block⟩⟩
              case measure => simp [intOf]; omega
            · have hi : ¬ (k : Int) < (n.D.length : Int) := by omega
              have BD := Lib.hid (bstep B0.out HB.out)
              go_wp2_with fail
              go_ret
              exact ⟨rfl, BD.out⟩
end Go.Proofs.YtlpdanghcdajmaaDoor
