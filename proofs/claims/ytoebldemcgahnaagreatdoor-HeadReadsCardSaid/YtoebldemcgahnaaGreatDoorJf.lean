/- Heads (layer 20): the document's Write. -/
import Derived.Test.YtoebldemcgahnaaGreatDoorJe
import Derived.Test.YtoebldemcgahnaaGreatDoorHc
import Derived.Test.YtoebldemcgahnaaGreatDoorDzf
namespace Go.Proofs.YtoebldemcgahnaaGreatDoor
open Go.RowKit
set_option maxRecDepth 20000 in
set_option maxHeartbeats 4000000 in
theorem ref20_Write (h : Hd) (e0 : 0 ≤ h.e) (e1 : h.e < 4294967296) (f0 : 0 ≤ h.f) (f1 : h.f < 4294967296) (q sb cb c1 c2 n : Nat) (kv : Value) (d : Dk) (ok : d.Ok) (w : World) (hd : RefAny w q sb cb c1 c2 n kv d) :
    Calls Tryz.prog 58 #[.pointer (some ⟨q, 0, none⟩), h.v] w fun e w' => e = .returned (.int .i64 (d.putH h).2) ∧ RefAny w' q sb cb c1 c2 n kv (d.putH h).1 ∧ Fr (RfS q sb cb) w w' := by
  have hnn : (n : Int) = d.n := by obtain ⟨rn, h⟩ := hd; exact h.hn
  have LY := Lib.hid (fun W => ref20_Lay (n : Int) W)
  rw [hnn] at LY
  have RT : Hid (∀ W, Below w.heap.size w W → W.cell? ⟨q, 0, none⟩ = some (.slice (some ⟨sb, 0, none⟩) n c1) ∧ W.cell? ⟨q, 2, none⟩ = some (.bool d.dead)) := fun W h => ref_two (hd.below h)
  have EN := Lib.hid (fun W => ref20_Encode h e0 e1 f0 f1 W)
  have HD := Lib.hid hd
  have WR := Lib.hid (fun W k1 => ref_Write (h.e % 2) (ofL h.sec) q sb cb c1 c2 n kv d ok W k1)
  have m1 : h.e.tmod 2 = h.e % 2 := Int.tmod_eq_emod_of_nonneg e0
  have m2 : IntKind.i64.wrap (h.e % 2) = h.e % 2 := IntWalk.i64_in _ (by omega)
  obtain ⟨w0, hw0⟩ : ∃ w0, w0 = w.alloc (.cells #[.int .u32 h.e, .int .i64 h.r, .int .u32 h.f] 65) := ⟨_, rfl⟩
  have B0 : Hid (Below w.heap.size w w0) := by show Below _ _ _; rw [hw0]; exact below_a1 _ _
  have X0 : Hid (w0.heap[w.heap.size]? = some (.cells #[.int .u32 h.e, .int .i64 h.r, .int .u32 h.f] 65 (0, 0))) := by show _ = _; rw [hw0]; exact blk_new _ _
  have HW0 := Lib.hid hw0
  have Hnn := Lib.hid hnn
  clear hd ok hw0
  obtain ⟨x, c, hx⟩ : ∃ x c, layN d.n = (x, c) := ⟨_, _, rfl⟩
  obtain ⟨x0, x1, x2, x3⟩ := x
  by_cases c0 : c = 0
  · subst c0
    have hl : (layN d.n).2 = 0 := by rw [hx]
    have hl3 : (layN d.n).1.2.2.2 = x3 := by rw [hx]
    by_cases gd : h.good
    · rw [enc_good gd] at EN
      by_cases hr : x3 ≤ h.r
      · rw [putH_far hl gd (by rw [hl3]; exact hr)]
        rw [hx] at LY
        rw [← hnn] at LY
        unfold layV at LY
        dsimp only at LY
        clear hl hl3 gd hx WR hnn
        obtain ⟨e, r, f⟩ := h
        unfold Hd.v at EN ⊢
        dsimp only at *
        go_enter Tryz.func58, Tryz.ntmps58
        go_upto_region 1 with (fail)
        rw [← HW0.out]
        have hq0 := (RT.out _ B0.out).1
        go_wp2_with fail
        refine (LY.out _).mono ?_; rintro z w1 ⟨rfl, hb⟩
        have B1 := Lib.hid (bstep B0.out hb)
        have X1 := Lib.hid (blk_below X0.out hb)
        clear hb hq0
        go_upto_region 4 with (fail)
        obtain ⟨w2, hw2⟩ : ∃ w2, w2 = w1.alloc (.cells #[.int .i64 x0, .int .i64 x1, .int .i64 x2, .int .i64 x3] 59) := ⟨_, rfl⟩
        have B2 : Hid (Below w.heap.size w w2) := by show Below _ _ _; rw [hw2]; exact bstep B1.out (below_a1 _ _)
        have X2 : Hid (w2.heap[w.heap.size]? = some (.cells #[.int .u32 e, .int .i64 r, .int .u32 f] 65 (0, 0))) := by show _ = _; rw [hw2]; exact blk_alloc X1.out
        have Y2 : Hid (w2.heap[w1.heap.size]? = some (.cells #[.int .i64 x0, .int .i64 x1, .int .i64 x2, .int .i64 x3] 59 (0, 0))) := by show _ = _; rw [hw2]; exact blk_new _ _
        rw [← hw2]
        clear hw2
        have hc2 := blk_cell X2.out
        go_wp2_with fail
        refine (EN.out _).mono ?_; rintro z w3 ⟨rfl, hb⟩
        have B3 := Lib.hid (bstep B2.out hb)
        have X3 := Lib.hid (blk_below X2.out hb)
        have Y3 := Lib.hid (blk_below Y2.out hb)
        clear hb hc2
        have hc3 := blk_cell X3.out
        have hy3 := blk_cell Y3.out
        go_wp2_with fail
        go_ret
        exact ⟨rfl, HD.out.below B3.out, Fr.of_below B3.out⟩
      · rw [putH_ok hl gd (by rw [hl3]; exact hr)]
        rw [hx] at LY
        rw [← hnn] at LY
        unfold layV at LY
        dsimp only at LY
        obtain ⟨S, hS⟩ : ∃ S, S = ofL h.sec := ⟨_, rfl⟩
        rw [← hS] at WR EN ⊢
        clear hl hl3 gd hx hS hnn
        obtain ⟨e, r, f⟩ := h
        unfold Hd.v at EN ⊢
        dsimp only at *
        go_enter Tryz.func58, Tryz.ntmps58
        go_upto_region 1 with (fail)
        rw [← HW0.out]
        have hq0 := (RT.out _ B0.out).1
        go_wp2_with fail
        refine (LY.out _).mono ?_; rintro z w1 ⟨rfl, hb⟩
        have B1 := Lib.hid (bstep B0.out hb)
        have X1 := Lib.hid (blk_below X0.out hb)
        clear hb hq0
        go_upto_region 4 with (fail)
        obtain ⟨w2, hw2⟩ : ∃ w2, w2 = w1.alloc (.cells #[.int .i64 x0, .int .i64 x1, .int .i64 x2, .int .i64 x3] 59) := ⟨_, rfl⟩
        have B2 : Hid (Below w.heap.size w w2) := by show Below _ _ _; rw [hw2]; exact bstep B1.out (below_a1 _ _)
        have X2 : Hid (w2.heap[w.heap.size]? = some (.cells #[.int .u32 e, .int .i64 r, .int .u32 f] 65 (0, 0))) := by show _ = _; rw [hw2]; exact blk_alloc X1.out
        have Y2 : Hid (w2.heap[w1.heap.size]? = some (.cells #[.int .i64 x0, .int .i64 x1, .int .i64 x2, .int .i64 x3] 59 (0, 0))) := by show _ = _; rw [hw2]; exact blk_new _ _
        rw [← hw2]
        clear hw2
        have hc2 := blk_cell X2.out
        go_wp2_with fail
        refine (EN.out _).mono ?_; rintro z w3 ⟨rfl, hb⟩
        have B3 := Lib.hid (bstep B2.out hb)
        have X3 := Lib.hid (blk_below X2.out hb)
        have Y3 := Lib.hid (blk_below Y2.out hb)
        clear hb hc2
        have hc3 := blk_cell X3.out
        have hy3 := blk_cell Y3.out
        go_wp2_with fail
        refine (WR.out _ (HD.out.below B3.out)).mono ?_; rintro z w4 ⟨rfl, hd4, hf4⟩
        have D4 := Lib.hid hd4
        have F4 := Lib.hid ((Fr.of_below (S := RfS q sb cb) B3.out).trans hf4)
        clear hd4 hf4
        go_wp2_with fail
        go_ret
        exact ⟨rfl, D4.out, F4.out⟩
    · rw [enc_bad gd] at EN
      rw [putH_bad hl gd]
      rw [hx] at LY
      rw [← hnn] at LY
      unfold layV at LY
      dsimp only at LY
      clear hl hl3 gd hx WR hnn
      obtain ⟨e, r, f⟩ := h
      unfold Hd.v at EN ⊢
      dsimp only at *
      go_enter Tryz.func58, Tryz.ntmps58
      go_upto_region 1 with (fail)
      rw [← HW0.out]
      have hq0 := (RT.out _ B0.out).1
      go_wp2_with fail
      refine (LY.out _).mono ?_; rintro z w1 ⟨rfl, hb⟩
      have B1 := Lib.hid (bstep B0.out hb)
      have X1 := Lib.hid (blk_below X0.out hb)
      clear hb hq0
      go_upto_region 4 with (fail)
      obtain ⟨w2, hw2⟩ : ∃ w2, w2 = w1.alloc (.cells #[.int .i64 x0, .int .i64 x1, .int .i64 x2, .int .i64 x3] 59) := ⟨_, rfl⟩
      have B2 : Hid (Below w.heap.size w w2) := by show Below _ _ _; rw [hw2]; exact bstep B1.out (below_a1 _ _)
      have X2 : Hid (w2.heap[w.heap.size]? = some (.cells #[.int .u32 e, .int .i64 r, .int .u32 f] 65 (0, 0))) := by show _ = _; rw [hw2]; exact blk_alloc X1.out
      have Y2 : Hid (w2.heap[w1.heap.size]? = some (.cells #[.int .i64 x0, .int .i64 x1, .int .i64 x2, .int .i64 x3] 59 (0, 0))) := by show _ = _; rw [hw2]; exact blk_new _ _
      rw [← hw2]
      clear hw2
      have hc2 := blk_cell X2.out
      go_wp2_with fail
      refine (EN.out _).mono ?_; rintro z w3 ⟨rfl, hb⟩
      have B3 := Lib.hid (bstep B2.out hb)
      have X3 := Lib.hid (blk_below X2.out hb)
      have Y3 := Lib.hid (blk_below Y2.out hb)
      clear hb hc2
      have hc3 := blk_cell X3.out
      have hy3 := blk_cell Y3.out
      go_wp2_with fail
      go_ret
      exact ⟨rfl, HD.out.below B3.out, Fr.of_below B3.out⟩
  · have hl : (layN d.n).2 ≠ 0 := by rw [hx]; exact c0
    rw [putH_lay hl]
    rw [hx] at LY ⊢
    rw [← hnn] at LY
    unfold layV at LY
    dsimp only at LY ⊢
    have q0 : (c != 0) = true := by rw [bne_iff_ne]; exact c0
    clear hl hx WR c0 hnn
    obtain ⟨e, r, f⟩ := h
    unfold Hd.v at EN ⊢
    dsimp only at *
    go_enter Tryz.func58, Tryz.ntmps58
    go_upto_region 1 with (fail)
    rw [← HW0.out]
    have hq0 := (RT.out _ B0.out).1
    go_wp2_with fail
    refine (LY.out _).mono ?_; rintro z w1 ⟨rfl, hb⟩
    have B1 := Lib.hid (bstep B0.out hb)
    have X1 := Lib.hid (blk_below X0.out hb)
    clear hb hq0
    go_upto_region 4 with (fail)
    obtain ⟨w2, hw2⟩ : ∃ w2, w2 = w1.alloc (.cells #[.int .i64 x0, .int .i64 x1, .int .i64 x2, .int .i64 x3] 59) := ⟨_, rfl⟩
    have B2 : Hid (Below w.heap.size w w2) := by show Below _ _ _; rw [hw2]; exact bstep B1.out (below_a1 _ _)
    have X2 : Hid (w2.heap[w.heap.size]? = some (.cells #[.int .u32 e, .int .i64 r, .int .u32 f] 65 (0, 0))) := by show _ = _; rw [hw2]; exact blk_alloc X1.out
    have Y2 : Hid (w2.heap[w1.heap.size]? = some (.cells #[.int .i64 x0, .int .i64 x1, .int .i64 x2, .int .i64 x3] 59 (0, 0))) := by show _ = _; rw [hw2]; exact blk_new _ _
    rw [← hw2]
    clear hw2
    go_wp2_with fail
    go_ret
    exact ⟨rfl, HD.out.below B2.out, Fr.of_below B2.out⟩
end Go.Proofs.YtoebldemcgahnaaGreatDoor
