/- Heads (layer 20): lay, Write. -/
import Derived.Test.YtoebldemcgahnaaGreatDoorHc
import Derived.Test.YtoebldemcgahnaaGreatDoorDa
import Derived.Test.YtoebldemcgahnaaGreatDoorFf
namespace Go.Proofs.YtoebldemcgahnaaGreatDoor
open Go.RowKit
set_option maxRecDepth 20000 in
set_option maxHeartbeats 1000000 in
theorem head_lay (g mb cb k : Nat) (kv : Value) (d : Dk) (w : World) (hd : DiskAt w g mb cb k kv d) :
    Calls Tryz.prog 82 #[.pointer (some ⟨g, 0, none⟩)] w fun e w' => e = .returned (.tuple #[layV (layN d.n).1, .int .i64 (layN d.n).2]) ∧ Below w.heap.size w w' := by
  obtain ⟨w0, hw0⟩ : ∃ w0, w0 = w.alloc (.cells #[.int .i64 0, .int .i64 0, .int .i64 0, .int .i64 0] 56) := ⟨_, rfl⟩
  have B0 : Hid (Below w.heap.size w w0) := by show Below _ _ _; rw [hw0]; exact below_a1 _ _
  have X0 : Hid (w0.heap[w.heap.size]? = some (.cells #[.int .i64 0, .int .i64 0, .int .i64 0, .int .i64 0] 56 (0, 0))) := by show _ = _; rw [hw0]; exact blk_new _ _
  have HW0 := Lib.hid hw0
  have SZ := Lib.hid (disk_Size g mb cb k kv d w0 (hd.below B0.out))
  have LY := Lib.hid (fun W => head_Lay d.n W)
  obtain ⟨x, c, hx⟩ : ∃ x c, layN d.n = (x, c) := ⟨_, _, rfl⟩
  rw [hx] at LY ⊢
  obtain ⟨x0, x1, x2, x3⟩ := x
  unfold layV at LY ⊢
  dsimp only at LY ⊢
  have HXC : Hid (∀ W, Below w0.heap.size w0 W → ∀ o, W.cell? ⟨w.heap.size, o, none⟩ = (#[.int .i64 0, .int .i64 0, .int .i64 0, .int .i64 0] : Array Value)[o]?) := fun W h => blk_cell (blk_below X0.out h)
  have HXF : Hid (∀ W, Below w0.heap.size w0 W → ∀ o, W.frozen? ⟨w.heap.size, o, none⟩ = false) := fun W h => blk_frozen (blk_below X0.out h)
  have HZ : Hid (∀ W, Below w0.heap.size w0 W → ∀ (a b c d : Value) o, ((((W.setCell ⟨w.heap.size, 0, none⟩ a).setCell ⟨w.heap.size, 1, none⟩ b).setCell ⟨w.heap.size, 2, none⟩ c).setCell ⟨w.heap.size, 3, none⟩ d).cell? ⟨w.heap.size, o, none⟩ = (#[a, b, c, d] : Array Value)[o]?) := fun W h a b c d => blk_cell (st4 (blk_below X0.out h) a b c d)
  have HB : Hid (∀ W, Below w0.heap.size w0 W → ∀ (a b c d : Value), Below w.heap.size w ((((W.setCell ⟨w.heap.size, 0, none⟩ a).setCell ⟨w.heap.size, 1, none⟩ b).setCell ⟨w.heap.size, 2, none⟩ c).setCell ⟨w.heap.size, 3, none⟩ d)) := fun W h a b c d => bst4 (bstep B0.out h) (Nat.le_refl _) a b c d
  clear hw0 hd hx
  go_enter Tryz.func82, Tryz.ntmps82
  go_upto_region 1 with (fail)
  rw [← HW0.out]
  go_wp2_with fail
  refine SZ.out.mono ?_; rintro e y ⟨rfl, rfl⟩
  go_wp2_with fail
  refine (LY.out _).mono ?_; rintro e w1 ⟨rfl, hb⟩
  have B1 := Lib.hid hb
  clear hb
  have hc := HXC.out _ B1.out
  have hf := HXF.out _ B1.out
  go_wp2_with fail
  have hz := HZ.out _ B1.out (.int .i64 x0) (.int .i64 x1) (.int .i64 x2) (.int .i64 x3)
  exact bodyPost_ret (v := .tuple #[.agg #[.int .i64 x0, .int .i64 x1, .int .i64 x2, .int .i64 x3], .int .i64 c]) (by simp [results, Tryz.results82, go_sem, hz]) rfl ⟨rfl, HB.out _ B1.out _ _ _ _⟩
/-- A head is written. -/
noncomputable def Dk.putH (d : Dk) (h : Hd) : Dk × Int :=
  if (layN d.n).2 ≠ 0 then (d, (layN d.n).2) else if ¬ h.good then (d, 1) else if (layN d.n).1.2.2.2 ≤ h.r then (d, 1) else d.write (h.e % 2) (ofL h.sec)
theorem putH_lay {d : Dk} {h : Hd} (c : (layN d.n).2 ≠ 0) : d.putH h = (d, (layN d.n).2) := by unfold Dk.putH; rw [if_pos c]
theorem putH_bad {d : Dk} {h : Hd} (c : (layN d.n).2 = 0) (g : ¬ h.good) : d.putH h = (d, 1) := by unfold Dk.putH; rw [if_neg (fun k => k c), if_pos g]
theorem putH_far {d : Dk} {h : Hd} (c : (layN d.n).2 = 0) (g : h.good) (r : (layN d.n).1.2.2.2 ≤ h.r) : d.putH h = (d, 1) := by unfold Dk.putH; rw [if_neg (fun k => k c), if_neg (fun k => k g), if_pos r]
theorem putH_ok {d : Dk} {h : Hd} (c : (layN d.n).2 = 0) (g : h.good) (r : ¬ (layN d.n).1.2.2.2 ≤ h.r) : d.putH h = d.write (h.e % 2) (ofL h.sec) := by unfold Dk.putH; rw [if_neg (fun k => k c), if_neg (fun k => k g), if_neg r]
set_option maxRecDepth 20000 in
set_option maxHeartbeats 4000000 in
theorem head_Write (h : Hd) (e0 : 0 ≤ h.e) (e1 : h.e < 4294967296) (f0 : 0 ≤ h.f) (f1 : h.f < 4294967296) (g mb cb : Nat) (kv : Value) (d : Dk) (aD aA : Addr) (w : World) (he : EtIs w) (ht : TblIs w) (hw : DkW w aD aA) (hd : DiskAt w g mb cb 4096 kv d) (ok : d.Ok) :
    Calls Tryz.prog 36 #[.pointer (some ⟨g, 0, none⟩), h.v] w fun e w' => e = .returned (.int .i64 (d.putH h).2) ∧ DiskAt w' g mb cb 4096 kv (d.putH h).1 ∧ Fr (DkS g mb cb) w w' := by
  have LY := Lib.hid (fun W h => head_lay g mb cb 4096 kv d W h)
  have EN := Lib.hid (fun W k1 k2 => head_Encode h e0 e1 f0 f1 W k1 k2)
  have HW := Lib.hid hw; have HD := Lib.hid hd; have HE := Lib.hid he; have HT := Lib.hid ht
  have WR := Lib.hid (fun W k1 k2 => disk_Write (h.e % 2) (wf64_of (by omega) (by omega)) (ofL h.sec) g mb cb kv d aD aA W k1 k2 ok)
  have m1 : h.e.tmod 2 = h.e % 2 := Int.tmod_eq_emod_of_nonneg e0
  have m2 : IntKind.i64.wrap (h.e % 2) = h.e % 2 := IntWalk.i64_in _ (by omega)
  obtain ⟨w0, hw0⟩ : ∃ w0, w0 = w.alloc (.cells #[.int .u32 h.e, .int .i64 h.r, .int .u32 h.f] 54) := ⟨_, rfl⟩
  have B0 : Hid (Below w.heap.size w w0) := by show Below _ _ _; rw [hw0]; exact below_a1 _ _
  have X0 : Hid (w0.heap[w.heap.size]? = some (.cells #[.int .u32 h.e, .int .i64 h.r, .int .u32 h.f] 54 (0, 0))) := by show _ = _; rw [hw0]; exact blk_new _ _
  have HW0 := Lib.hid hw0
  clear hw hd he ht ok hw0
  obtain ⟨x, c, hx⟩ : ∃ x c, layN d.n = (x, c) := ⟨_, _, rfl⟩
  obtain ⟨x0, x1, x2, x3⟩ := x
  by_cases c0 : c = 0
  · subst c0
    have hl : (layN d.n).2 = 0 := by rw [hx]
    have hl3 : (layN d.n).1.2.2.2 = x3 := by rw [hx]
    by_cases gd : h.good
    · rw [enc_good gd] at EN
      by_cases hr : x3 ≤ h.r
      · rw [putH_far hl gd (by rw [hl3]; exact hr)]
        rw [hx] at LY
        unfold layV at LY
        dsimp only at LY
        clear hl hl3 gd hx WR
        obtain ⟨e, r, f⟩ := h
        unfold Hd.v at EN ⊢
        dsimp only at *
        go_enter Tryz.func36, Tryz.ntmps36
        go_upto_region 1 with (fail)
        rw [← HW0.out]
        go_wp2_with fail
        refine (LY.out _ (HD.out.below B0.out)).mono ?_; rintro z w1 ⟨rfl, hb⟩
        have B1 := Lib.hid (bstep B0.out hb)
        have X1 := Lib.hid (blk_below X0.out hb)
        clear hb
        go_upto_region 2 with (fail)
        obtain ⟨w2, hw2⟩ : ∃ w2, w2 = w1.alloc (.cells #[.int .i64 x0, .int .i64 x1, .int .i64 x2, .int .i64 x3] 56) := ⟨_, rfl⟩
        have B2 : Hid (Below w.heap.size w w2) := by show Below _ _ _; rw [hw2]; exact bstep B1.out (below_a1 _ _)
        have X2 : Hid (w2.heap[w.heap.size]? = some (.cells #[.int .u32 e, .int .i64 r, .int .u32 f] 54 (0, 0))) := by show _ = _; rw [hw2]; exact blk_alloc X1.out
        have Y2 : Hid (w2.heap[w1.heap.size]? = some (.cells #[.int .i64 x0, .int .i64 x1, .int .i64 x2, .int .i64 x3] 56 (0, 0))) := by show _ = _; rw [hw2]; exact blk_new _ _
        rw [← hw2]
        clear hw2
        have hc2 := blk_cell X2.out
        go_wp2_with fail
        refine (EN.out _ (HE.out.below B2.out) (HT.out.below B2.out)).mono ?_; rintro z w3 ⟨rfl, hb⟩
        have B3 := Lib.hid (bstep B2.out hb)
        have X3 := Lib.hid (blk_below X2.out hb)
        have Y3 := Lib.hid (blk_below Y2.out hb)
        clear hb hc2
        have hc3 := blk_cell X3.out
        have hy3 := blk_cell Y3.out
        go_wp2_with fail
        go_ret
        exact ⟨rfl, HD.out.below B3.out, Fr.of_below B3.out⟩
      · rw [putH_ok hl gd (by rw [hl3]; exact hr)]
        rw [hx] at LY
        unfold layV at LY
        dsimp only at LY
        obtain ⟨S, hS⟩ : ∃ S, S = ofL h.sec := ⟨_, rfl⟩
        rw [← hS] at WR EN ⊢
        clear hl hl3 gd hx hS
        obtain ⟨e, r, f⟩ := h
        unfold Hd.v at EN ⊢
        dsimp only at *
        go_enter Tryz.func36, Tryz.ntmps36
        go_upto_region 1 with (fail)
        rw [← HW0.out]
        go_wp2_with fail
        refine (LY.out _ (HD.out.below B0.out)).mono ?_; rintro z w1 ⟨rfl, hb⟩
        have B1 := Lib.hid (bstep B0.out hb)
        have X1 := Lib.hid (blk_below X0.out hb)
        clear hb
        go_upto_region 2 with (fail)
        obtain ⟨w2, hw2⟩ : ∃ w2, w2 = w1.alloc (.cells #[.int .i64 x0, .int .i64 x1, .int .i64 x2, .int .i64 x3] 56) := ⟨_, rfl⟩
        have B2 : Hid (Below w.heap.size w w2) := by show Below _ _ _; rw [hw2]; exact bstep B1.out (below_a1 _ _)
        have X2 : Hid (w2.heap[w.heap.size]? = some (.cells #[.int .u32 e, .int .i64 r, .int .u32 f] 54 (0, 0))) := by show _ = _; rw [hw2]; exact blk_alloc X1.out
        have Y2 : Hid (w2.heap[w1.heap.size]? = some (.cells #[.int .i64 x0, .int .i64 x1, .int .i64 x2, .int .i64 x3] 56 (0, 0))) := by show _ = _; rw [hw2]; exact blk_new _ _
        rw [← hw2]
        clear hw2
        have hc2 := blk_cell X2.out
        go_wp2_with fail
        refine (EN.out _ (HE.out.below B2.out) (HT.out.below B2.out)).mono ?_; rintro z w3 ⟨rfl, hb⟩
        have B3 := Lib.hid (bstep B2.out hb)
        have X3 := Lib.hid (blk_below X2.out hb)
        have Y3 := Lib.hid (blk_below Y2.out hb)
        clear hb hc2
        have hc3 := blk_cell X3.out
        have hy3 := blk_cell Y3.out
        go_wp2_with fail
        refine (WR.out _ (HW.out.below B3.out) (HD.out.below B3.out)).mono ?_; rintro z w4 ⟨rfl, hd4, hf4⟩
        have D4 := Lib.hid hd4
        have F4 := Lib.hid ((Fr.of_below (S := DkS g mb cb) B3.out).trans hf4)
        clear hd4 hf4
        go_wp2_with fail
        go_ret
        exact ⟨rfl, D4.out, F4.out⟩
    · rw [enc_bad gd] at EN
      rw [putH_bad hl gd]
      rw [hx] at LY
      unfold layV at LY
      dsimp only at LY
      clear hl hl3 gd hx WR
      obtain ⟨e, r, f⟩ := h
      unfold Hd.v at EN ⊢
      dsimp only at *
      go_enter Tryz.func36, Tryz.ntmps36
      go_upto_region 1 with (fail)
      rw [← HW0.out]
      go_wp2_with fail
      refine (LY.out _ (HD.out.below B0.out)).mono ?_; rintro z w1 ⟨rfl, hb⟩
      have B1 := Lib.hid (bstep B0.out hb)
      have X1 := Lib.hid (blk_below X0.out hb)
      clear hb
      go_upto_region 2 with (fail)
      obtain ⟨w2, hw2⟩ : ∃ w2, w2 = w1.alloc (.cells #[.int .i64 x0, .int .i64 x1, .int .i64 x2, .int .i64 x3] 56) := ⟨_, rfl⟩
      have B2 : Hid (Below w.heap.size w w2) := by show Below _ _ _; rw [hw2]; exact bstep B1.out (below_a1 _ _)
      have X2 : Hid (w2.heap[w.heap.size]? = some (.cells #[.int .u32 e, .int .i64 r, .int .u32 f] 54 (0, 0))) := by show _ = _; rw [hw2]; exact blk_alloc X1.out
      have Y2 : Hid (w2.heap[w1.heap.size]? = some (.cells #[.int .i64 x0, .int .i64 x1, .int .i64 x2, .int .i64 x3] 56 (0, 0))) := by show _ = _; rw [hw2]; exact blk_new _ _
      rw [← hw2]
      clear hw2
      have hc2 := blk_cell X2.out
      go_wp2_with fail
      refine (EN.out _ (HE.out.below B2.out) (HT.out.below B2.out)).mono ?_; rintro z w3 ⟨rfl, hb⟩
      have B3 := Lib.hid (bstep B2.out hb)
      have X3 := Lib.hid (blk_below X2.out hb)
      have Y3 := Lib.hid (blk_below Y2.out hb)
      clear hb hc2
      have hc3 := blk_cell X3.out
      have hy3 := blk_cell Y3.out
      go_wp2_with fail
      go_ret
      exact ⟨rfl, HD.out.below B3.out, Fr.of_below B3.out⟩
  · have hl : (layN d.n).2 ≠ 0 := by rw [hx]; exact c0
    rw [putH_lay hl]
    rw [hx] at LY ⊢
    unfold layV at LY
    dsimp only at LY ⊢
    have q0 : (c != 0) = true := by rw [bne_iff_ne]; exact c0
    clear hl hx WR c0
    obtain ⟨e, r, f⟩ := h
    unfold Hd.v at EN ⊢
    dsimp only at *
    go_enter Tryz.func36, Tryz.ntmps36
    go_upto_region 1 with (fail)
    rw [← HW0.out]
    go_wp2_with fail
    refine (LY.out _ (HD.out.below B0.out)).mono ?_; rintro z w1 ⟨rfl, hb⟩
    have B1 := Lib.hid (bstep B0.out hb)
    have X1 := Lib.hid (blk_below X0.out hb)
    clear hb
    go_upto_region 2 with (fail)
    obtain ⟨w2, hw2⟩ : ∃ w2, w2 = w1.alloc (.cells #[.int .i64 x0, .int .i64 x1, .int .i64 x2, .int .i64 x3] 56) := ⟨_, rfl⟩
    have B2 : Hid (Below w.heap.size w w2) := by show Below _ _ _; rw [hw2]; exact bstep B1.out (below_a1 _ _)
    have X2 : Hid (w2.heap[w.heap.size]? = some (.cells #[.int .u32 e, .int .i64 r, .int .u32 f] 54 (0, 0))) := by show _ = _; rw [hw2]; exact blk_alloc X1.out
    have Y2 : Hid (w2.heap[w1.heap.size]? = some (.cells #[.int .i64 x0, .int .i64 x1, .int .i64 x2, .int .i64 x3] 56 (0, 0))) := by show _ = _; rw [hw2]; exact blk_new _ _
    rw [← hw2]
    clear hw2
    go_wp2_with fail
    go_ret
    exact ⟨rfl, HD.out.below B2.out, Fr.of_below B2.out⟩
end Go.Proofs.YtoebldemcgahnaaGreatDoor
