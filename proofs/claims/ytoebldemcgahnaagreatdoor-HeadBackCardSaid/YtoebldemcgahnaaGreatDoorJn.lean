/- Heads (layer 20): the law HeadBack. -/
import Derived.Test.YtoebldemcgahnaaGreatDoorJl
namespace Go.Proofs.YtoebldemcgahnaaGreatDoor
open Go.RowKit
set_option maxRecDepth 20000 in
set_option maxHeartbeats 16000000 in
theorem law20_HeadBack (e r f : Int) (b : ByteArray) (e0 : 0 ≤ e) (e1 : e < 4294967296) (f0 : 0 ≤ f) (f1 : f < 4294967296) (bz : b.size ≤ 140737488351232) (a0 a1 a2 aD aA : Addr) (w : World) (hw : HwW w a0 a1 a2 aD aA) :
    Calls Tryz.prog 8 #[.agg #[.int .u32 e, .int .i64 r, .int .u32 f], .string b] w fun e w' => e = .returned (.bool true) ∧ Below w.heap.size w w' := by
  have HW := Lib.hid hw
  have WK := Lib.hid (fun W h => wakes20 a0 a1 a2 aD aA W h)
  obtain ⟨w0, hw0⟩ : ∃ w0, w0 = w.alloc (.cells #[.int .u32 e, .int .i64 r, .int .u32 f] 54) := ⟨_, rfl⟩
  have B0 : Hid (Below w.heap.size w w0) := by show Below _ _ _; rw [hw0]; exact below_a1 _ _
  have X0 : Hid (w0.heap[w.heap.size]? = some (.cells #[.int .u32 e, .int .i64 r, .int .u32 f] 54 (0, 0))) := by show _ = _; rw [hw0]; exact blk_new _ _
  have HW0 := Lib.hid hw0
  clear hw hw0
  by_cases c0 : 2000 < b.size
  · have q0 : (2000 : Int) < (b.size : Int) := by omega
    go_enter Tryz.func8, Tryz.ntmps8
    go_upto_region 1 with (fail)
    rw [← HW0.out]
    go_wp2_with fail
    refine (WK.out _ (HW.out.below B0.out)).mono ?_; rintro z w1 ⟨rfl, hb⟩
    have B1 := Lib.hid (bstep B0.out hb)
    clear hb
    go_wp2_with fail
    go_ret
    exact ⟨rfl, B1.out⟩
  have q0 : ¬ (2000 : Int) < (b.size : Int) := by omega
  have EN := Lib.hid (fun W k1 k2 => head_Encode ⟨e, r, f⟩ e0 e1 f0 f1 W k1 k2)
  have DB := Lib.hid (fun W h => head_Decode b a0 a1 a2 W h)
  have ee : (e != e) = false := by simp
  have rr : (r != r) = false := by simp
  have ff : (f != f) = false := by simp
  have ee' : (e == e) = true := by simp
  have rr' : (r == r) = true := by simp
  have ff' : (f == f) = true := by simp
  have bb' : (b.toList == b.toList) = true := by simp
  clear bz c0
  by_cases g : (Hd.mk e r f).good
  · rw [enc_good g] at EN
    have DE := Lib.hid (fun W h => head_Decode (ofL (Hd.mk e r f).sec) a0 a1 a2 W h)
    rw [dec_sec g] at DE
    have sz : (ofL (Hd.mk e r f).sec).size = 256 := by rw [ofL_size, Hd.sec_len]
    obtain ⟨S, hS⟩ : ∃ S, S = ofL (Hd.mk e r f).sec := ⟨_, rfl⟩
    rw [← hS] at EN DE sz
    have q5 : ((S.size : Int) != 256) = false := by rw [sz]; rfl
    unfold Hd.v at EN DE
    dsimp only at EN DE
    clear hS g sz
    rcases dec_cases b with ⟨x, gx, hx⟩ | hx
    · obtain ⟨_, ex⟩ := enc_dec hx
      have EX := Lib.hid (fun W k1 k2 => head_Encode x (by have := gx.1.1; omega) (by have := gx.1.2; omega) (by have := gx.2.1.1; omega) (by have := gx.2.1.2; omega) W k1 k2)
      rw [ex] at EX
      rw [hx] at DB
      unfold Hd.v at DB EX
      dsimp only at DB EX
      clear gx hx ex
      go_enter Tryz.func8, Tryz.ntmps8
      go_upto_region 1 with (fail)
      rw [← HW0.out]
      have hc0 := blk_cell X0.out
      go_wp2_with fail
      refine (EN.out _ (HW.out.below B0.out).f.et (HW.out.below B0.out).f.tbl).mono ?_; rintro z w1 ⟨rfl, hb⟩
      have B1 := Lib.hid (bstep B0.out hb)
      have X1 := Lib.hid (blk_below X0.out hb)
      clear hb hc0
      go_wp2_with fail
      refine (DE.out _ (HW.out.below B1.out).f).mono ?_; rintro z w2 ⟨rfl, hb⟩
      have B2 := Lib.hid (bstep B1.out hb)
      have X2 := Lib.hid (blk_below X1.out hb)
      clear hb
      go_upto_region 6 with (fail)
      obtain ⟨w3, hw3⟩ : ∃ z, z = w2.alloc (.cells #[.int .u32 e, .int .i64 r, .int .u32 f] 54) := ⟨_, rfl⟩
      have Bw3 : Hid (Below w.heap.size w w3) := by show Below _ _ _; rw [hw3]; exact bstep B2.out (below_a1 _ _)
      have Y3 : Hid (w3.heap[w2.heap.size]? = some (.cells #[.int .u32 e, .int .i64 r, .int .u32 f] 54 (0, 0))) := by show _ = _; rw [hw3]; exact blk_new _ _
      have X3 : Hid (w3.heap[w.heap.size]? = some (.cells #[.int .u32 e, .int .i64 r, .int .u32 f] 54 (0, 0))) := by show _ = _; rw [hw3]; exact blk_alloc X2.out
      rw [← hw3]
      clear hw3
      have hx3 := blk_cell X3.out
      have hy3 := blk_cell Y3.out
      go_wp2_with fail
      refine (DB.out _ (HW.out.below Bw3.out).f).mono ?_; rintro z w4 ⟨rfl, hb⟩
      have B4 := Lib.hid (bstep Bw3.out hb)
      clear hb
      go_upto_region 9 with (fail)
      obtain ⟨w5, hw5⟩ : ∃ z, z = w4.alloc (.cells #[.int .u32 x.e, .int .i64 x.r, .int .u32 x.f] 54) := ⟨_, rfl⟩
      have Bw5 : Hid (Below w.heap.size w w5) := by show Below _ _ _; rw [hw5]; exact bstep B4.out (below_a1 _ _)
      have Y5 : Hid (w5.heap[w4.heap.size]? = some (.cells #[.int .u32 x.e, .int .i64 x.r, .int .u32 x.f] 54 (0, 0))) := by show _ = _; rw [hw5]; exact blk_new _ _
      rw [← hw5]
      clear hw5
      have hy5 := blk_cell Y5.out
      go_wp2_with fail
      refine (EX.out _ (HW.out.below Bw5.out).f.et (HW.out.below Bw5.out).f.tbl).mono ?_; rintro z w6 ⟨rfl, hb⟩
      have B6 := Lib.hid (bstep Bw5.out hb)
      clear hb
      go_wp2_with fail
      refine (WK.out _ (HW.out.below B6.out)).mono ?_; rintro z w7 ⟨rfl, hb⟩
      have B7 := Lib.hid (bstep B6.out hb)
      clear hb
      go_wp2_with fail
      go_ret
      exact ⟨rfl, B7.out⟩
    · rw [hx] at DB
      unfold Hd.v at DB
      dsimp only at DB
      clear hx
      go_enter Tryz.func8, Tryz.ntmps8
      go_upto_region 1 with (fail)
      rw [← HW0.out]
      have hc0 := blk_cell X0.out
      go_wp2_with fail
      refine (EN.out _ (HW.out.below B0.out).f.et (HW.out.below B0.out).f.tbl).mono ?_; rintro z w1 ⟨rfl, hb⟩
      have B1 := Lib.hid (bstep B0.out hb)
      have X1 := Lib.hid (blk_below X0.out hb)
      clear hb hc0
      go_wp2_with fail
      refine (DE.out _ (HW.out.below B1.out).f).mono ?_; rintro z w2 ⟨rfl, hb⟩
      have B2 := Lib.hid (bstep B1.out hb)
      have X2 := Lib.hid (blk_below X1.out hb)
      clear hb
      go_upto_region 6 with (fail)
      obtain ⟨w3, hw3⟩ : ∃ z, z = w2.alloc (.cells #[.int .u32 e, .int .i64 r, .int .u32 f] 54) := ⟨_, rfl⟩
      have Bw3 : Hid (Below w.heap.size w w3) := by show Below _ _ _; rw [hw3]; exact bstep B2.out (below_a1 _ _)
      have Y3 : Hid (w3.heap[w2.heap.size]? = some (.cells #[.int .u32 e, .int .i64 r, .int .u32 f] 54 (0, 0))) := by show _ = _; rw [hw3]; exact blk_new _ _
      have X3 : Hid (w3.heap[w.heap.size]? = some (.cells #[.int .u32 e, .int .i64 r, .int .u32 f] 54 (0, 0))) := by show _ = _; rw [hw3]; exact blk_alloc X2.out
      rw [← hw3]
      clear hw3
      have hx3 := blk_cell X3.out
      have hy3 := blk_cell Y3.out
      go_wp2_with fail
      refine (DB.out _ (HW.out.below Bw3.out).f).mono ?_; rintro z w4 ⟨rfl, hb⟩
      have B4 := Lib.hid (bstep Bw3.out hb)
      clear hb
      go_upto_region 9 with (fail)
      obtain ⟨w5, hw5⟩ : ∃ z, z = w4.alloc (.cells #[.int .u32 0, .int .i64 0, .int .u32 0] 54) := ⟨_, rfl⟩
      have Bw5 : Hid (Below w.heap.size w w5) := by show Below _ _ _; rw [hw5]; exact bstep B4.out (below_a1 _ _)
      have Y5 : Hid (w5.heap[w4.heap.size]? = some (.cells #[.int .u32 0, .int .i64 0, .int .u32 0] 54 (0, 0))) := by show _ = _; rw [hw5]; exact blk_new _ _
      rw [← hw5]
      clear hw5
      have hy5 := blk_cell Y5.out
      go_wp2_with fail
      refine (WK.out _ (HW.out.below Bw5.out)).mono ?_; rintro z w7 ⟨rfl, hb⟩
      have B7 := Lib.hid (bstep Bw5.out hb)
      clear hb
      go_wp2_with fail
      go_ret
      exact ⟨rfl, B7.out⟩
  · rw [enc_bad g] at EN
    unfold Hd.v at EN
    dsimp only at EN
    clear g
    rcases dec_cases b with ⟨x, gx, hx⟩ | hx
    · obtain ⟨_, ex⟩ := enc_dec hx
      have EX := Lib.hid (fun W k1 k2 => head_Encode x (by have := gx.1.1; omega) (by have := gx.1.2; omega) (by have := gx.2.1.1; omega) (by have := gx.2.1.2; omega) W k1 k2)
      rw [ex] at EX
      rw [hx] at DB
      unfold Hd.v at DB EX
      dsimp only at DB EX
      clear gx hx ex
      go_enter Tryz.func8, Tryz.ntmps8
      go_upto_region 1 with (fail)
      rw [← HW0.out]
      have hc0 := blk_cell X0.out
      go_wp2_with fail
      refine (EN.out _ (HW.out.below B0.out).f.et (HW.out.below B0.out).f.tbl).mono ?_; rintro z w1 ⟨rfl, hb⟩
      have B1 := Lib.hid (bstep B0.out hb)
      have X1 := Lib.hid (blk_below X0.out hb)
      clear hb hc0
      go_wp2_with fail
      refine (DB.out _ (HW.out.below B1.out).f).mono ?_; rintro z w4 ⟨rfl, hb⟩
      have B4 := Lib.hid (bstep B1.out hb)
      clear hb
      go_upto_region 9 with (fail)
      obtain ⟨w5, hw5⟩ : ∃ z, z = w4.alloc (.cells #[.int .u32 x.e, .int .i64 x.r, .int .u32 x.f] 54) := ⟨_, rfl⟩
      have Bw5 : Hid (Below w.heap.size w w5) := by show Below _ _ _; rw [hw5]; exact bstep B4.out (below_a1 _ _)
      have Y5 : Hid (w5.heap[w4.heap.size]? = some (.cells #[.int .u32 x.e, .int .i64 x.r, .int .u32 x.f] 54 (0, 0))) := by show _ = _; rw [hw5]; exact blk_new _ _
      rw [← hw5]
      clear hw5
      have hy5 := blk_cell Y5.out
      go_wp2_with fail
      refine (EX.out _ (HW.out.below Bw5.out).f.et (HW.out.below Bw5.out).f.tbl).mono ?_; rintro z w6 ⟨rfl, hb⟩
      have B6 := Lib.hid (bstep Bw5.out hb)
      clear hb
      go_wp2_with fail
      refine (WK.out _ (HW.out.below B6.out)).mono ?_; rintro z w7 ⟨rfl, hb⟩
      have B7 := Lib.hid (bstep B6.out hb)
      clear hb
      go_wp2_with fail
      go_ret
      exact ⟨rfl, B7.out⟩
    · rw [hx] at DB
      unfold Hd.v at DB
      dsimp only at DB
      clear hx
      go_enter Tryz.func8, Tryz.ntmps8
      go_upto_region 1 with (fail)
      rw [← HW0.out]
      have hc0 := blk_cell X0.out
      go_wp2_with fail
      refine (EN.out _ (HW.out.below B0.out).f.et (HW.out.below B0.out).f.tbl).mono ?_; rintro z w1 ⟨rfl, hb⟩
      have B1 := Lib.hid (bstep B0.out hb)
      have X1 := Lib.hid (blk_below X0.out hb)
      clear hb hc0
      go_wp2_with fail
      refine (DB.out _ (HW.out.below B1.out).f).mono ?_; rintro z w4 ⟨rfl, hb⟩
      have B4 := Lib.hid (bstep B1.out hb)
      clear hb
      go_upto_region 9 with (fail)
      obtain ⟨w5, hw5⟩ : ∃ z, z = w4.alloc (.cells #[.int .u32 0, .int .i64 0, .int .u32 0] 54) := ⟨_, rfl⟩
      have Bw5 : Hid (Below w.heap.size w w5) := by show Below _ _ _; rw [hw5]; exact bstep B4.out (below_a1 _ _)
      have Y5 : Hid (w5.heap[w4.heap.size]? = some (.cells #[.int .u32 0, .int .i64 0, .int .u32 0] 54 (0, 0))) := by show _ = _; rw [hw5]; exact blk_new _ _
      rw [← hw5]
      clear hw5
      have hy5 := blk_cell Y5.out
      go_wp2_with fail
      refine (WK.out _ (HW.out.below Bw5.out)).mono ?_; rintro z w7 ⟨rfl, hb⟩
      have B7 := Lib.hid (bstep Bw5.out hb)
      clear hb
      go_wp2_with fail
      go_ret
      exact ⟨rfl, B7.out⟩
end Go.Proofs.YtoebldemcgahnaaGreatDoor
