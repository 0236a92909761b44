/- The laid variables of frames and disks together. -/
import Derived.Test.YtoebldemcgahnaaGreatDoorFf
import Derived.Test.YtoebldemcgahnaaGreatDoorDb
import Derived.Test.YtoebldemcgahnaaGreatDoorJi
import Derived.Test.YtoebldemcgahnaaGreatDoorDu
namespace Go.Proofs.YtoebldemcgahnaaGreatDoor
open Go.RowKit
/-- The laid variables of both packages. -/
structure HwW (w : World) (a0 a1 a2 aD aA : Addr) : Prop where
  f : FrW w a0 a1 a2
  d : DkW w aD aA
theorem HwW.below {w w' : World} {a0 a1 a2 aD aA : Addr} (h : HwW w a0 a1 a2 aD aA) (hb : Below w.heap.size w w') : HwW w' a0 a1 a2 aD aA := ⟨h.f.below hb, h.d.below hb⟩
end Go.Proofs.YtoebldemcgahnaaGreatDoor

/- Heads (layer 20): wakes. -/
namespace Go.Proofs.YtoebldemcgahnaaGreatDoor
open Go.RowKit
theorem calm_putH {d : Dk} {n : Int} (h : d.Calm n) (h0 : 32 ≤ n) (h1 : n ≤ 4096) {x : Hd} (g : x.good) (r : x.r < (layN n).1.2.2.2) : d.putH x = (d.put (x.e % 2) (ofL x.sec), 0) := by
  have hl : (layN d.n).2 = 0 := by rw [h.n]; unfold layN; rw [if_neg (by omega), if_neg (by omega)]
  rw [putH_ok hl g (by rw [h.n]; omega)]
  exact h.write (by omega) (by rw [ofL_size, x.sec_len])
theorem calm_put {d : Dk} {n : Int} (h : d.Calm n) (h0 : 32 ≤ n) (x : Hd) : (d.put (x.e % 2) (ofL x.sec)).Calm n := h.put (by omega) (by rw [ofL_size, x.sec_len])
theorem dec_sec {x : Hd} (g : x.good) : decH (ofL x.sec) = (x, 0) := by
  unfold decH; rw [ofL_list]; exact dec_enc g
theorem pick_sec {P : Int} {x : Hd} (g : x.good) {i : Int} (hi : x.e % 2 = i) (r : x.r < P) : pickH P (ofL x.sec) i = [x] := by
  unfold pickH; rw [dec_sec g]; exact if_pos ⟨rfl, hi, r⟩
def hA5 : Hd := ⟨5, 3, 9⟩
def hB6 : Hd := ⟨6, -1, 10⟩
theorem gA5 : hA5.good := by decide
theorem gB6 : hB6.good := by decide
theorem lay32 : layN 32 = ((2, 7, 9, 23), 0) := by decide
noncomputable def wk1 : Dk := (Dk.new 32).put 1 (ofL hA5.sec)
noncomputable def wk2 : Dk := wk1.put 0 (ofL hB6.sec)
theorem wk_c0 : (Dk.new 32).Calm 32 := calm_new (by decide) (by decide)
theorem wk_c1 : wk1.Calm 32 := calm_put wk_c0 (by decide) hA5
theorem wk_c2 : wk2.Calm 32 := calm_put wk_c1 (by decide) hB6
theorem wk_e1 : (Dk.new 32).putH hA5 = (wk1, 0) := calm_putH wk_c0 (by decide) (by decide) gA5 (by decide)
theorem wk_e2 : wk1.putH hB6 = (wk2, 0) := calm_putH wk_c1 (by decide) (by decide) gB6 (by decide)
theorem wk_heads : wk2.heads = ([hB6, hA5], 0) := by
  have hl : (layN wk2.n).2 = 0 := by rw [wk_c2.n]; decide
  have h3 : (layN wk2.n).1.2.2.2 = 23 := by rw [wk_c2.n]; decide
  rw [heads_ok hl wk_c2.dead, h3]
  have t0 : wk2.tell 0 = ofL hB6.sec := by unfold wk2; rw [tell_put, if_pos rfl]
  have t1 : wk2.tell 1 = ofL hA5.sec := by unfold wk2 wk1; rw [tell_put, if_neg (by decide), tell_put, if_pos rfl]
  rw [t0, t1]
  unfold accH
  rw [pick_sec gB6 (by decide) (by decide), pick_sec gA5 (by decide) (by decide)]
  rfl
theorem SlHds.two {w : World} {v : Value} {a b : Hd} (h : SlHds w v [a, b]) : ∃ g off cap, v = .slice (some ⟨g, off, none⟩) 2 cap ∧ HdsAt w g off [a, b] := by
  rcases h with ⟨_, h⟩ | ⟨g, off, cap, e, _, h⟩
  · cases h
  · exact ⟨g, off, cap, e, h⟩
set_option maxRecDepth 20000 in
set_option maxHeartbeats 4000000 in
theorem wakes20 (a0 a1 a2 aD aA : Addr) (w : World) (hw : HwW w a0 a1 a2 aD aA) :
    Calls Tryz.prog 28 #[] w fun e w' => e = .returned (.bool true) ∧ Below w.heap.size w w' := by
  have HW := Lib.hid hw
  clear hw
  have NW := Lib.hid (disk_New 32 (by decide) (by decide) w)
  obtain ⟨g, hg⟩ : ∃ g, g = w.heap.size + 2 := ⟨_, rfl⟩
  obtain ⟨mb, hmb⟩ : ∃ g, g = w.heap.size := ⟨_, rfl⟩
  obtain ⟨cb, hcb⟩ : ∃ g, g = w.heap.size + 1 := ⟨_, rfl⟩
  have lg : Hid (w.heap.size ≤ g) := by show _ ≤ _; omega
  have lm : Hid (w.heap.size ≤ mb) := by show _ ≤ _; omega
  have lc : Hid (w.heap.size ≤ cb) := by show _ ≤ _; omega
  have NW' : Hid (Calls Tryz.prog 13 #[.int .i64 32] w fun e w' => e = .returned (.tuple #[.pointer (some ⟨g, 0, none⟩), .int .i64 0]) ∧ DiskAt w' g mb cb 0 (.slice none 0 0) (Dk.new 32) ∧ Below w.heap.size w w') := by rw [hg, hmb, hcb]; exact NW.out
  clear NW hg hmb hcb
  have W1 := Lib.hid (fun W k1 k2 k3 k4 => head_Write hA5 (by decide) (by decide) (by decide) (by decide) g mb cb (.slice none 0 0) (Dk.new 32) aD aA W k1 k2 k3 k4 wk_c0.ok)
  rw [wk_e1] at W1
  have W2 := Lib.hid (fun W k1 k2 k3 k4 => head_Write hB6 (by decide) (by decide) (by decide) (by decide) g mb cb (.slice none 0 0) wk1 aD aA W k1 k2 k3 k4 wk_c1.ok)
  rw [wk_e2] at W2
  have R1 := Lib.hid (fun W k1 k2 k3 => head_Read g mb cb (.slice none 0 0) wk2 a0 a1 a2 aD aA W k1 k2 k3)
  rw [wk_heads] at R1
  have L1 := Lib.hid (fun W => head_Lay 32 W)
  rw [lay32] at L1
  unfold layV at L1
  dsimp only at L1
  unfold Hd.v hA5 at W1
  unfold Hd.v hB6 at W2
  dsimp only at W1 W2
  obtain ⟨d0, hd0⟩ : ∃ d, d = Dk.new 32 := ⟨_, rfl⟩
  obtain ⟨d1, hd1⟩ : ∃ d, d = wk1 := ⟨_, rfl⟩
  obtain ⟨d2, hd2⟩ : ∃ d, d = wk2 := ⟨_, rfl⟩
  rw [← hd0] at NW' W1
  rw [← hd1] at W1 W2
  rw [← hd2] at W2 R1
  clear hd0 hd1 hd2
  go_enter Tryz.func28, Tryz.ntmps28
  go_wp2_with fail
  refine NW'.out.mono ?_; rintro e w1 ⟨rfl, hd, hb1⟩
  have D1 : Hid (DiskAt w1 g mb cb 4096 (.slice none 0 0) d0) := ⟨hd.blk, hd.hm.mono (by omega), hd.hc.mono (by omega), hd.hk, hd.n0, hd.n1, hd.gm, hd.gc, hd.mc, hd.kn⟩
  have B1 := Lib.hid hb1
  clear hd hb1 NW'
  go_wp2_with fail
  refine (W1.out _ (HW.out.below B1.out).f.et (HW.out.below B1.out).f.tbl (HW.out.below B1.out).d D1.out).mono ?_; rintro e w2 ⟨rfl, hd, hf⟩
  have D2 := Lib.hid hd
  have B2 := Lib.hid (frb B1.out hf lg.out lm.out lc.out)
  clear hd hf
  go_wp2_with fail
  refine (W2.out _ (HW.out.below B2.out).f.et (HW.out.below B2.out).f.tbl (HW.out.below B2.out).d D2.out).mono ?_; rintro e w3 ⟨rfl, hd, hf⟩
  have D3 := Lib.hid hd
  have B3 := Lib.hid (frb B2.out hf lg.out lm.out lc.out)
  clear hd hf
  go_wp2_with fail
  refine (R1.out _ (HW.out.below B3.out).f (HW.out.below B3.out).d D3.out).mono ?_; rintro e w4 ⟨v, rfl, hv, hb⟩
  have B4 := Lib.hid (bstep B3.out hb)
  obtain ⟨G, off, cap, rfl, hat⟩ := hv.two
  have HA := Lib.hid hat
  clear hb hv hat
  go_wp2_with fail
  refine (L1.out _).mono ?_; rintro e w5 ⟨rfl, hb⟩
  have B5 := Lib.hid (bstep B4.out hb)
  have A5 := Lib.hid (HA.out.below hb)
  clear hb
  go_upto_region 6 with (fail)
  obtain ⟨w6, hw6⟩ : ∃ w6, w6 = w5.alloc (.cells #[.int .i64 2, .int .i64 7, .int .i64 9, .int .i64 23] 56) := ⟨_, rfl⟩
  have B6 : Hid (Below w.heap.size w w6) := by show Below _ _ _; rw [hw6]; exact bstep B5.out (below_a1 _ _)
  have A6 : Hid (HdsAt w6 G off [hB6, hA5]) := by show HdsAt _ _ _ _; rw [hw6]; exact A5.out.below (below_a1 _ _)
  have X6 : Hid (w6.heap[w5.heap.size]? = some (.cells #[.int .i64 2, .int .i64 7, .int .i64 9, .int .i64 23] 56 (0, 0))) := by show _ = _; rw [hw6]; exact blk_new _ _
  rw [← hw6]
  clear hw6
  have hc := blk_cell X6.out
  have c1 : w6.cell? ⟨G, off, none⟩ = some (.int .u32 6) := A6.out.ce 0 (by simp)
  have c2 : w6.cell? ⟨G, off + 3 + 1, none⟩ = some (.int .i64 3) := A6.out.cr 1 (by simp)
  go_wp2_with fail
  go_ret
  exact ⟨rfl, B6.out⟩
end Go.Proofs.YtoebldemcgahnaaGreatDoor
