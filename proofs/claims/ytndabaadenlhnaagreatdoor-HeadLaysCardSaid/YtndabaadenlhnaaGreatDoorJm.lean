/- Heads (layer 20): the law HeadLays. -/
import Derived.Test.YtndabaadenlhnaaGreatDoorJl
namespace Go.Proofs.YtndabaadenlhnaaGreatDoor
open Go.RowKit
theorem lay_mid {n : Int} (h0 : 32 ≤ n) (h1 : n ≤ 4096) : layN n = ((2, (n - 2) / 4, 2 + (n - 2) / 4, n - 2 - (n - 2) / 4), 0) := by
  unfold layN; rw [if_neg (by omega), if_neg (by omega)]
set_option maxRecDepth 20000 in
set_option maxHeartbeats 8000000 in
theorem law20_HeadLays (n : Int) (n0 : 0 ≤ n) (n1 : n < 65536) (a0 a1 a2 aD aA : Addr) (w : World) (hw : HwW w a0 a1 a2 aD aA) :
    Calls Tryz.prog 5 #[.int .u16 n] w fun e w' => e = .returned (.bool true) ∧ Below w.heap.size w w' := by
  have HW := Lib.hid hw
  have WK := Lib.hid (fun W h => wakes20 a0 a1 a2 aD aA W h)
  have m1 : n.tmod 4064 = n % 4064 := Int.tmod_eq_emod_of_nonneg n0
  obtain ⟨k, hk⟩ : ∃ k, k = 32 + n % 4064 := ⟨_, rfl⟩
  have k0 : 32 ≤ k := by omega
  have k1 : k ≤ 4095 := by omega
  have m0 : IntKind.i64.wrap n = n := IntWalk.i64_in _ (by omega)
  have m2 : IntKind.i64.wrap (n % 4064) = n % 4064 := IntWalk.i64_in _ (by omega)
  have m3 : IntKind.i64.wrap (32 + n % 4064) = k := by rw [← hk]; exact IntWalk.i64_in _ (by omega)
  have m4 : IntKind.i64.wrap (k + 1) = k + 1 := IntWalk.i64_in _ (by omega)
  have LA := Lib.hid (fun W => head_Lay k W)
  have LB := Lib.hid (fun W => head_Lay (k + 1) W)
  rw [lay_mid k0 (by omega)] at LA
  rw [lay_mid (by omega) (by omega)] at LB
  have LC := Lib.hid (fun W => head_Lay 31 W)
  have LD := Lib.hid (fun W => head_Lay 4097 W)
  rw [show layN 31 = ((0, 0, 0, 0), 75) by decide] at LC
  rw [show layN 4097 = ((0, 0, 0, 0), 1) by decide] at LD
  unfold layV at LA LB LC LD
  dsimp only at LA LB LC LD
  obtain ⟨q, hq⟩ : ∃ q, q = (k - 2) / 4 := ⟨_, rfl⟩
  obtain ⟨r, hr⟩ : ∃ r, r = (k + 1 - 2) / 4 := ⟨_, rfl⟩
  rw [← hq] at LA
  rw [← hr] at LB
  have f1 : q ≤ r := by omega
  have f2 : k - 2 - q ≤ k + 1 - 2 - r := by omega
  have f3 : 7 ≤ q := by omega
  have f4 : 23 ≤ k - 2 - q := by omega
  have f5 : 0 ≤ q ∧ q ≤ 2000 := by omega
  obtain ⟨s, hs⟩ : ∃ s, s = k - 2 - q := ⟨_, rfl⟩
  obtain ⟨t, ht⟩ : ∃ t, t = k + 1 - 2 - r := ⟨_, rfl⟩
  rw [← hs] at LA f2 f4
  rw [← ht] at LB f2
  obtain ⟨p, hp⟩ : ∃ p, p = 2 + q := ⟨_, rfl⟩
  rw [← hp] at LA
  have g1 : IntKind.i64.wrap (2 + q) = p := by rw [hp]; exact IntWalk.i64_in _ (by omega)
  have g1' : 2 + q = p := hp.symm
  have g2 : IntKind.i64.wrap (p + s) = k := by rw [hp, hs]; rw [show 2 + q + (k - 2 - q) = k by omega]; exact IntWalk.i64_in _ (by omega)
  have g2' : p + s = k := by omega
  have e1 : (p == p) = true := by simp
  have e2 : (k == k) = true := by simp
  have n5 : -9223372036854775808 ≤ p + s ∧ p + s ≤ 9223372036854775807 := by omega
  have hkk : 32 + n % 4064 = k := hk.symm
  clear hw hq hr hs ht hp hk
  go_enter Tryz.func5, Tryz.ntmps5
  go_wp2_with fail
  refine (LA.out _).mono ?_; rintro e w1 ⟨rfl, hb1⟩
  go_upto_region 3 with (fail)
  obtain ⟨w2, hw2⟩ : ∃ w2, w2 = w1.alloc (.cells #[.int .i64 2, .int .i64 q, .int .i64 p, .int .i64 s] 27) := ⟨_, rfl⟩
  have B2 : Hid (Below w.heap.size w w2) := by show Below _ _ _; rw [hw2]; exact bstep hb1 (below_a1 _ _)
  have X2 : Hid (w2.heap[w1.heap.size]? = some (.cells #[.int .i64 2, .int .i64 q, .int .i64 p, .int .i64 s] 27 (0, 0))) := by show _ = _; rw [hw2]; exact blk_new _ _
  rw [← hw2]
  clear hw2 hb1
  go_wp2_with fail
  refine (LB.out _).mono ?_; rintro e w3 ⟨rfl, hb⟩
  have B3 := Lib.hid (bstep B2.out hb)
  have X3 := Lib.hid (blk_below X2.out hb)
  clear hb
  go_upto_region 4 with (fail)
  obtain ⟨w4, hw4⟩ : ∃ w4, w4 = w3.alloc (.cells #[.int .i64 2, .int .i64 r, .int .i64 (2 + r), .int .i64 t] 27) := ⟨_, rfl⟩
  have B4 : Hid (Below w.heap.size w w4) := by show Below _ _ _; rw [hw4]; exact bstep B3.out (below_a1 _ _)
  have X4 : Hid (w4.heap[w1.heap.size]? = some (.cells #[.int .i64 2, .int .i64 q, .int .i64 p, .int .i64 s] 27 (0, 0))) := by show _ = _; rw [hw4]; exact blk_alloc X3.out
  have Y4 : Hid (w4.heap[w3.heap.size]? = some (.cells #[.int .i64 2, .int .i64 r, .int .i64 (2 + r), .int .i64 t] 27 (0, 0))) := by show _ = _; rw [hw4]; exact blk_new _ _
  rw [← hw4]
  clear hw4
  go_wp2_with fail
  refine (LC.out _).mono ?_; rintro e w5 ⟨rfl, hb⟩
  have B5 := Lib.hid (bstep B4.out hb)
  have X5 := Lib.hid (blk_below X4.out hb)
  have Y5 := Lib.hid (blk_below Y4.out hb)
  clear hb
  go_upto_region 5 with (fail)
  obtain ⟨w6, hw6⟩ : ∃ w6, w6 = w5.alloc (.cells #[.int .i64 0, .int .i64 0, .int .i64 0, .int .i64 0] 27) := ⟨_, rfl⟩
  have B6 : Hid (Below w.heap.size w w6) := by show Below _ _ _; rw [hw6]; exact bstep B5.out (below_a1 _ _)
  have X6 : Hid (w6.heap[w1.heap.size]? = some (.cells #[.int .i64 2, .int .i64 q, .int .i64 p, .int .i64 s] 27 (0, 0))) := by show _ = _; rw [hw6]; exact blk_alloc X5.out
  have Y6 : Hid (w6.heap[w3.heap.size]? = some (.cells #[.int .i64 2, .int .i64 r, .int .i64 (2 + r), .int .i64 t] 27 (0, 0))) := by show _ = _; rw [hw6]; exact blk_alloc Y5.out
  rw [← hw6]
  clear hw6
  go_wp2_with fail
  refine (LD.out _).mono ?_; rintro e w7 ⟨rfl, hb⟩
  have B7 := Lib.hid (bstep B6.out hb)
  have X7 := Lib.hid (blk_below X6.out hb)
  have Y7 := Lib.hid (blk_below Y6.out hb)
  clear hb
  go_upto_region 6 with (fail)
  obtain ⟨w8, hw8⟩ : ∃ w8, w8 = w7.alloc (.cells #[.int .i64 0, .int .i64 0, .int .i64 0, .int .i64 0] 27) := ⟨_, rfl⟩
  have B8 : Hid (Below w.heap.size w w8) := by show Below _ _ _; rw [hw8]; exact bstep B7.out (below_a1 _ _)
  have X8 : Hid (w8.heap[w1.heap.size]? = some (.cells #[.int .i64 2, .int .i64 q, .int .i64 p, .int .i64 s] 27 (0, 0))) := by show _ = _; rw [hw8]; exact blk_alloc X7.out
  have Y8 : Hid (w8.heap[w3.heap.size]? = some (.cells #[.int .i64 2, .int .i64 r, .int .i64 (2 + r), .int .i64 t] 27 (0, 0))) := by show _ = _; rw [hw8]; exact blk_alloc Y7.out
  rw [← hw8]
  clear hw8
  have hx := blk_cell X8.out
  have hy := blk_cell Y8.out
  go_wp2_with fail
  refine (WK.out _ (HW.out.below B8.out)).mono ?_; rintro e w9 ⟨rfl, hb⟩
  have B9 := Lib.hid (bstep B8.out hb)
  clear hb
  go_wp2_with fail
  go_ret
  exact ⟨rfl, B9.out⟩
end Go.Proofs.YtndabaadenlhnaaGreatDoor
