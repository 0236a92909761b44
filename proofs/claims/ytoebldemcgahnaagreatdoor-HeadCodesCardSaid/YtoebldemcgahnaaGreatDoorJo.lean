/- Heads (layer 20): the law HeadCodes. -/
import Derived.Test.YtoebldemcgahnaaGreatDoorJl
import Derived.Test.YtoebldemcgahnaaGreatDoorJd
import Derived.Deep.RegionHeld3
namespace Go.Proofs.YtoebldemcgahnaaGreatDoor
open Go.RowKit
set_option maxHeartbeats 1000000 in
theorem law20_Own (e r f : Int) (w : World) : Calls Tryz.prog 33 #[.agg #[.int .u32 e, .int .i64 r, .int .u32 f]] w fun z w' => z = .returned (.agg #[.int .u32 e, .int .i64 r, .int .u32 f]) ∧ Below w.heap.size w w' := by
  have BX : Hid (∀ W : World, Below w.heap.size w W → True) := fun _ _ => trivial
  go_enter Tryz.func33, Tryz.ntmps33
  go_wp2_with fail
  exact bodyPost_ret (v := .agg #[.int .u32 e, .int .i64 r, .int .u32 f]) (by simp [results, Tryz.results33, go_sem]) rfl ⟨rfl, bstep (below_a1 _ _) (below_a1 _ _)⟩
set_option maxRecDepth 20000 in
set_option maxHeartbeats 16000000 in
theorem law20_HeadCodes (n e r f : Int) (b : ByteArray) (e0 : 0 ≤ e) (e1 : e < 4294967296) (f0 : 0 ≤ f) (f1 : f < 4294967296) (bz : b.size ≤ 140737488351232) (a0 a1 a2 aD aA : Addr) (w : World) (hw : HwW w a0 a1 a2 aD aA) :
    Calls Tryz.prog 7 #[.int .i64 n, .agg #[.int .u32 e, .int .i64 r, .int .u32 f], .string b] w fun e w' => e = .returned (.bool true) ∧ Below w.heap.size w w' := by
  have HW := Lib.hid hw
  have WK := Lib.hid (fun W h => wakes20 a0 a1 a2 aD aA W h)
  have OW := Lib.hid law20_Own
  obtain ⟨w0, hw0⟩ : ∃ w0, w0 = w.alloc (.cells #[.int .u32 e, .int .i64 r, .int .u32 f] 54) := ⟨_, rfl⟩
  have Bw0 : Hid (Below w.heap.size w w0) := by show Below _ _ _; rw [hw0]; exact below_a1 _ _
  have Xw0 : Hid (w0.heap[w.heap.size]? = some (.cells #[.int .u32 e, .int .i64 r, .int .u32 f] 54 (0, 0))) := by show _ = _; rw [hw0]; exact blk_new _ _
  have HW0 := Lib.hid hw0
  clear hw hw0
  by_cases c0 : 2000 < b.size
  · have q0 : (2000 : Int) < (b.size : Int) := by omega
    go_enter Tryz.func7, Tryz.ntmps7
    go_upto_region 1 with (fail)
    rw [← HW0.out]
    go_wp2_with fail
    refine (WK.out _ (HW.out.below Bw0.out)).mono ?_; rintro z w1 ⟨rfl, hb⟩
    have B1 := Lib.hid (bstep Bw0.out hb)
    clear hb
    go_wp2_with fail
    go_ret
    exact ⟨rfl, B1.out⟩
  have q0 : ¬ (2000 : Int) < (b.size : Int) := by omega
  have EN := Lib.hid (fun W k1 k2 => head_Encode ⟨e, r, f⟩ e0 e1 f0 f1 W k1 k2)
  have ER := Lib.hid (fun W => ref20_Encode ⟨e, r, f⟩ e0 e1 f0 f1 W)
  have DE := Lib.hid (fun W h => head_Decode b a0 a1 a2 W h)
  have DR := Lib.hid (fun W => ref20_Decode b W)
  have LY := Lib.hid (fun W => head_Lay n W)
  have LR := Lib.hid (fun W => ref20_Lay n W)
  obtain ⟨S, cS, hS⟩ : ∃ S c, encH ⟨e, r, f⟩ = (S, c) := ⟨_, _, rfl⟩
  obtain ⟨y, cy, hy⟩ : ∃ y c, decH b = (y, c) := ⟨_, _, rfl⟩
  obtain ⟨x, cx, hx⟩ : ∃ x c, layN n = (x, c) := ⟨_, _, rfl⟩
  obtain ⟨x0, x1, x2, x3⟩ := x
  rw [hS] at EN ER
  rw [hy] at DE DR
  rw [hx] at LY LR
  unfold Hd.v at EN ER DE DR
  unfold layV at LY LR
  dsimp only at EN ER DE DR LY LR
  have s1 : (S.toList == S.toList) = true := by simp
  have s2 : (cS == cS) = true := by simp
  have s3 : (cy == cy) = true := by simp
  have s4 : (cx == cx) = true := by simp
  have s5 : (x0 == x0) = true := by simp
  have s6 : (x1 == x1) = true := by simp
  have s7 : (x2 == x2) = true := by simp
  have s8 : (x3 == x3) = true := by simp
  clear bz c0 hS hy hx
  go_enter Tryz.func7, Tryz.ntmps7
  go_upto_region 1 with (fail)
  rw [← HW0.out]
  go_wp2_with fail
  refine (LY.out _).mono ?_; rintro z w1 ⟨rfl, hb⟩
  have Bw1 := Lib.hid (bstep Bw0.out hb)
  have Xw1 : Hid (w1.heap[w.heap.size]? = some (.cells #[.int .u32 e, .int .i64 r, .int .u32 f] 54 (0, 0))) := blk_below Xw0.out hb
  clear hb
  go_upto_region 4 with (fail)
  obtain ⟨w2, hw2⟩ : ∃ z, z = w1.alloc (.cells #[.int .i64 x0, .int .i64 x1, .int .i64 x2, .int .i64 x3] 56) := ⟨_, rfl⟩
  have Bw2 : Hid (Below w.heap.size w w2) := by show Below _ _ _; rw [hw2]; exact bstep Bw1.out (below_a1 _ _)
  have Xw2 : Hid (w2.heap[w.heap.size]? = some (.cells #[.int .u32 e, .int .i64 r, .int .u32 f] 54 (0, 0))) := by show _ = _; rw [hw2]; exact blk_alloc Xw1.out
  have Aw2 : Hid (w2.heap[w1.heap.size]? = some (.cells #[.int .i64 x0, .int .i64 x1, .int .i64 x2, .int .i64 x3] 56 (0, 0))) := by show _ = _; rw [hw2]; exact blk_new _ _
  rw [← hw2]
  clear hw2
  go_wp2_with fail
  refine (LR.out _).mono ?_; rintro z w3 ⟨rfl, hb⟩
  have Bw3 := Lib.hid (bstep Bw2.out hb)
  have Xw3 : Hid (w3.heap[w.heap.size]? = some (.cells #[.int .u32 e, .int .i64 r, .int .u32 f] 54 (0, 0))) := blk_below Xw2.out hb
  have Aw3 : Hid (w3.heap[w1.heap.size]? = some (.cells #[.int .i64 x0, .int .i64 x1, .int .i64 x2, .int .i64 x3] 56 (0, 0))) := blk_below Aw2.out hb
  clear hb
  go_upto_region 5 with (fail)
  obtain ⟨w4, hw4⟩ : ∃ z, z = w3.alloc (.cells #[.int .i64 x0, .int .i64 x1, .int .i64 x2, .int .i64 x3] 59) := ⟨_, rfl⟩
  have Bw4 : Hid (Below w.heap.size w w4) := by show Below _ _ _; rw [hw4]; exact bstep Bw3.out (below_a1 _ _)
  have Xw4 : Hid (w4.heap[w.heap.size]? = some (.cells #[.int .u32 e, .int .i64 r, .int .u32 f] 54 (0, 0))) := by show _ = _; rw [hw4]; exact blk_alloc Xw3.out
  have Aw4 : Hid (w4.heap[w1.heap.size]? = some (.cells #[.int .i64 x0, .int .i64 x1, .int .i64 x2, .int .i64 x3] 56 (0, 0))) := by show _ = _; rw [hw4]; exact blk_alloc Aw3.out
  have Cw4 : Hid (w4.heap[w3.heap.size]? = some (.cells #[.int .i64 x0, .int .i64 x1, .int .i64 x2, .int .i64 x3] 59 (0, 0))) := by show _ = _; rw [hw4]; exact blk_new _ _
  rw [← hw4]
  clear hw4
  have hx4 := blk_cell Xw4.out
  go_wp2_with fail
  refine (EN.out _ (HW.out.below Bw4.out).f.et (HW.out.below Bw4.out).f.tbl).mono ?_; rintro z w5 ⟨rfl, hb⟩
  have Bw5 := Lib.hid (bstep Bw4.out hb)
  have Xw5 : Hid (w5.heap[w.heap.size]? = some (.cells #[.int .u32 e, .int .i64 r, .int .u32 f] 54 (0, 0))) := blk_below Xw4.out hb
  have Aw5 : Hid (w5.heap[w1.heap.size]? = some (.cells #[.int .i64 x0, .int .i64 x1, .int .i64 x2, .int .i64 x3] 56 (0, 0))) := blk_below Aw4.out hb
  have Cw5 : Hid (w5.heap[w3.heap.size]? = some (.cells #[.int .i64 x0, .int .i64 x1, .int .i64 x2, .int .i64 x3] 59 (0, 0))) := blk_below Cw4.out hb
  clear hb
  clear hx4
  have hx5 := blk_cell Xw5.out
  go_wp2_with fail
  refine (OW.out _ _ _ _).mono ?_; rintro z w6 ⟨rfl, hb⟩
  have Bw6 := Lib.hid (bstep Bw5.out hb)
  have Xw6 : Hid (w6.heap[w.heap.size]? = some (.cells #[.int .u32 e, .int .i64 r, .int .u32 f] 54 (0, 0))) := blk_below Xw5.out hb
  have Aw6 : Hid (w6.heap[w1.heap.size]? = some (.cells #[.int .i64 x0, .int .i64 x1, .int .i64 x2, .int .i64 x3] 56 (0, 0))) := blk_below Aw5.out hb
  have Cw6 : Hid (w6.heap[w3.heap.size]? = some (.cells #[.int .i64 x0, .int .i64 x1, .int .i64 x2, .int .i64 x3] 59 (0, 0))) := blk_below Cw5.out hb
  clear hb
  clear hx5
  go_wp2_with fail
  refine (ER.out _).mono ?_; rintro z w7 ⟨rfl, hb⟩
  have Bw7 := Lib.hid (bstep Bw6.out hb)
  have Xw7 : Hid (w7.heap[w.heap.size]? = some (.cells #[.int .u32 e, .int .i64 r, .int .u32 f] 54 (0, 0))) := blk_below Xw6.out hb
  have Aw7 : Hid (w7.heap[w1.heap.size]? = some (.cells #[.int .i64 x0, .int .i64 x1, .int .i64 x2, .int .i64 x3] 56 (0, 0))) := blk_below Aw6.out hb
  have Cw7 : Hid (w7.heap[w3.heap.size]? = some (.cells #[.int .i64 x0, .int .i64 x1, .int .i64 x2, .int .i64 x3] 59 (0, 0))) := blk_below Cw6.out hb
  clear hb
  go_wp2_with fail
  refine (DE.out _ (HW.out.below Bw7.out).f).mono ?_; rintro z w8 ⟨rfl, hb⟩
  have Bw8 := Lib.hid (bstep Bw7.out hb)
  have Xw8 : Hid (w8.heap[w.heap.size]? = some (.cells #[.int .u32 e, .int .i64 r, .int .u32 f] 54 (0, 0))) := blk_below Xw7.out hb
  have Aw8 : Hid (w8.heap[w1.heap.size]? = some (.cells #[.int .i64 x0, .int .i64 x1, .int .i64 x2, .int .i64 x3] 56 (0, 0))) := blk_below Aw7.out hb
  have Cw8 : Hid (w8.heap[w3.heap.size]? = some (.cells #[.int .i64 x0, .int .i64 x1, .int .i64 x2, .int .i64 x3] 59 (0, 0))) := blk_below Cw7.out hb
  clear hb
  go_upto_region 8 with (fail)
  obtain ⟨w9, hw9⟩ : ∃ z, z = w8.alloc (.cells #[.int .u32 y.e, .int .i64 y.r, .int .u32 y.f] 54) := ⟨_, rfl⟩
  have Bw9 : Hid (Below w.heap.size w w9) := by show Below _ _ _; rw [hw9]; exact bstep Bw8.out (below_a1 _ _)
  have Xw9 : Hid (w9.heap[w.heap.size]? = some (.cells #[.int .u32 e, .int .i64 r, .int .u32 f] 54 (0, 0))) := by show _ = _; rw [hw9]; exact blk_alloc Xw8.out
  have Aw9 : Hid (w9.heap[w1.heap.size]? = some (.cells #[.int .i64 x0, .int .i64 x1, .int .i64 x2, .int .i64 x3] 56 (0, 0))) := by show _ = _; rw [hw9]; exact blk_alloc Aw8.out
  have Cw9 : Hid (w9.heap[w3.heap.size]? = some (.cells #[.int .i64 x0, .int .i64 x1, .int .i64 x2, .int .i64 x3] 59 (0, 0))) := by show _ = _; rw [hw9]; exact blk_alloc Cw8.out
  have Yw9 : Hid (w9.heap[w8.heap.size]? = some (.cells #[.int .u32 y.e, .int .i64 y.r, .int .u32 y.f] 54 (0, 0))) := by show _ = _; rw [hw9]; exact blk_new _ _
  rw [← hw9]
  clear hw9
  go_wp2_with fail
  refine (DR.out _).mono ?_; rintro z w10 ⟨rfl, hb⟩
  have Bw10 := Lib.hid (bstep Bw9.out hb)
  have Xw10 : Hid (w10.heap[w.heap.size]? = some (.cells #[.int .u32 e, .int .i64 r, .int .u32 f] 54 (0, 0))) := blk_below Xw9.out hb
  have Aw10 : Hid (w10.heap[w1.heap.size]? = some (.cells #[.int .i64 x0, .int .i64 x1, .int .i64 x2, .int .i64 x3] 56 (0, 0))) := blk_below Aw9.out hb
  have Cw10 : Hid (w10.heap[w3.heap.size]? = some (.cells #[.int .i64 x0, .int .i64 x1, .int .i64 x2, .int .i64 x3] 59 (0, 0))) := blk_below Cw9.out hb
  have Yw10 : Hid (w10.heap[w8.heap.size]? = some (.cells #[.int .u32 y.e, .int .i64 y.r, .int .u32 y.f] 54 (0, 0))) := blk_below Yw9.out hb
  clear hb
  go_upto_region 9 with (fail)
  obtain ⟨w11, hw11⟩ : ∃ z, z = w10.alloc (.cells #[.int .u32 y.e, .int .i64 y.r, .int .u32 y.f] 65) := ⟨_, rfl⟩
  have Bw11 : Hid (Below w.heap.size w w11) := by show Below _ _ _; rw [hw11]; exact bstep Bw10.out (below_a1 _ _)
  have Xw11 : Hid (w11.heap[w.heap.size]? = some (.cells #[.int .u32 e, .int .i64 r, .int .u32 f] 54 (0, 0))) := by show _ = _; rw [hw11]; exact blk_alloc Xw10.out
  have Aw11 : Hid (w11.heap[w1.heap.size]? = some (.cells #[.int .i64 x0, .int .i64 x1, .int .i64 x2, .int .i64 x3] 56 (0, 0))) := by show _ = _; rw [hw11]; exact blk_alloc Aw10.out
  have Cw11 : Hid (w11.heap[w3.heap.size]? = some (.cells #[.int .i64 x0, .int .i64 x1, .int .i64 x2, .int .i64 x3] 59 (0, 0))) := by show _ = _; rw [hw11]; exact blk_alloc Cw10.out
  have Yw11 : Hid (w11.heap[w8.heap.size]? = some (.cells #[.int .u32 y.e, .int .i64 y.r, .int .u32 y.f] 54 (0, 0))) := by show _ = _; rw [hw11]; exact blk_alloc Yw10.out
  have Zw11 : Hid (w11.heap[w10.heap.size]? = some (.cells #[.int .u32 y.e, .int .i64 y.r, .int .u32 y.f] 65 (0, 0))) := by show _ = _; rw [hw11]; exact blk_new _ _
  rw [← hw11]
  clear hw11
  have SOf : Hid (∀ W, Below w11.heap.size w11 W → (∀ o, W.cell? ⟨w1.heap.size, o, none⟩ = (#[.int .i64 x0, .int .i64 x1, .int .i64 x2, .int .i64 x3] : Array Value)[o]?) ∧ (∀ o, W.cell? ⟨w3.heap.size, o, none⟩ = (#[.int .i64 x0, .int .i64 x1, .int .i64 x2, .int .i64 x3] : Array Value)[o]?) ∧ (∀ o, W.cell? ⟨w8.heap.size, o, none⟩ = (#[.int .u32 y.e, .int .i64 y.r, .int .u32 y.f] : Array Value)[o]?) ∧ (∀ o, W.cell? ⟨w10.heap.size, o, none⟩ = (#[.int .u32 y.e, .int .i64 y.r, .int .u32 y.f] : Array Value)[o]?)) := fun W h => ⟨blk_cell (blk_below Aw11.out h), blk_cell (blk_below Cw11.out h), blk_cell (blk_below Yw11.out h), blk_cell (blk_below Zw11.out h)⟩
  have BN : Hid (Below w11.heap.size w11 w11.drew) := ⟨rfl, rfl, rfl, Nat.le_refl _, fun _ _ => rfl⟩
  have S0 := SOf.out _ BN.out
  go_region_held3 (fun w' => (∀ o, w'.cell? ⟨w1.heap.size, o, none⟩ = (#[.int .i64 x0, .int .i64 x1, .int .i64 x2, .int .i64 x3] : Array Value)[o]?) ∧ (∀ o, w'.cell? ⟨w3.heap.size, o, none⟩ = (#[.int .i64 x0, .int .i64 x1, .int .i64 x2, .int .i64 x3] : Array Value)[o]?) ∧ (∀ o, w'.cell? ⟨w8.heap.size, o, none⟩ = (#[.int .u32 y.e, .int .i64 y.r, .int .u32 y.f] : Array Value)[o]?) ∧ (∀ o, w'.cell? ⟨w10.heap.size, o, none⟩ = (#[.int .u32 y.e, .int .i64 y.r, .int .u32 y.f] : Array Value)[o]?)) (first | exact S0 | assumption)
    (first
      | (go_at_call 33; refine (OW.out _ _ _ _).mono ?_; rintro z y ⟨rfl, hy⟩; have BN := Lib.hid (bstep BN.out hy); have S0 := SOf.out _ BN.out; clear hy)
      | (go_at_call 28; refine (WK.out _ ((HW.out.below Bw11.out).below BN.out)).mono ?_; rintro z y ⟨rfl, hy⟩; have BN := Lib.hid (bstep BN.out hy); have S0 := SOf.out _ BN.out; clear hy))
  go_wp2_with fail
  go_ret
  exact ⟨rfl, bstep Bw11.out BN.out⟩
end Go.Proofs.YtoebldemcgahnaaGreatDoor
