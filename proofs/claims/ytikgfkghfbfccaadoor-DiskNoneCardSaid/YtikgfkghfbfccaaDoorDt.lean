/- Disks (layer 19): DiskNone. -/
import Derived.Test.YtikgfkghfbfccaaDoorDs
namespace Go.Proofs.YtikgfkghfbfccaaDoor
open Go.RowKit
theorem SlStps.one {w : World} {b : Nat} {t : TypeId} {x : Stp} {v : Value} (h : w.heap[b]? = some (.cells #[.int .i64 x.k, .int .i64 x.n, .string x.s, v] t (0, 0))) (hv : SlKept w v x.l) : SlStps w (.slice (some ⟨b, 0, none⟩) 1 1) [x] := by
  refine .inr ⟨b, 0, 1, rfl, Nat.le_refl _, ⟨fun _ => blk_lt h, fun i hi => ?_, fun i hi => ?_, fun i hi => ?_, fun i hi => ?_⟩⟩ <;> (have h0 : i = 0 := by simpa using hi)
  all_goals subst h0
  · rw [blk_cell h]; rfl
  · rw [blk_cell h]; rfl
  · rw [blk_cell h]; rfl
  · exact ⟨v, by rw [blk_cell h]; rfl, hv⟩
set_option maxRecDepth 100000 in
set_option maxHeartbeats 4000000 in
theorem law19_DiskNone (x : Stp) (v : Value) (aD aA : Addr) (w : World) (hv : SlKept w v x.l) (hw : DkW w aD aA) :
    Calls Tryd.prog 8 #[.agg #[.int .i64 x.k, .int .i64 x.n, .string x.s, v]] w fun e w' => e = .returned (.bool true) ∧ Below w.heap.size w w' := by
  have HW := Lib.hid hw
  have WK := Lib.hid (fun W h => wakes19 aD aA W h)
  obtain ⟨p, c, rfl⟩ := hv.form
  have HV := Lib.hid hv
  clear hw hv
  obtain ⟨w1, hw1⟩ : ∃ w1, w1 = w.alloc (.cells #[.int .i64 x.k, .int .i64 x.n, .string x.s, .slice p x.l.length c] 71) := ⟨_, rfl⟩
  have B1 : Hid (Below w.heap.size w w1) := by show Below _ _ _; rw [hw1]; exact below_alloc1 _ _
  have b1 : Hid (w1.heap[w.heap.size]? = some (.cells #[.int .i64 x.k, .int .i64 x.n, .string x.s, .slice p x.l.length c] 71 (0, 0))) := by show _ = _; rw [hw1]; exact blk_new _ _
  obtain ⟨w2, hw2⟩ : ∃ w2, w2 = w1.alloc (.cells #[.int .i64 x.k, .int .i64 x.n, .string x.s, .slice p x.l.length c] 71) := ⟨_, rfl⟩
  have B2 : Hid (Below w1.heap.size w1 w2) := by show Below _ _ _; rw [hw2]; exact below_alloc1 _ _
  have b2 : Hid (w2.heap[w1.heap.size]? = some (.cells #[.int .i64 x.k, .int .i64 x.n, .string x.s, .slice p x.l.length c] 71 (0, 0))) := by show _ = _; rw [hw2]; exact blk_new _ _
  have FR := Lib.hid (law19_fair _ [x] (by simp) w2 (SlStps.one b2.out (HV.out.below (bstep B1.out B2.out))))
  go_enter Tryd.func8, Tryd.ntmps8
  go_upto_region 1 with (fail)
  rw [← hw1]
  have hc := blk_cell b1.out
  clear hw1
  go_wp2_with fail
  rw [← hw2]
  clear hw2 hc
  refine FR.out.mono ?_; rintro e w3 ⟨rfl, rfl⟩
  have BB := Lib.hid (bstep B1.out B2.out)
  have bx := Lib.hid (blk_below b1.out B2.out)
  cases hf : fairB [x] with
  | false =>
    clear hf
    go_wp2_with fail
    refine (WK.out _ (HW.out.below BB.out)).mono ?_; rintro e y ⟨rfl, hby⟩
    have By := Lib.hid (bstep BB.out hby)
    clear hby
    go_wp2_with fail
    go_ret
    exact ⟨rfl, By.out⟩
  | true =>
    clear hf
    have hc := blk_cell bx.out
    go_wp2_with fail
    refine (nil_Start _).mono ?_; rintro e y ⟨rfl, rfl⟩
    go_wp2_with fail
    refine (nil_Crash _ _).mono ?_; rintro e y ⟨rfl, rfl⟩
    go_wp2_with fail
    refine (nil_Read _ aD aA _ (HW.out.below BB.out)).mono ?_; rintro e y1 ⟨rfl, hb⟩
    have B3 := Lib.hid (bstep BB.out hb)
    have bx3 := Lib.hid (blk_below bx.out hb)
    clear hc hb
    have hc := blk_cell bx3.out
    go_wp2_with fail
    refine (nil_Write _ _ aD aA _ (HW.out.below B3.out)).mono ?_; rintro e y2 ⟨rfl, hb⟩
    have B4 := Lib.hid (bstep B3.out hb)
    have bx4 := Lib.hid (blk_below bx3.out hb)
    clear hc hb
    have hc := blk_cell bx4.out
    go_wp2_with fail
    refine (nil_Flush aD aA _ (HW.out.below B4.out)).mono ?_; rintro e y3 ⟨rfl, hb⟩
    have B5 := Lib.hid (bstep B4.out hb)
    have bx5 := Lib.hid (blk_below bx4.out hb)
    clear hc hb
    have hc := blk_cell bx5.out
    go_wp2_with fail
    refine (nil_Arm _ _ _).mono ?_; rintro e y ⟨rfl, rfl⟩
    go_wp2_with fail
    refine (nil_Dead _).mono ?_; rintro e y ⟨rfl, rfl⟩
    go_wp2_with fail
    refine (nil_Size _).mono ?_; rintro e y ⟨rfl, rfl⟩
    go_wp2_with fail
    refine (nil_Dirty _).mono ?_; rintro e y ⟨rfl, rfl⟩
    go_wp2_with fail
    refine (nil_Bytes _).mono ?_; rintro e y ⟨rfl, rfl⟩
    clear hc
    go_wp2_with fail
    refine (WK.out _ (HW.out.below B5.out)).mono ?_; rintro e y ⟨rfl, hby⟩
    have By := Lib.hid (bstep B5.out hby)
    clear hby
    go_wp2_with fail
    go_ret
    exact ⟨rfl, By.out⟩
end Go.Proofs.YtikgfkghfbfccaaDoor
