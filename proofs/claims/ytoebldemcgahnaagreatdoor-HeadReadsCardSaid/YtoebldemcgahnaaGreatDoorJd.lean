/- Heads (layer 20): the document's Decode. -/
import Derived.Test.YtoebldemcgahnaaGreatDoorHc
import Derived.Test.YtoebldemcgahnaaGreatDoorJb
import Derived.Test.YtoebldemcgahnaaGreatDoorJc
namespace Go.Proofs.YtoebldemcgahnaaGreatDoor
open Go.RowKit
set_option maxRecDepth 100000 in
set_option maxHeartbeats 8000000 in
theorem ref20_Decode (b : ByteArray) (w : World) :
    Calls Tryz.prog 35 #[.string b] w fun e w' => e = .returned (.tuple #[(decH b).1.v, .int .i64 (decH b).2]) ∧ Below w.heap.size w w' := by
  obtain ⟨w0, hw0⟩ : ∃ w0, w0 = w.alloc (.cells #[.int .u32 0, .int .i64 0, .int .u32 0] 65) := ⟨_, rfl⟩
  have B0 : Hid (Below w.heap.size w w0) := by show Below _ _ _; rw [hw0]; exact below_a1 _ _
  have X0 : Hid (w0.heap[w.heap.size]? = some (.cells #[.int .u32 0, .int .i64 0, .int .u32 0] 65 (0, 0))) := by show _ = _; rw [hw0]; exact blk_new _ _
  have HW0 := Lib.hid hw0
  have HXC : Hid (∀ W, Below w0.heap.size w0 W → ∀ o, W.cell? ⟨w.heap.size, o, none⟩ = (#[.int .u32 0, .int .i64 0, .int .u32 0] : Array Value)[o]?) := fun W h => blk_cell (blk_below X0.out h)
  have HXF : Hid (∀ W, Below w0.heap.size w0 W → ∀ o, W.frozen? ⟨w.heap.size, o, none⟩ = false) := fun W h => blk_frozen (blk_below X0.out h)
  have HZ : Hid (∀ W, Below w0.heap.size w0 W → ∀ (a b c : Value) o, (((W.setCell ⟨w.heap.size, 0, none⟩ a).setCell ⟨w.heap.size, 1, none⟩ b).setCell ⟨w.heap.size, 2, none⟩ c).cell? ⟨w.heap.size, o, none⟩ = (#[a, b, c] : Array Value)[o]?) := fun W h a b c => blk_cell (st3 (blk_below X0.out h) a b c)
  have HB : Hid (∀ W, Below w0.heap.size w0 W → ∀ (a b c : Value), Below w.heap.size w (((W.setCell ⟨w.heap.size, 0, none⟩ a).setCell ⟨w.heap.size, 1, none⟩ b).setCell ⟨w.heap.size, 2, none⟩ c)) := fun W h a b c => bst3 (bstep B0.out h) (Nat.le_refl _) a b c
  clear hw0
  have HD : decH b = decL b.data.toList := rfl
  unfold decL at HD
  cases hr : readF [b.data.toList] with
  | none =>
    rw [hr] at HD
    rw [HD, Hd.zero_v]
    have HR := Lib.hid hr
    clear hr HD
    go_enter Tryz.func35, Tryz.ntmps35
    go_upto_region 1 with (fail)
    rw [← HW0.out]
    go_wp2_with fail
    obtain ⟨w1, hw1⟩ : ∃ w1, w1 = w0.alloc (.cells #[.string b] 9) := ⟨_, rfl⟩
    have B1 : Hid (Below w0.heap.size w0 w1) := by show Below _ _ _; rw [hw1]; exact below_a1 _ _
    have V1 : Hid (SlStrs w1 (.slice (some ⟨w0.heap.size, 0, none⟩) 1 1) [b]) := by show SlStrs _ _ _; rw [hw1]; exact strs_one (blk_new _ _)
    rw [← hw1]
    clear hw1
    refine (ref18_Read _ [b] (by simp) w1 V1.out).mono ?_; rintro e w2 ⟨rfl, hb⟩
    have B2 := Lib.hid (bstep B1.out hb)
    rw [show LL [b] = [b.data.toList] from rfl, HR.out]
    unfold gotV
    dsimp only
    clear hb
    go_upto_region 2 with (fail)
    obtain ⟨w3, hw3⟩ : ∃ w3, w3 = w2.alloc (.cells #[.string ⟨#[]⟩, .int .u32 0, .int .i64 0, .bool false] 143) := ⟨_, rfl⟩
    have B3 : Hid (Below w0.heap.size w0 w3) := by show Below _ _ _; rw [hw3]; exact bstep B2.out (below_a1 _ _)
    have X3 : Hid (w3.heap[w2.heap.size]? = some (.cells #[.string ⟨#[]⟩, .int .u32 0, .int .i64 0, .bool false] 143 (0, 0))) := by show _ = _; rw [hw3]; exact blk_new _ _
    rw [← hw3]
    clear hw3
    have hc3 := blk_cell X3.out
    have hc := HXC.out _ B3.out
    have hf := HXF.out _ B3.out
    go_wp2_with fail
    have hz := HZ.out _ B3.out (.int .u32 0) (.int .i64 0) (.int .u32 0)
    exact bodyPost_ret (v := .tuple #[.agg #[.int .u32 0, .int .i64 0, .int .u32 0], .int .i64 11]) (by simp [results, Tryz.results35, go_sem, hz]) rfl ⟨rfl, HB.out _ B3.out _ _ _⟩
  | some r =>
    obtain ⟨s, n, k⟩ := r
    rw [hr] at HD
    dsimp only at HD
    have HR := Lib.hid hr
    obtain ⟨rfl, hbs, hsl, hn0, hn1, _⟩ := read_one hr
    clear hr
    have hAz : (ofL s).size = s.length := ofL_size s
    have hAl : (ofL s).data.toList = s := ofL_list s
    obtain ⟨A, hA⟩ : ∃ A, A = ofL s := ⟨_, rfl⟩
    rw [← hA] at hAz hAl
    have HA := Lib.hid hA
    by_cases c1 : s.length = 13
    · have z13 : A.size = 13 := by omega
      have q1 : ((A.size : Int) != 13) = false := by rw [z13]; rfl
      have l7 : (7 : Int) ≤ (A.size : Int) := by omega
      have hx : (A.extract 0 7).toList = s.take 7 := by rw [Lib.toList_data, extract_list, hAl]; rfl
      by_cases c2 : s.take 7 = nameL
      · have q2 : ((A.extract 0 7).toList == [112, 97, 110, 110, 105, 101, 114]) = true := by rw [hx, c2]; decide
        have q3 : ((A.extract 0 7).toList != [112, 97, 110, 110, 105, 101, 114]) = false := by rw [bne, q2]; rfl
        obtain ⟨v, hv, hv2, ht⟩ := take_at2 (b := A) (a := 7) (by omega)
        obtain ⟨u, hu, hu2, ht2⟩ := take_at (b := A) (a := 9) (by omega)
        have T1 := Lib.hid (fun W => ref16_Take_eq (b := A) (a := 7) (n := 2) ht (by omega) W)
        have T2 := Lib.hid (fun W => ref16_Take_eq (b := A) (a := 9) (n := 4) ht2 (by omega) W)
        rw [hAl] at hv hu
        have e1 : Hd.ofS n s = ⟨n, (v : Int) - 1, (u : Int)⟩ := by unfold Hd.ofS; rw [← hv, ← hu]
        have eb := Hd.body_of (n := n) c1 c2
        rw [e1] at HD eb
        have GD := Lib.hid (fun W => ref20_Encode ⟨n, (v : Int) - 1, (u : Int)⟩ (by dsimp only; omega) (by dsimp only; omega) (by dsimp only; omega) (by dsimp only; omega) W)
        unfold Hd.v at GD
        dsimp only at GD
        have i1 : IntKind.i64.wrap (v : Int) = (v : Int) := IntWalk.i64_in _ (by omega)
        have i2 : IntKind.i64.wrap ((v : Int) - 1) = (v : Int) - 1 := IntWalk.i64_in _ (by omega)
        have i3 : (u : Int) % 4294967296 = (u : Int) := Int.emod_eq_of_lt (by omega) (by omega)
        have i4 : IntKind.u32.wrap (u : Int) = (u : Int) := by rw [IntKind.wrap_u32]; exact i3
        by_cases c3 : (Hd.mk n ((v : Int) - 1) (u : Int)).good
        · rw [if_pos ⟨c1, c2, c3⟩] at HD
          rw [enc_good c3] at GD
          have es : ofL (Hd.mk n ((v : Int) - 1) (u : Int)).sec = b := by
            unfold Hd.sec
            rw [eb]
            show ofL (secF n (allF s) 1 0) = b
            rw [← hbs, ofL_of]
          rw [es] at GD
          rw [HD]
          clear HD c1 c2 c3 hx hv hu ht ht2 hA hAz hAl e1 eb hbs es
          go_enter Tryz.func35, Tryz.ntmps35
          go_upto_region 1 with (fail)
          rw [← HW0.out]
          go_wp2_with fail
          obtain ⟨w1, hw1⟩ : ∃ w1, w1 = w0.alloc (.cells #[.string b] 9) := ⟨_, rfl⟩
          have B1 : Hid (Below w0.heap.size w0 w1) := by show Below _ _ _; rw [hw1]; exact below_a1 _ _
          have V1 : Hid (SlStrs w1 (.slice (some ⟨w0.heap.size, 0, none⟩) 1 1) [b]) := by show SlStrs _ _ _; rw [hw1]; exact strs_one (blk_new _ _)
          rw [← hw1]
          clear hw1
          refine (ref18_Read _ [b] (by simp) w1 V1.out).mono ?_; rintro e w2 ⟨rfl, hb⟩
          have B2 := Lib.hid (bstep B1.out hb)
          rw [show LL [b] = [b.data.toList] from rfl, HR.out]
          unfold gotV
          dsimp only
          clear hb
          rw [← HA.out]
          go_upto_region 2 with (fail)
          obtain ⟨w3, hw3⟩ : ∃ w3, w3 = w2.alloc (.cells #[.string A, .int .u32 n, .int .i64 1, .bool true] 143) := ⟨_, rfl⟩
          have B3 : Hid (Below w0.heap.size w0 w3) := by show Below _ _ _; rw [hw3]; exact bstep B2.out (below_a1 _ _)
          have X3 : Hid (w3.heap[w2.heap.size]? = some (.cells #[.string A, .int .u32 n, .int .i64 1, .bool true] 143 (0, 0))) := by show _ = _; rw [hw3]; exact blk_new _ _
          rw [← hw3]
          clear hw3
          have hc3 := blk_cell X3.out
          go_wp2_with fail
          refine (T1.out _).mono ?_; rintro e y ⟨rfl, rfl⟩
          go_wp2_with fail
          refine (T2.out _).mono ?_; rintro e y ⟨rfl, rfl⟩
          go_upto_region 7 with (fail)
          obtain ⟨w5, hw5⟩ : ∃ w5, w5 = w3.alloc (.cells #[.int .u32 n, .int .i64 ((v : Int) - 1), .int .u32 (u : Int)] 65) := ⟨_, rfl⟩
          have B5 : Hid (Below w0.heap.size w0 w5) := by show Below _ _ _; rw [hw5]; exact bstep B3.out (below_a1 _ _)
          have X5 : Hid (w5.heap[w3.heap.size]? = some (.cells #[.int .u32 n, .int .i64 ((v : Int) - 1), .int .u32 (u : Int)] 65 (0, 0))) := by show _ = _; rw [hw5]; exact blk_new _ _
          rw [← hw5]
          clear hw5 hc3
          have hc5 := blk_cell X5.out
          go_wp2_with fail
          refine (GD.out _).mono ?_; rintro e w6 ⟨rfl, hb⟩
          have B6 := Lib.hid (bstep B5.out hb)
          have hc6 := blk_cell (blk_below X5.out hb)
          clear hb hc5
          have hc := HXC.out _ B6.out
          have hf := HXF.out _ B6.out
          go_wp2_with fail
          have hz := HZ.out _ B6.out (.int .u32 n) (.int .i64 ((v : Int) - 1)) (.int .u32 (u : Int))
          exact bodyPost_ret (v := .tuple #[.agg #[.int .u32 n, .int .i64 ((v : Int) - 1), .int .u32 (u : Int)], .int .i64 0]) (by simp [results, Tryz.results35, go_sem, hz]) rfl ⟨rfl, HB.out _ B6.out _ _ _⟩
        · rw [if_neg (fun h => c3 h.2.2)] at HD
          rw [enc_bad c3] at GD
          rw [HD, Hd.zero_v]
          clear HD c1 c2 c3 hx hv hu ht ht2 hA hAz hAl e1 eb hbs
          go_enter Tryz.func35, Tryz.ntmps35
          go_upto_region 1 with (fail)
          rw [← HW0.out]
          go_wp2_with fail
          obtain ⟨w1, hw1⟩ : ∃ w1, w1 = w0.alloc (.cells #[.string b] 9) := ⟨_, rfl⟩
          have B1 : Hid (Below w0.heap.size w0 w1) := by show Below _ _ _; rw [hw1]; exact below_a1 _ _
          have V1 : Hid (SlStrs w1 (.slice (some ⟨w0.heap.size, 0, none⟩) 1 1) [b]) := by show SlStrs _ _ _; rw [hw1]; exact strs_one (blk_new _ _)
          rw [← hw1]
          clear hw1
          refine (ref18_Read _ [b] (by simp) w1 V1.out).mono ?_; rintro e w2 ⟨rfl, hb⟩
          have B2 := Lib.hid (bstep B1.out hb)
          rw [show LL [b] = [b.data.toList] from rfl, HR.out]
          unfold gotV
          dsimp only
          clear hb
          rw [← HA.out]
          go_upto_region 2 with (fail)
          obtain ⟨w3, hw3⟩ : ∃ w3, w3 = w2.alloc (.cells #[.string A, .int .u32 n, .int .i64 1, .bool true] 143) := ⟨_, rfl⟩
          have B3 : Hid (Below w0.heap.size w0 w3) := by show Below _ _ _; rw [hw3]; exact bstep B2.out (below_a1 _ _)
          have X3 : Hid (w3.heap[w2.heap.size]? = some (.cells #[.string A, .int .u32 n, .int .i64 1, .bool true] 143 (0, 0))) := by show _ = _; rw [hw3]; exact blk_new _ _
          rw [← hw3]
          clear hw3
          have hc3 := blk_cell X3.out
          go_wp2_with fail
          refine (T1.out _).mono ?_; rintro e y ⟨rfl, rfl⟩
          go_wp2_with fail
          refine (T2.out _).mono ?_; rintro e y ⟨rfl, rfl⟩
          go_upto_region 7 with (fail)
          obtain ⟨w5, hw5⟩ : ∃ w5, w5 = w3.alloc (.cells #[.int .u32 n, .int .i64 ((v : Int) - 1), .int .u32 (u : Int)] 65) := ⟨_, rfl⟩
          have B5 : Hid (Below w0.heap.size w0 w5) := by show Below _ _ _; rw [hw5]; exact bstep B3.out (below_a1 _ _)
          have X5 : Hid (w5.heap[w3.heap.size]? = some (.cells #[.int .u32 n, .int .i64 ((v : Int) - 1), .int .u32 (u : Int)] 65 (0, 0))) := by show _ = _; rw [hw5]; exact blk_new _ _
          rw [← hw5]
          clear hw5 hc3
          have hc5 := blk_cell X5.out
          go_wp2_with fail
          refine (GD.out _).mono ?_; rintro e w6 ⟨rfl, hb⟩
          have B6 := Lib.hid (bstep B5.out hb)
          have hc6 := blk_cell (blk_below X5.out hb)
          clear hb hc5
          have hc := HXC.out _ B6.out
          have hf := HXF.out _ B6.out
          go_wp2_with fail
          have hz := HZ.out _ B6.out (.int .u32 0) (.int .i64 0) (.int .u32 0)
          exact bodyPost_ret (v := .tuple #[.agg #[.int .u32 0, .int .i64 0, .int .u32 0], .int .i64 11]) (by simp [results, Tryz.results35, go_sem, hz]) rfl ⟨rfl, HB.out _ B6.out _ _ _⟩
      · have q2 : ((A.extract 0 7).toList == [112, 97, 110, 110, 105, 101, 114]) = false := by rw [hx, beq_eq_false_iff_ne]; exact c2
        have q3 : ((A.extract 0 7).toList != [112, 97, 110, 110, 105, 101, 114]) = true := by rw [bne, q2]; rfl
        rw [if_neg (fun h => c2 h.2.1)] at HD
        rw [HD, Hd.zero_v]
        clear HD c1 c2 hx hA hAz hAl hbs
        go_enter Tryz.func35, Tryz.ntmps35
        go_upto_region 1 with (fail)
        rw [← HW0.out]
        go_wp2_with fail
        obtain ⟨w1, hw1⟩ : ∃ w1, w1 = w0.alloc (.cells #[.string b] 9) := ⟨_, rfl⟩
        have B1 : Hid (Below w0.heap.size w0 w1) := by show Below _ _ _; rw [hw1]; exact below_a1 _ _
        have V1 : Hid (SlStrs w1 (.slice (some ⟨w0.heap.size, 0, none⟩) 1 1) [b]) := by show SlStrs _ _ _; rw [hw1]; exact strs_one (blk_new _ _)
        rw [← hw1]
        clear hw1
        refine (ref18_Read _ [b] (by simp) w1 V1.out).mono ?_; rintro e w2 ⟨rfl, hb⟩
        have B2 := Lib.hid (bstep B1.out hb)
        rw [show LL [b] = [b.data.toList] from rfl, HR.out]
        unfold gotV
        dsimp only
        clear hb
        rw [← HA.out]
        go_upto_region 2 with (fail)
        obtain ⟨w3, hw3⟩ : ∃ w3, w3 = w2.alloc (.cells #[.string A, .int .u32 n, .int .i64 1, .bool true] 143) := ⟨_, rfl⟩
        have B3 : Hid (Below w0.heap.size w0 w3) := by show Below _ _ _; rw [hw3]; exact bstep B2.out (below_a1 _ _)
        have X3 : Hid (w3.heap[w2.heap.size]? = some (.cells #[.string A, .int .u32 n, .int .i64 1, .bool true] 143 (0, 0))) := by show _ = _; rw [hw3]; exact blk_new _ _
        rw [← hw3]
        clear hw3
        have hc3 := blk_cell X3.out
        have hc := HXC.out _ B3.out
        have hf := HXF.out _ B3.out
        go_wp2_with fail
        have hz := HZ.out _ B3.out (.int .u32 0) (.int .i64 0) (.int .u32 0)
        exact bodyPost_ret (v := .tuple #[.agg #[.int .u32 0, .int .i64 0, .int .u32 0], .int .i64 11]) (by simp [results, Tryz.results35, go_sem, hz]) rfl ⟨rfl, HB.out _ B3.out _ _ _⟩
    · have q1 : ((A.size : Int) != 13) = true := by rw [bne_iff_ne]; omega
      rw [if_neg (fun h => c1 h.1)] at HD
      rw [HD, Hd.zero_v]
      clear HD c1 hA hAz hAl hbs
      go_enter Tryz.func35, Tryz.ntmps35
      go_upto_region 1 with (fail)
      rw [← HW0.out]
      go_wp2_with fail
      obtain ⟨w1, hw1⟩ : ∃ w1, w1 = w0.alloc (.cells #[.string b] 9) := ⟨_, rfl⟩
      have B1 : Hid (Below w0.heap.size w0 w1) := by show Below _ _ _; rw [hw1]; exact below_a1 _ _
      have V1 : Hid (SlStrs w1 (.slice (some ⟨w0.heap.size, 0, none⟩) 1 1) [b]) := by show SlStrs _ _ _; rw [hw1]; exact strs_one (blk_new _ _)
      rw [← hw1]
      clear hw1
      refine (ref18_Read _ [b] (by simp) w1 V1.out).mono ?_; rintro e w2 ⟨rfl, hb⟩
      have B2 := Lib.hid (bstep B1.out hb)
      rw [show LL [b] = [b.data.toList] from rfl, HR.out]
      unfold gotV
      dsimp only
      clear hb
      rw [← HA.out]
      go_upto_region 2 with (fail)
      obtain ⟨w3, hw3⟩ : ∃ w3, w3 = w2.alloc (.cells #[.string A, .int .u32 n, .int .i64 1, .bool true] 143) := ⟨_, rfl⟩
      have B3 : Hid (Below w0.heap.size w0 w3) := by show Below _ _ _; rw [hw3]; exact bstep B2.out (below_a1 _ _)
      have X3 : Hid (w3.heap[w2.heap.size]? = some (.cells #[.string A, .int .u32 n, .int .i64 1, .bool true] 143 (0, 0))) := by show _ = _; rw [hw3]; exact blk_new _ _
      rw [← hw3]
      clear hw3
      have hc3 := blk_cell X3.out
      have hc := HXC.out _ B3.out
      have hf := HXF.out _ B3.out
      go_wp2_with fail
      have hz := HZ.out _ B3.out (.int .u32 0) (.int .i64 0) (.int .u32 0)
      exact bodyPost_ret (v := .tuple #[.agg #[.int .u32 0, .int .i64 0, .int .u32 0], .int .i64 11]) (by simp [results, Tryz.results35, go_sem, hz]) rfl ⟨rfl, HB.out _ B3.out _ _ _⟩
end Go.Proofs.YtoebldemcgahnaaGreatDoor
