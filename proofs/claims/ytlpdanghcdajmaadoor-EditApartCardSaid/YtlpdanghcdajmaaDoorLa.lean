/- The walks of the laws of layer 17. -/
import Derived.Test.YtlpdanghcdajmaaDoorKp
import Derived.Deep.RegionHeld3
namespace Go.Proofs.YtlpdanghcdajmaaDoor
open Go.RowKit

theorem et_drew {w : World} (h : EtIs w) : EtIs w.drew := h

structure LawP (w : World) (p9 p11 : Nat) (X Y Z : Array Value) (w' : World) : Prop where
  bx : w'.heap[w.heap.size]? = some (.cells X 59 (0, 0))
  by' : w'.heap[p9]? = some (.cells Y 59 (0, 0))
  bz : w'.heap[p11]? = some (.cells Z 59 (0, 0))
  fr : Below w.heap.size w w'
  et : EtIs w'
theorem LawP.below {w : World} {p9 p11 : Nat} {X Y Z : Array Value} {a c : World} (h : LawP w p9 p11 X Y Z a) (hb : Below a.heap.size a c) : LawP w p9 p11 X Y Z c :=
  ⟨blk_below h.bx hb, blk_below h.by' hb, blk_below h.bz hb, bstep h.fr hb, h.et.below hb⟩
theorem LawP.drew {w : World} {p9 p11 : Nat} {X Y Z : Array Value} {a : World} (h : LawP w p9 p11 X Y Z a) : LawP w p9 p11 X Y Z a.drew :=
  ⟨h.bx, h.by', h.bz, ⟨h.fr.os, h.fr.tape, h.fr.output, h.fr.size, h.fr.block⟩, h.et⟩
theorem LawP.cells {w : World} {p9 p11 : Nat} {X Y Z : Array Value} {a : World} (h : LawP w p9 p11 X Y Z a) : (∀ o, a.cell? ⟨w.heap.size, o, none⟩ = X[o]?) ∧ (∀ o, a.cell? ⟨p9, o, none⟩ = Y[o]?) ∧ (∀ o, a.cell? ⟨p11, o, none⟩ = Z[o]?) :=
  ⟨blk_cell h.bx, blk_cell h.by', blk_cell h.bz⟩

set_option maxRecDepth 100000 in
set_option maxHeartbeats 4000000 in
theorem law17_EditCodes (k ar ac fr fc tr tc : Int) (s b : ByteArray) (hb : b.size ≤ 140737488351232) (w : World) (he : EtIs w) :
    Calls Tryd.prog 10 #[.agg #[.int .i64 k, .int .i64 ar, .int .i64 ac, .int .i64 fr, .int .i64 fc, .int .i64 tr, .int .i64 tc, .string s], .string b] w fun e w' => e = .returned (.bool true) ∧ Below w.heap.size w w' := by
  by_cases z1 : (3000 : Int) < (s.size : Int)
  · have z := z1
    go_enter Tryd.func10, Tryd.ntmps10
    go_wp2_with fail
    refine (law17_wakes _ (he.alloc _)).mono ?_; rintro e w1 ⟨rfl, hb1⟩
    go_wp2_with fail
    go_ret
    exact ⟨rfl, bstep (below_a1 _ _) hb1⟩
  by_cases z2 : (3000 : Int) < (b.size : Int)
  · have z := z2
    go_enter Tryd.func10, Tryd.ntmps10
    go_wp2_with fail
    refine (law17_wakes _ (he.alloc _)).mono ?_; rintro e w1 ⟨rfl, hb1⟩
    go_wp2_with fail
    go_ret
    exact ⟨rfl, bstep (below_a1 _ _) hb1⟩
  obtain ⟨S, c, hE⟩ : ∃ S c, encR k ar ac fr fc tr tc s = (S, c) := ⟨_, _, rfl⟩
  have E0 := edit_Encode k ar ac fr fc tr tc s
  have R0 := ref17_Encode k ar ac fr fc tr tc s
  rw [hE] at E0 R0
  have E1 := Lib.hid E0
  have R1 := Lib.hid R0
  clear E0 R0 hE
  obtain ⟨⟨yk, yar, yac, yfr, yfc, ytr, ytc, ys, ya, ybad⟩, f, hD⟩ : ∃ y f, decR b = (y, f) := ⟨_, _, rfl⟩
  have D0 := edit_Decode b hb
  have F0 := ref17_Decode b hb
  rw [hD] at D0 F0
  simp only [Dst.cells] at D0 F0
  have D1 := Lib.hid D0
  have F1 := Lib.hid F0
  clear D0 F0 hD
  have G0 := edit_Good k ar ac fr fc tr tc s
  have H0 := ref17_Good k ar ac fr fc tr tc s
  obtain ⟨g, hg⟩ : ∃ g, goodE k ar ac fr fc tr tc s = g := ⟨_, rfl⟩
  rw [hg] at G0 H0
  have G1 := Lib.hid G0
  have H1 := Lib.hid H0
  clear G0 H0 hg
  have K1 := Lib.hid (keep_same yk yar yac yfr yfc ytr ytc ys)
  have W1 := Lib.hid law17_wakes
  have He := Lib.hid he
  clear he
  go_enter Tryd.func10, Tryd.ntmps10
  go_wp2_with fail
  obtain ⟨w0, hw0, bx0, hB0, he0⟩ : ∃ w0, w.alloc (.cells #[.int .i64 k, .int .i64 ar, .int .i64 ac, .int .i64 fr, .int .i64 fc, .int .i64 tr, .int .i64 tc, .string s] 59) = w0 ∧ w0.heap[w.heap.size]? = some (.cells #[.int .i64 k, .int .i64 ar, .int .i64 ac, .int .i64 fr, .int .i64 fc, .int .i64 tr, .int .i64 tc, .string s] 59 (0, 0)) ∧ Below w.heap.size w w0 ∧ EtIs w0 := ⟨_, rfl, blk_new _ _, below_a1 _ _, He.out.alloc _⟩
  rw [hw0]; clear hw0
  refine (E1.out _ he0).mono ?_; rintro e w1 ⟨rfl, hb1⟩
  have bx1 := blk_below bx0 hb1
  have hB1 := bstep hB0 hb1
  have he1 := he0.below hb1
  have Bx1 := Lib.hid bx1; have hx1 := blk_cell bx1; have He1 := Lib.hid he1; have HB1 := Lib.hid hB1
  clear bx0 hB0 he0 bx1 he1 hB1 hb1
  go_wp2_with fail
  refine (R1.out _).mono ?_; rintro e w2 ⟨rfl, hb2⟩
  have bx2 := blk_below Bx1.out hb2
  have hB2 := bstep HB1.out hb2
  have he2 := He1.out.below hb2
  have Bx2 := Lib.hid bx2; have hx2 := blk_cell bx2; have He2 := Lib.hid he2; have HB2 := Lib.hid hB2
  clear hx1 bx2 hB2 he2 hb2
  go_wp2_with fail
  refine (D1.out _ He2.out).mono ?_; rintro e w3 ⟨rfl, hb3⟩
  have bx3 := blk_below Bx2.out hb3
  have hB3 := bstep HB2.out hb3
  have he3 := He2.out.below hb3
  have Bx3 := Lib.hid bx3; have He3 := Lib.hid he3; have HB3 := Lib.hid hB3
  clear hx2 bx3 hB3 he3 hb3
  go_wp2_with fail
  obtain ⟨p9, hp9⟩ : ∃ p, p = w3.heap.size := ⟨_, rfl⟩
  obtain ⟨w4, hw4, bx4, by4, hB4, he4⟩ : ∃ w4, w3.alloc (.cells #[.int .i64 yk, .int .i64 yar, .int .i64 yac, .int .i64 yfr, .int .i64 yfc, .int .i64 ytr, .int .i64 ytc, .string ys] 59) = w4 ∧ w4.heap[w.heap.size]? = some (.cells #[.int .i64 k, .int .i64 ar, .int .i64 ac, .int .i64 fr, .int .i64 fc, .int .i64 tr, .int .i64 tc, .string s] 59 (0, 0)) ∧ w4.heap[p9]? = some (.cells #[.int .i64 yk, .int .i64 yar, .int .i64 yac, .int .i64 yfr, .int .i64 yfc, .int .i64 ytr, .int .i64 ytc, .string ys] 59 (0, 0)) ∧ Below w.heap.size w w4 ∧ EtIs w4 := ⟨_, rfl, blk_alloc Bx3.out, by rw [hp9]; exact blk_new _ _, bstep HB3.out (below_a1 _ _), He3.out.alloc _⟩
  rw [hw4, ← hp9]; clear hw4 hp9
  have Bx4 := Lib.hid bx4; have By4 := Lib.hid by4; have He4 := Lib.hid he4; have HB4 := Lib.hid hB4
  clear bx4 by4 he4 hB4
  refine (F1.out _).mono ?_; rintro e w5 ⟨rfl, hb5⟩
  have Bx5 := Lib.hid (blk_below Bx4.out hb5)
  have By5 := Lib.hid (blk_below By4.out hb5)
  have He5 := Lib.hid (He4.out.below hb5)
  have HB5 := Lib.hid (bstep HB4.out hb5)
  clear hb5
  go_upto_region 7 with (fail)
  obtain ⟨p11, hp11⟩ : ∃ p, p = w5.heap.size := ⟨_, rfl⟩
  obtain ⟨w6, hw6, bx6, by6, bz6, hB6, he6⟩ : ∃ w6, w5.alloc (.cells #[.int .i64 yk, .int .i64 yar, .int .i64 yac, .int .i64 yfr, .int .i64 yfc, .int .i64 ytr, .int .i64 ytc, .string ys] 59) = w6 ∧ w6.heap[w.heap.size]? = some (.cells #[.int .i64 k, .int .i64 ar, .int .i64 ac, .int .i64 fr, .int .i64 fc, .int .i64 tr, .int .i64 tc, .string s] 59 (0, 0)) ∧ w6.heap[p9]? = some (.cells #[.int .i64 yk, .int .i64 yar, .int .i64 yac, .int .i64 yfr, .int .i64 yfc, .int .i64 ytr, .int .i64 ytc, .string ys] 59 (0, 0)) ∧ w6.heap[p11]? = some (.cells #[.int .i64 yk, .int .i64 yar, .int .i64 yac, .int .i64 yfr, .int .i64 yfc, .int .i64 ytr, .int .i64 ytc, .string ys] 59 (0, 0)) ∧ Below w.heap.size w w6 ∧ EtIs w6 := ⟨_, rfl, blk_alloc Bx5.out, blk_alloc By5.out, by rw [hp11]; exact blk_new _ _, bstep HB5.out (below_a1 _ _), He5.out.alloc _⟩
  rw [hw6, ← hp11]; clear hw6 hp11
  have P6 := Lib.hid (LawP.mk bx6 by6 bz6 hB6 he6).drew
  clear bx6 by6 bz6 hB6 he6
  have S6 := P6.out.cells
  go_region_held3 (fun w' => (∀ o, w'.cell? ⟨w.heap.size, o, none⟩ = (#[.int .i64 k, .int .i64 ar, .int .i64 ac, .int .i64 fr, .int .i64 fc, .int .i64 tr, .int .i64 tc, .string s] : Array Value)[o]?) ∧ (∀ o, w'.cell? ⟨p9, o, none⟩ = (#[.int .i64 yk, .int .i64 yar, .int .i64 yac, .int .i64 yfr, .int .i64 yfc, .int .i64 ytr, .int .i64 ytc, .string ys] : Array Value)[o]?) ∧ (∀ o, w'.cell? ⟨p11, o, none⟩ = (#[.int .i64 yk, .int .i64 yar, .int .i64 yac, .int .i64 yfr, .int .i64 yfc, .int .i64 ytr, .int .i64 ytc, .string ys] : Array Value)[o]?)) (first | assumption | exact S6)
    (first
      | (go_at_call 38; refine (G1.out _).mono ?_; rintro e w7 ⟨rfl, hb7⟩; have P7 := Lib.hid (P6.out.below hb7); have S7 := P7.out.cells; clear hb7)
      | (go_at_call 39; refine (H1.out _).mono ?_; rintro e w8 ⟨rfl, hb8⟩; have P8 := Lib.hid (P7.out.below hb8); have S8 := P8.out.cells; clear hb8)
      | (go_at_call 40; refine (K1.out _).mono ?_; rintro e w9 ⟨rfl, hb9⟩; have P9 := Lib.hid (P8.out.below hb9); have S9 := P9.out.cells; clear hb9)
      | (go_at_call 33; refine (W1.out _ P9.out.et).mono ?_; rintro e w10 ⟨rfl, hb10⟩; have P10 := Lib.hid (P9.out.below hb10); have S10 := P10.out.cells; clear hb10))
  go_wp2_with fail
  go_ret
  exact ⟨rfl, P10.out.fr⟩

set_option maxRecDepth 100000 in
set_option maxHeartbeats 4000000 in
theorem law17_EditBack (k ar ac fr fc tr tc : Int) (s b : ByteArray) (hb : b.size ≤ 140737488351232) (w : World) (he : EtIs w) :
    Calls Tryd.prog 11 #[.agg #[.int .i64 k, .int .i64 ar, .int .i64 ac, .int .i64 fr, .int .i64 fc, .int .i64 tr, .int .i64 tc, .string s], .string b] w fun e w' => e = .returned (.bool true) ∧ Below w.heap.size w w' := by
  by_cases z1 : (3000 : Int) < (s.size : Int)
  · have z := z1
    go_enter Tryd.func11, Tryd.ntmps11
    go_wp2_with fail
    refine (law17_wakes _ (he.alloc _)).mono ?_; rintro e w1 ⟨rfl, hb1⟩
    go_wp2_with fail
    go_ret
    exact ⟨rfl, bstep (below_a1 _ _) hb1⟩
  by_cases z2 : (3000 : Int) < (b.size : Int)
  · have z := z2
    go_enter Tryd.func11, Tryd.ntmps11
    go_wp2_with fail
    refine (law17_wakes _ (he.alloc _)).mono ?_; rintro e w1 ⟨rfl, hb1⟩
    go_wp2_with fail
    go_ret
    exact ⟨rfl, bstep (below_a1 _ _) hb1⟩
  have W1 := Lib.hid law17_wakes
  have He := Lib.hid he
  clear he
  cases hg : goodE k ar ac fr fc tr tc s with
  | true =>
    have hd := dec_enc hg
    have hz := enc_size hg
    have hc : (encR k ar ac fr fc tr tc s).2 = 0 := by rw [enc_code, if_pos hg]
    obtain ⟨S, c, hE⟩ : ∃ S c, encR k ar ac fr fc tr tc s = (S, c) := ⟨_, _, rfl⟩
    have E0 := edit_Encode k ar ac fr fc tr tc s
    rw [hE] at E0 hd hz hc
    simp only at hd hz hc
    subst hc
    have hS : S.size ≤ 140737488351232 := by
      split at hz
      · omega
      · split at hz <;> omega
    have E1 := Lib.hid E0
    have D0 := edit_Decode S hS
    rw [hd] at D0
    simp only [Dst.cells] at D0
    have D1 := Lib.hid D0
    have K1 := Lib.hid (keep_same k ar ac fr fc tr tc s)
    clear E0 D0 hE hd hz hg
    rcases decR_cases b with hb0 | ⟨hb0, hbad, hgy⟩
    · have F0 := edit_Decode b hb
      rw [hb0] at F0
      simp only [zD, Dst.cells] at F0
      have F1 := Lib.hid F0
      clear F0 hb0
      go_enter Tryd.func11, Tryd.ntmps11
      go_wp2_with fail
      obtain ⟨w0, hw0, bx0, hB0, he0⟩ : ∃ w0, w.alloc (.cells #[.int .i64 k, .int .i64 ar, .int .i64 ac, .int .i64 fr, .int .i64 fc, .int .i64 tr, .int .i64 tc, .string s] 59) = w0 ∧ w0.heap[w.heap.size]? = some (.cells #[.int .i64 k, .int .i64 ar, .int .i64 ac, .int .i64 fr, .int .i64 fc, .int .i64 tr, .int .i64 tc, .string s] 59 (0, 0)) ∧ Below w.heap.size w w0 ∧ EtIs w0 := ⟨_, rfl, blk_new _ _, below_a1 _ _, He.out.alloc _⟩
      rw [hw0]; clear hw0
      refine (E1.out _ he0).mono ?_; rintro e w1 ⟨rfl, hb1⟩
      have bx1 := blk_below bx0 hb1
      have hB1 := bstep hB0 hb1
      have he1 := he0.below hb1
      have hx1 := blk_cell bx1
      have He1 := Lib.hid he1; have HB1 := Lib.hid hB1; have Bx1 := Lib.hid bx1
      clear bx0 hB0 he0 he1 hB1 hb1 bx1
      go_wp2_with fail
      refine (D1.out _ He1.out).mono ?_; rintro e w2 ⟨rfl, hb2⟩
      have Bx2 := Lib.hid (blk_below Bx1.out hb2); have HB2 := Lib.hid (bstep HB1.out hb2); have He2 := Lib.hid (He1.out.below hb2)
      clear hb2 hx1
      go_upto_region 6 with (fail)
      obtain ⟨p9, hp9⟩ : ∃ p, p = w2.heap.size := ⟨_, rfl⟩
      obtain ⟨w3, hw3, bx3, by3, hB3, he3⟩ : ∃ w3, w2.alloc (.cells #[.int .i64 k, .int .i64 ar, .int .i64 ac, .int .i64 fr, .int .i64 fc, .int .i64 tr, .int .i64 tc, .string s] 59) = w3 ∧ w3.heap[w.heap.size]? = some (.cells #[.int .i64 k, .int .i64 ar, .int .i64 ac, .int .i64 fr, .int .i64 fc, .int .i64 tr, .int .i64 tc, .string s] 59 (0, 0)) ∧ w3.heap[p9]? = some (.cells #[.int .i64 k, .int .i64 ar, .int .i64 ac, .int .i64 fr, .int .i64 fc, .int .i64 tr, .int .i64 tc, .string s] 59 (0, 0)) ∧ Below w.heap.size w w3 ∧ EtIs w3 := ⟨_, rfl, blk_alloc Bx2.out, by rw [hp9]; exact blk_new _ _, bstep HB2.out (below_a1 _ _), He2.out.alloc _⟩
      rw [hw3, ← hp9]; clear hw3 hp9
      have hx3 := blk_cell bx3; have hy3 := blk_cell by3
      have He3 := Lib.hid he3; have HB3 := Lib.hid hB3
      clear he3 hB3 bx3 by3
      go_wp2_with fail
      refine (K1.out _).mono ?_; rintro e w4 ⟨rfl, hb4⟩
      have He1 := Lib.hid (He3.out.below hb4); have HB1 := Lib.hid (bstep HB3.out hb4)
      clear hb4 hx3 hy3
      go_wp2_with fail
      refine (F1.out _ He1.out).mono ?_; rintro e w5 ⟨rfl, hb5⟩
      have He5 := Lib.hid (He1.out.below hb5); have HB5 := Lib.hid (bstep HB1.out hb5)
      clear hb5
      go_upto_region 10 with (fail)
      obtain ⟨p9, hp9⟩ : ∃ p, p = w5.heap.size := ⟨_, rfl⟩
      obtain ⟨w6, hw6, by6, hB6, he6⟩ : ∃ w6, w5.alloc (.cells #[.int .i64 0, .int .i64 0, .int .i64 0, .int .i64 0, .int .i64 0, .int .i64 0, .int .i64 0, .string ⟨#[]⟩] 59) = w6 ∧ w6.heap[p9]? = some (.cells #[.int .i64 0, .int .i64 0, .int .i64 0, .int .i64 0, .int .i64 0, .int .i64 0, .int .i64 0, .string ⟨#[]⟩] 59 (0, 0)) ∧ Below w.heap.size w w6 ∧ EtIs w6 := ⟨_, rfl, by rw [hp9]; exact blk_new _ _, bstep HB5.out (below_a1 _ _), He5.out.alloc _⟩
      rw [hw6, ← hp9]; clear hw6 hp9
      have hy6 := blk_cell by6; have HB6 := Lib.hid hB6; have He6 := Lib.hid he6
      clear by6 hB6 he6
      go_wp2_with fail
      refine (W1.out _ He6.out).mono ?_; rintro e w7 ⟨rfl, hb7⟩
      go_wp2_with fail
      go_ret
      exact ⟨rfl, bstep HB6.out hb7⟩
    · have hen := enc_dec hb0
      obtain ⟨⟨yk, yar, yac, yfr, yfc, ytr, ytc, ys, ya, ybad⟩, f, hD⟩ : ∃ y f, decR b = (y, f) := ⟨_, _, rfl⟩
      have F0 := edit_Decode b hb
      rw [hD] at F0 hb0 hgy hen
      simp only [Dst.cells] at F0 hb0 hgy hen
      subst hb0
      have F1 := Lib.hid F0
      have V0 := edit_Encode yk yar yac yfr yfc ytr ytc ys
      rw [hen] at V0
      have V1 := Lib.hid V0
      have U0 := edit_Good yk yar yac yfr yfc ytr ytc ys
      rw [hgy] at U0
      have U1 := Lib.hid U0
      clear F0 V0 U0 hen hgy hbad hD
      go_enter Tryd.func11, Tryd.ntmps11
      go_wp2_with fail
      obtain ⟨w0, hw0, bx0, hB0, he0⟩ : ∃ w0, w.alloc (.cells #[.int .i64 k, .int .i64 ar, .int .i64 ac, .int .i64 fr, .int .i64 fc, .int .i64 tr, .int .i64 tc, .string s] 59) = w0 ∧ w0.heap[w.heap.size]? = some (.cells #[.int .i64 k, .int .i64 ar, .int .i64 ac, .int .i64 fr, .int .i64 fc, .int .i64 tr, .int .i64 tc, .string s] 59 (0, 0)) ∧ Below w.heap.size w w0 ∧ EtIs w0 := ⟨_, rfl, blk_new _ _, below_a1 _ _, He.out.alloc _⟩
      rw [hw0]; clear hw0
      refine (E1.out _ he0).mono ?_; rintro e w1 ⟨rfl, hb1⟩
      have bx1 := blk_below bx0 hb1
      have hB1 := bstep hB0 hb1
      have he1 := he0.below hb1
      have hx1 := blk_cell bx1
      have He1 := Lib.hid he1; have HB1 := Lib.hid hB1; have Bx1 := Lib.hid bx1
      clear bx0 hB0 he0 he1 hB1 hb1 bx1
      go_wp2_with fail
      refine (D1.out _ He1.out).mono ?_; rintro e w2 ⟨rfl, hb2⟩
      have Bx2 := Lib.hid (blk_below Bx1.out hb2); have HB2 := Lib.hid (bstep HB1.out hb2); have He2 := Lib.hid (He1.out.below hb2)
      clear hb2 hx1
      go_upto_region 6 with (fail)
      obtain ⟨p9, hp9⟩ : ∃ p, p = w2.heap.size := ⟨_, rfl⟩
      obtain ⟨w3, hw3, bx3, by3, hB3, he3⟩ : ∃ w3, w2.alloc (.cells #[.int .i64 k, .int .i64 ar, .int .i64 ac, .int .i64 fr, .int .i64 fc, .int .i64 tr, .int .i64 tc, .string s] 59) = w3 ∧ w3.heap[w.heap.size]? = some (.cells #[.int .i64 k, .int .i64 ar, .int .i64 ac, .int .i64 fr, .int .i64 fc, .int .i64 tr, .int .i64 tc, .string s] 59 (0, 0)) ∧ w3.heap[p9]? = some (.cells #[.int .i64 k, .int .i64 ar, .int .i64 ac, .int .i64 fr, .int .i64 fc, .int .i64 tr, .int .i64 tc, .string s] 59 (0, 0)) ∧ Below w.heap.size w w3 ∧ EtIs w3 := ⟨_, rfl, blk_alloc Bx2.out, by rw [hp9]; exact blk_new _ _, bstep HB2.out (below_a1 _ _), He2.out.alloc _⟩
      rw [hw3, ← hp9]; clear hw3 hp9
      have hx3 := blk_cell bx3; have hy3 := blk_cell by3
      have He3 := Lib.hid he3; have HB3 := Lib.hid hB3
      clear he3 hB3 bx3 by3
      go_wp2_with fail
      refine (K1.out _).mono ?_; rintro e w4 ⟨rfl, hb4⟩
      have He1 := Lib.hid (He3.out.below hb4); have HB1 := Lib.hid (bstep HB3.out hb4)
      clear hb4 hx3 hy3
      go_wp2_with fail
      refine (F1.out _ He1.out).mono ?_; rintro e w5 ⟨rfl, hb5⟩
      have He5 := Lib.hid (He1.out.below hb5); have HB5 := Lib.hid (bstep HB1.out hb5)
      clear hb5
      go_upto_region 11 with (fail)
      obtain ⟨p9, hp9⟩ : ∃ p, p = w5.heap.size := ⟨_, rfl⟩
      obtain ⟨w6, hw6, by6, hB6, he6⟩ : ∃ w6, w5.alloc (.cells #[.int .i64 yk, .int .i64 yar, .int .i64 yac, .int .i64 yfr, .int .i64 yfc, .int .i64 ytr, .int .i64 ytc, .string ys] 59) = w6 ∧ w6.heap[p9]? = some (.cells #[.int .i64 yk, .int .i64 yar, .int .i64 yac, .int .i64 yfr, .int .i64 yfc, .int .i64 ytr, .int .i64 ytc, .string ys] 59 (0, 0)) ∧ Below w.heap.size w w6 ∧ EtIs w6 := ⟨_, rfl, by rw [hp9]; exact blk_new _ _, bstep HB5.out (below_a1 _ _), He5.out.alloc _⟩
      rw [hw6, ← hp9]; clear hw6 hp9
      have hy6 := blk_cell by6; have HB6 := Lib.hid hB6; have He6 := Lib.hid he6; have By6 := Lib.hid by6
      clear by6 hB6 he6
      go_wp2_with fail
      refine (V1.out _ He6.out).mono ?_; rintro e w7 ⟨rfl, hb7⟩
      have by7 := blk_below By6.out hb7
      have hy7 := blk_cell by7; have HB7 := Lib.hid (bstep HB6.out hb7); have He7 := Lib.hid (He6.out.below hb7)
      clear hb7 by7 hy6
      go_wp2_with fail
      refine (U1.out _).mono ?_; rintro e w8 ⟨rfl, hb8⟩
      have HB8 := Lib.hid (bstep HB7.out hb8); have He8 := Lib.hid (He7.out.below hb8)
      clear hb8 hy7
      go_wp2_with fail
      refine (W1.out _ He8.out).mono ?_; rintro e w9 ⟨rfl, hb9⟩
      go_wp2_with fail
      go_ret
      exact ⟨rfl, bstep HB8.out hb9⟩
  | false =>
    have hE : encR k ar ac fr fc tr tc s = (⟨#[]⟩, 11) := by unfold encR; rw [if_pos hg]
    have E0 := edit_Encode k ar ac fr fc tr tc s
    rw [hE] at E0
    have E1 := Lib.hid E0
    clear E0 hE hg
    rcases decR_cases b with hb0 | ⟨hb0, hbad, hgy⟩
    · have F0 := edit_Decode b hb
      rw [hb0] at F0
      simp only [zD, Dst.cells] at F0
      have F1 := Lib.hid F0
      clear F0 hb0
      go_enter Tryd.func11, Tryd.ntmps11
      go_wp2_with fail
      obtain ⟨w0, hw0, bx0, hB0, he0⟩ : ∃ w0, w.alloc (.cells #[.int .i64 k, .int .i64 ar, .int .i64 ac, .int .i64 fr, .int .i64 fc, .int .i64 tr, .int .i64 tc, .string s] 59) = w0 ∧ w0.heap[w.heap.size]? = some (.cells #[.int .i64 k, .int .i64 ar, .int .i64 ac, .int .i64 fr, .int .i64 fc, .int .i64 tr, .int .i64 tc, .string s] 59 (0, 0)) ∧ Below w.heap.size w w0 ∧ EtIs w0 := ⟨_, rfl, blk_new _ _, below_a1 _ _, He.out.alloc _⟩
      rw [hw0]; clear hw0
      refine (E1.out _ he0).mono ?_; rintro e w1 ⟨rfl, hb1⟩
      have bx1 := blk_below bx0 hb1
      have hB1 := bstep hB0 hb1
      have he1 := he0.below hb1
      have hx1 := blk_cell bx1
      have He1 := Lib.hid he1; have HB1 := Lib.hid hB1; have Bx1 := Lib.hid bx1
      clear bx0 hB0 he0 he1 hB1 hb1 bx1
      go_wp2_with fail
      refine (F1.out _ He1.out).mono ?_; rintro e w5 ⟨rfl, hb5⟩
      have He5 := Lib.hid (He1.out.below hb5); have HB5 := Lib.hid (bstep HB1.out hb5)
      clear hb5
      go_upto_region 10 with (fail)
      obtain ⟨p9, hp9⟩ : ∃ p, p = w5.heap.size := ⟨_, rfl⟩
      obtain ⟨w6, hw6, by6, hB6, he6⟩ : ∃ w6, w5.alloc (.cells #[.int .i64 0, .int .i64 0, .int .i64 0, .int .i64 0, .int .i64 0, .int .i64 0, .int .i64 0, .string ⟨#[]⟩] 59) = w6 ∧ w6.heap[p9]? = some (.cells #[.int .i64 0, .int .i64 0, .int .i64 0, .int .i64 0, .int .i64 0, .int .i64 0, .int .i64 0, .string ⟨#[]⟩] 59 (0, 0)) ∧ Below w.heap.size w w6 ∧ EtIs w6 := ⟨_, rfl, by rw [hp9]; exact blk_new _ _, bstep HB5.out (below_a1 _ _), He5.out.alloc _⟩
      rw [hw6, ← hp9]; clear hw6 hp9
      have hy6 := blk_cell by6; have HB6 := Lib.hid hB6; have He6 := Lib.hid he6
      clear by6 hB6 he6
      go_wp2_with fail
      refine (W1.out _ He6.out).mono ?_; rintro e w7 ⟨rfl, hb7⟩
      go_wp2_with fail
      go_ret
      exact ⟨rfl, bstep HB6.out hb7⟩
    · have hen := enc_dec hb0
      obtain ⟨⟨yk, yar, yac, yfr, yfc, ytr, ytc, ys, ya, ybad⟩, f, hD⟩ : ∃ y f, decR b = (y, f) := ⟨_, _, rfl⟩
      have F0 := edit_Decode b hb
      rw [hD] at F0 hb0 hgy hen
      simp only [Dst.cells] at F0 hb0 hgy hen
      subst hb0
      have F1 := Lib.hid F0
      have V0 := edit_Encode yk yar yac yfr yfc ytr ytc ys
      rw [hen] at V0
      have V1 := Lib.hid V0
      have U0 := edit_Good yk yar yac yfr yfc ytr ytc ys
      rw [hgy] at U0
      have U1 := Lib.hid U0
      clear F0 V0 U0 hen hgy hbad hD
      go_enter Tryd.func11, Tryd.ntmps11
      go_wp2_with fail
      obtain ⟨w0, hw0, bx0, hB0, he0⟩ : ∃ w0, w.alloc (.cells #[.int .i64 k, .int .i64 ar, .int .i64 ac, .int .i64 fr, .int .i64 fc, .int .i64 tr, .int .i64 tc, .string s] 59) = w0 ∧ w0.heap[w.heap.size]? = some (.cells #[.int .i64 k, .int .i64 ar, .int .i64 ac, .int .i64 fr, .int .i64 fc, .int .i64 tr, .int .i64 tc, .string s] 59 (0, 0)) ∧ Below w.heap.size w w0 ∧ EtIs w0 := ⟨_, rfl, blk_new _ _, below_a1 _ _, He.out.alloc _⟩
      rw [hw0]; clear hw0
      refine (E1.out _ he0).mono ?_; rintro e w1 ⟨rfl, hb1⟩
      have bx1 := blk_below bx0 hb1
      have hB1 := bstep hB0 hb1
      have he1 := he0.below hb1
      have hx1 := blk_cell bx1
      have He1 := Lib.hid he1; have HB1 := Lib.hid hB1; have Bx1 := Lib.hid bx1
      clear bx0 hB0 he0 he1 hB1 hb1 bx1
      go_wp2_with fail
      refine (F1.out _ He1.out).mono ?_; rintro e w5 ⟨rfl, hb5⟩
      have He5 := Lib.hid (He1.out.below hb5); have HB5 := Lib.hid (bstep HB1.out hb5)
      clear hb5
      go_upto_region 11 with (fail)
      obtain ⟨p9, hp9⟩ : ∃ p, p = w5.heap.size := ⟨_, rfl⟩
      obtain ⟨w6, hw6, by6, hB6, he6⟩ : ∃ w6, w5.alloc (.cells #[.int .i64 yk, .int .i64 yar, .int .i64 yac, .int .i64 yfr, .int .i64 yfc, .int .i64 ytr, .int .i64 ytc, .string ys] 59) = w6 ∧ w6.heap[p9]? = some (.cells #[.int .i64 yk, .int .i64 yar, .int .i64 yac, .int .i64 yfr, .int .i64 yfc, .int .i64 ytr, .int .i64 ytc, .string ys] 59 (0, 0)) ∧ Below w.heap.size w w6 ∧ EtIs w6 := ⟨_, rfl, by rw [hp9]; exact blk_new _ _, bstep HB5.out (below_a1 _ _), He5.out.alloc _⟩
      rw [hw6, ← hp9]; clear hw6 hp9
      have hy6 := blk_cell by6; have HB6 := Lib.hid hB6; have He6 := Lib.hid he6; have By6 := Lib.hid by6
      clear by6 hB6 he6
      go_wp2_with fail
      refine (V1.out _ He6.out).mono ?_; rintro e w7 ⟨rfl, hb7⟩
      have by7 := blk_below By6.out hb7
      have hy7 := blk_cell by7; have HB7 := Lib.hid (bstep HB6.out hb7); have He7 := Lib.hid (He6.out.below hb7)
      clear hb7 by7 hy6
      go_wp2_with fail
      refine (U1.out _).mono ?_; rintro e w8 ⟨rfl, hb8⟩
      have HB8 := Lib.hid (bstep HB7.out hb8); have He8 := Lib.hid (He7.out.below hb8)
      clear hb8 hy7
      go_wp2_with fail
      refine (W1.out _ He8.out).mono ?_; rintro e w9 ⟨rfl, hb9⟩
      go_wp2_with fail
      go_ret
      exact ⟨rfl, bstep HB8.out hb9⟩

set_option maxRecDepth 100000 in
set_option maxHeartbeats 4000000 in
theorem law17_EditApart (k ar ac fr fc tr tc k' ar' ac' fr' fc' tr' tc' : Int) (s s' : ByteArray)  (w : World) (he : EtIs w) :
    Calls Tryd.prog 12 #[.agg #[.int .i64 k, .int .i64 ar, .int .i64 ac, .int .i64 fr, .int .i64 fc, .int .i64 tr, .int .i64 tc, .string s], .agg #[.int .i64 k', .int .i64 ar', .int .i64 ac', .int .i64 fr', .int .i64 fc', .int .i64 tr', .int .i64 tc', .string s']] w fun e w' => e = .returned (.bool true) ∧ Below w.heap.size w w' := by
  by_cases z1 : (3000 : Int) < (s.size : Int)
  · have z := z1
    go_enter Tryd.func12, Tryd.ntmps12
    go_wp2_with fail
    refine (law17_wakes _ ((he.alloc _).alloc _)).mono ?_; rintro e w1 ⟨rfl, hb1⟩
    go_wp2_with fail
    go_ret
    exact ⟨rfl, bstep (below_a2 _ _ _) hb1⟩
  by_cases z2 : (3000 : Int) < (s'.size : Int)
  · have z := z2
    go_enter Tryd.func12, Tryd.ntmps12
    go_wp2_with fail
    refine (law17_wakes _ ((he.alloc _).alloc _)).mono ?_; rintro e w1 ⟨rfl, hb1⟩
    go_wp2_with fail
    go_ret
    exact ⟨rfl, bstep (below_a2 _ _ _) hb1⟩
  have W1 := Lib.hid law17_wakes
  have He := Lib.hid he
  clear he
  cases hg : goodE k ar ac fr fc tr tc s with
  | false =>
    have hE : encR k ar ac fr fc tr tc s = (⟨#[]⟩, 11) := by unfold encR; rw [if_pos hg]
    have E0 := edit_Encode k ar ac fr fc tr tc s
    rw [hE] at E0
    have E1 := Lib.hid E0
    obtain ⟨S', c', hE'⟩ : ∃ S c, encR k' ar' ac' fr' fc' tr' tc' s' = (S, c) := ⟨_, _, rfl⟩
    have E0' := edit_Encode k' ar' ac' fr' fc' tr' tc' s'
    rw [hE'] at E0'
    have E2 := Lib.hid E0'
    clear E0 hE hg E0' hE'
    go_enter Tryd.func12, Tryd.ntmps12
    go_wp2_with fail
    obtain ⟨w0, hw0, bx0, by0, hB0, he0⟩ : ∃ w0, (w.alloc (.cells #[.int .i64 k, .int .i64 ar, .int .i64 ac, .int .i64 fr, .int .i64 fc, .int .i64 tr, .int .i64 tc, .string s] 59)).alloc (.cells #[.int .i64 k', .int .i64 ar', .int .i64 ac', .int .i64 fr', .int .i64 fc', .int .i64 tr', .int .i64 tc', .string s'] 59) = w0 ∧ w0.heap[w.heap.size]? = some (.cells #[.int .i64 k, .int .i64 ar, .int .i64 ac, .int .i64 fr, .int .i64 fc, .int .i64 tr, .int .i64 tc, .string s] 59 (0, 0)) ∧ w0.heap[w.heap.size + 1]? = some (.cells #[.int .i64 k', .int .i64 ar', .int .i64 ac', .int .i64 fr', .int .i64 fc', .int .i64 tr', .int .i64 tc', .string s'] 59 (0, 0)) ∧ Below w.heap.size w w0 ∧ EtIs w0 := ⟨_, rfl, blk_alloc (blk_new _ _), by have h := blk_new (w.alloc (.cells #[.int .i64 k, .int .i64 ar, .int .i64 ac, .int .i64 fr, .int .i64 fc, .int .i64 tr, .int .i64 tc, .string s] 59)) (.cells #[.int .i64 k', .int .i64 ar', .int .i64 ac', .int .i64 fr', .int .i64 fc', .int .i64 tr', .int .i64 tc', .string s'] 59); simpa using h, below_a2 _ _ _, (He.out.alloc _).alloc _⟩
    rw [hw0]; clear hw0
    have P0 := Lib.hid (LawP.mk (p11 := w.heap.size) bx0 by0 bx0 hB0 he0)
    clear bx0 by0 hB0 he0
    refine (E1.out _ P0.out.et).mono ?_; rintro e w1 ⟨rfl, hb1⟩
    have P1 := Lib.hid (P0.out.below hb1)
    clear hb1
    obtain ⟨cx1, cy1, _⟩ := P1.out.cells
    go_wp2_with fail
    refine (E2.out _ P1.out.et).mono ?_; rintro e w2 ⟨rfl, hb2⟩
    have P2 := Lib.hid (P1.out.below hb2)
    clear hb2
    obtain ⟨cx2, cy2, _⟩ := P2.out.cells
    clear cx1 cy1
    go_wp2_with fail
    refine (W1.out _ P2.out.et).mono ?_; rintro e w3 ⟨rfl, hb3⟩
    have P3 := Lib.hid (P2.out.below hb3)
    clear hb3
    clear cx2 cy2
    go_wp2_with fail
    go_ret
    exact ⟨rfl, P3.out.fr⟩
  | true =>
    have hz := enc_size hg
    have hc : (encR k ar ac fr fc tr tc s).2 = 0 := by rw [enc_code, if_pos hg]
    obtain ⟨S, c, hE⟩ : ∃ S c, encR k ar ac fr fc tr tc s = (S, c) := ⟨_, _, rfl⟩
    have E0 := edit_Encode k ar ac fr fc tr tc s
    rw [hE] at E0 hz hc
    simp only at hz hc
    subst hc
    have E1 := Lib.hid E0
    clear E0
    cases hg' : goodE k' ar' ac' fr' fc' tr' tc' s' with
    | false =>
      have hE' : encR k' ar' ac' fr' fc' tr' tc' s' = (⟨#[]⟩, 11) := by unfold encR; rw [if_pos hg']
      have E0' := edit_Encode k' ar' ac' fr' fc' tr' tc' s'
      rw [hE'] at E0'
      have E2 := Lib.hid E0'
      clear hE hg E0' hE' hz hg'
      go_enter Tryd.func12, Tryd.ntmps12
      go_wp2_with fail
      obtain ⟨w0, hw0, bx0, by0, hB0, he0⟩ : ∃ w0, (w.alloc (.cells #[.int .i64 k, .int .i64 ar, .int .i64 ac, .int .i64 fr, .int .i64 fc, .int .i64 tr, .int .i64 tc, .string s] 59)).alloc (.cells #[.int .i64 k', .int .i64 ar', .int .i64 ac', .int .i64 fr', .int .i64 fc', .int .i64 tr', .int .i64 tc', .string s'] 59) = w0 ∧ w0.heap[w.heap.size]? = some (.cells #[.int .i64 k, .int .i64 ar, .int .i64 ac, .int .i64 fr, .int .i64 fc, .int .i64 tr, .int .i64 tc, .string s] 59 (0, 0)) ∧ w0.heap[w.heap.size + 1]? = some (.cells #[.int .i64 k', .int .i64 ar', .int .i64 ac', .int .i64 fr', .int .i64 fc', .int .i64 tr', .int .i64 tc', .string s'] 59 (0, 0)) ∧ Below w.heap.size w w0 ∧ EtIs w0 := ⟨_, rfl, blk_alloc (blk_new _ _), by have h := blk_new (w.alloc (.cells #[.int .i64 k, .int .i64 ar, .int .i64 ac, .int .i64 fr, .int .i64 fc, .int .i64 tr, .int .i64 tc, .string s] 59)) (.cells #[.int .i64 k', .int .i64 ar', .int .i64 ac', .int .i64 fr', .int .i64 fc', .int .i64 tr', .int .i64 tc', .string s'] 59); simpa using h, below_a2 _ _ _, (He.out.alloc _).alloc _⟩
      rw [hw0]; clear hw0
      have P0 := Lib.hid (LawP.mk (p11 := w.heap.size) bx0 by0 bx0 hB0 he0)
      clear bx0 by0 hB0 he0
      refine (E1.out _ P0.out.et).mono ?_; rintro e w1 ⟨rfl, hb1⟩
      have P1 := Lib.hid (P0.out.below hb1)
      clear hb1
      obtain ⟨cx1, cy1, _⟩ := P1.out.cells
      go_wp2_with fail
      refine (E2.out _ P1.out.et).mono ?_; rintro e w2 ⟨rfl, hb2⟩
      have P2 := Lib.hid (P1.out.below hb2)
      clear hb2
      obtain ⟨cx2, cy2, _⟩ := P2.out.cells
      clear cx1 cy1
      go_wp2_with fail
      refine (W1.out _ P2.out.et).mono ?_; rintro e w3 ⟨rfl, hb3⟩
      have P3 := Lib.hid (P2.out.below hb3)
      clear hb3
      clear cx2 cy2
      go_wp2_with fail
      go_ret
      exact ⟨rfl, P3.out.fr⟩
    | true =>
      have hc' : (encR k' ar' ac' fr' fc' tr' tc' s').2 = 0 := by rw [enc_code, if_pos hg']
      obtain ⟨S', c', hE'⟩ : ∃ S c, encR k' ar' ac' fr' fc' tr' tc' s' = (S, c) := ⟨_, _, rfl⟩
      have E0' := edit_Encode k' ar' ac' fr' fc' tr' tc' s'
      rw [hE'] at E0' hc'
      simp only at hc'
      subst hc'
      have E2 := Lib.hid E0'
      clear E0'
      have hL : wrap64 (6 + (s.size : Int)) = 6 + (s.size : Int) := w64 _ (by omega) (by omega)
      by_cases hab : S = S'
      · have hinj := enc_inj hg hg' (by rw [hE, hE']; exact hab)
        clear hE hE' hg'
        obtain ⟨rfl, rfl, rfl, rfl, rfl, rfl, rfl, rfl⟩ := hinj
        subst hab
        have K1 := Lib.hid (keep_same k ar ac fr fc tr tc s)
        have hk123 : k = 1 ∨ k = 2 ∨ k = 3 := by
          rcases goodE_cases hg with ⟨h, _⟩ | ⟨h, _⟩ | ⟨h, _⟩
          · exact .inl h
          · exact .inr (.inl h)
          · exact .inr (.inr h)
        clear hg
        rcases hk123 with rfl | rfl | rfl
        · have hz1 : (S.size : Int) = 6 + (s.size : Int) := by simpa using hz
          clear hz
          go_enter Tryd.func12, Tryd.ntmps12
          go_wp2_with fail
          obtain ⟨w0, hw0, bx0, by0, hB0, he0⟩ : ∃ w0, (w.alloc (.cells #[.int .i64 1, .int .i64 ar, .int .i64 ac, .int .i64 fr, .int .i64 fc, .int .i64 tr, .int .i64 tc, .string s] 59)).alloc (.cells #[.int .i64 1, .int .i64 ar, .int .i64 ac, .int .i64 fr, .int .i64 fc, .int .i64 tr, .int .i64 tc, .string s] 59) = w0 ∧ w0.heap[w.heap.size]? = some (.cells #[.int .i64 1, .int .i64 ar, .int .i64 ac, .int .i64 fr, .int .i64 fc, .int .i64 tr, .int .i64 tc, .string s] 59 (0, 0)) ∧ w0.heap[w.heap.size + 1]? = some (.cells #[.int .i64 1, .int .i64 ar, .int .i64 ac, .int .i64 fr, .int .i64 fc, .int .i64 tr, .int .i64 tc, .string s] 59 (0, 0)) ∧ Below w.heap.size w w0 ∧ EtIs w0 := ⟨_, rfl, blk_alloc (blk_new _ _), by have h := blk_new (w.alloc (.cells #[.int .i64 1, .int .i64 ar, .int .i64 ac, .int .i64 fr, .int .i64 fc, .int .i64 tr, .int .i64 tc, .string s] 59)) (.cells #[.int .i64 1, .int .i64 ar, .int .i64 ac, .int .i64 fr, .int .i64 fc, .int .i64 tr, .int .i64 tc, .string s] 59); simpa using h, below_a2 _ _ _, (He.out.alloc _).alloc _⟩
          rw [hw0]; clear hw0
          have P0 := Lib.hid (LawP.mk (p11 := w.heap.size) bx0 by0 bx0 hB0 he0)
          clear bx0 by0 hB0 he0
          refine (E1.out _ P0.out.et).mono ?_; rintro e w1 ⟨rfl, hb1⟩
          have P1 := Lib.hid (P0.out.below hb1)
          clear hb1
          obtain ⟨cx1, cy1, _⟩ := P1.out.cells
          go_wp2_with fail
          refine (E2.out _ P1.out.et).mono ?_; rintro e w2 ⟨rfl, hb2⟩
          have P2 := Lib.hid (P1.out.below hb2)
          clear hb2
          obtain ⟨cx2, cy2, _⟩ := P2.out.cells
          clear cx1 cy1
          go_wp2_with fail
          refine (K1.out _).mono ?_; rintro e w3 ⟨rfl, hb3⟩
          have P3 := Lib.hid (P2.out.below hb3)
          clear hb3
          clear cx2 cy2
          go_wp2_with fail
          refine (W1.out _ P3.out.et).mono ?_; rintro e w4 ⟨rfl, hb4⟩
          have P4 := Lib.hid (P3.out.below hb4)
          clear hb4
          go_wp2_with fail
          go_ret
          exact ⟨rfl, P4.out.fr⟩
        · have hz2 : (S.size : Int) = 4 := by simpa using hz
          clear hz
          go_enter Tryd.func12, Tryd.ntmps12
          go_wp2_with fail
          obtain ⟨w0, hw0, bx0, by0, hB0, he0⟩ : ∃ w0, (w.alloc (.cells #[.int .i64 2, .int .i64 ar, .int .i64 ac, .int .i64 fr, .int .i64 fc, .int .i64 tr, .int .i64 tc, .string s] 59)).alloc (.cells #[.int .i64 2, .int .i64 ar, .int .i64 ac, .int .i64 fr, .int .i64 fc, .int .i64 tr, .int .i64 tc, .string s] 59) = w0 ∧ w0.heap[w.heap.size]? = some (.cells #[.int .i64 2, .int .i64 ar, .int .i64 ac, .int .i64 fr, .int .i64 fc, .int .i64 tr, .int .i64 tc, .string s] 59 (0, 0)) ∧ w0.heap[w.heap.size + 1]? = some (.cells #[.int .i64 2, .int .i64 ar, .int .i64 ac, .int .i64 fr, .int .i64 fc, .int .i64 tr, .int .i64 tc, .string s] 59 (0, 0)) ∧ Below w.heap.size w w0 ∧ EtIs w0 := ⟨_, rfl, blk_alloc (blk_new _ _), by have h := blk_new (w.alloc (.cells #[.int .i64 2, .int .i64 ar, .int .i64 ac, .int .i64 fr, .int .i64 fc, .int .i64 tr, .int .i64 tc, .string s] 59)) (.cells #[.int .i64 2, .int .i64 ar, .int .i64 ac, .int .i64 fr, .int .i64 fc, .int .i64 tr, .int .i64 tc, .string s] 59); simpa using h, below_a2 _ _ _, (He.out.alloc _).alloc _⟩
          rw [hw0]; clear hw0
          have P0 := Lib.hid (LawP.mk (p11 := w.heap.size) bx0 by0 bx0 hB0 he0)
          clear bx0 by0 hB0 he0
          refine (E1.out _ P0.out.et).mono ?_; rintro e w1 ⟨rfl, hb1⟩
          have P1 := Lib.hid (P0.out.below hb1)
          clear hb1
          obtain ⟨cx1, cy1, _⟩ := P1.out.cells
          go_wp2_with fail
          refine (E2.out _ P1.out.et).mono ?_; rintro e w2 ⟨rfl, hb2⟩
          have P2 := Lib.hid (P1.out.below hb2)
          clear hb2
          obtain ⟨cx2, cy2, _⟩ := P2.out.cells
          clear cx1 cy1
          go_wp2_with fail
          refine (K1.out _).mono ?_; rintro e w3 ⟨rfl, hb3⟩
          have P3 := Lib.hid (P2.out.below hb3)
          clear hb3
          clear cx2 cy2
          go_wp2_with fail
          refine (W1.out _ P3.out.et).mono ?_; rintro e w4 ⟨rfl, hb4⟩
          have P4 := Lib.hid (P3.out.below hb4)
          clear hb4
          go_wp2_with fail
          go_ret
          exact ⟨rfl, P4.out.fr⟩
        · have hz3 : (S.size : Int) = 7 := by simpa using hz
          clear hz
          go_enter Tryd.func12, Tryd.ntmps12
          go_wp2_with fail
          obtain ⟨w0, hw0, bx0, by0, hB0, he0⟩ : ∃ w0, (w.alloc (.cells #[.int .i64 3, .int .i64 ar, .int .i64 ac, .int .i64 fr, .int .i64 fc, .int .i64 tr, .int .i64 tc, .string s] 59)).alloc (.cells #[.int .i64 3, .int .i64 ar, .int .i64 ac, .int .i64 fr, .int .i64 fc, .int .i64 tr, .int .i64 tc, .string s] 59) = w0 ∧ w0.heap[w.heap.size]? = some (.cells #[.int .i64 3, .int .i64 ar, .int .i64 ac, .int .i64 fr, .int .i64 fc, .int .i64 tr, .int .i64 tc, .string s] 59 (0, 0)) ∧ w0.heap[w.heap.size + 1]? = some (.cells #[.int .i64 3, .int .i64 ar, .int .i64 ac, .int .i64 fr, .int .i64 fc, .int .i64 tr, .int .i64 tc, .string s] 59 (0, 0)) ∧ Below w.heap.size w w0 ∧ EtIs w0 := ⟨_, rfl, blk_alloc (blk_new _ _), by have h := blk_new (w.alloc (.cells #[.int .i64 3, .int .i64 ar, .int .i64 ac, .int .i64 fr, .int .i64 fc, .int .i64 tr, .int .i64 tc, .string s] 59)) (.cells #[.int .i64 3, .int .i64 ar, .int .i64 ac, .int .i64 fr, .int .i64 fc, .int .i64 tr, .int .i64 tc, .string s] 59); simpa using h, below_a2 _ _ _, (He.out.alloc _).alloc _⟩
          rw [hw0]; clear hw0
          have P0 := Lib.hid (LawP.mk (p11 := w.heap.size) bx0 by0 bx0 hB0 he0)
          clear bx0 by0 hB0 he0
          refine (E1.out _ P0.out.et).mono ?_; rintro e w1 ⟨rfl, hb1⟩
          have P1 := Lib.hid (P0.out.below hb1)
          clear hb1
          obtain ⟨cx1, cy1, _⟩ := P1.out.cells
          go_wp2_with fail
          refine (E2.out _ P1.out.et).mono ?_; rintro e w2 ⟨rfl, hb2⟩
          have P2 := Lib.hid (P1.out.below hb2)
          clear hb2
          obtain ⟨cx2, cy2, _⟩ := P2.out.cells
          clear cx1 cy1
          go_wp2_with fail
          refine (K1.out _).mono ?_; rintro e w3 ⟨rfl, hb3⟩
          have P3 := Lib.hid (P2.out.below hb3)
          clear hb3
          clear cx2 cy2
          go_wp2_with fail
          refine (W1.out _ P3.out.et).mono ?_; rintro e w4 ⟨rfl, hb4⟩
          have P4 := Lib.hid (P3.out.below hb4)
          clear hb4
          go_wp2_with fail
          go_ret
          exact ⟨rfl, P4.out.fr⟩
      · have hn : (k == k' && (ar == ar' && ac == ac') && ((fr == fr' && fc == fc') && (tr == tr' && tc == tc')) && s.toList == s'.toList) = false := by
          rw [Bool.eq_false_iff]
          intro h
          simp only [Bool.and_eq_true, beq_iff_eq] at h
          obtain ⟨⟨⟨e1, e2, e3⟩, ⟨e4, e5⟩, e6, e7⟩, e8⟩ := h
          have e9 : s = s' := bytes_ext (by rw [← ByteArray.toList_eq, ← ByteArray.toList_eq]; exact e8)
          subst e1 e2 e3 e4 e5 e6 e7 e9
          rw [hE] at hE'
          exact hab (Prod.mk.inj hE').1
        have hq : (S.toList == S'.toList) = false := by
          rw [beq_eq_false_iff_ne]
          intro h
          exact hab (bytes_ext (by rw [← ByteArray.toList_eq, ← ByteArray.toList_eq]; exact h))
        have K0 := keep_Edit k ar ac fr fc tr tc k' ar' ac' fr' fc' tr' tc' s s'
        rw [hn] at K0
        have K1 := Lib.hid K0
        clear K0 hn hE hE' hg' hab
        have hk123 : k = 1 ∨ k = 2 ∨ k = 3 := by
          rcases goodE_cases hg with ⟨h, _⟩ | ⟨h, _⟩ | ⟨h, _⟩
          · exact .inl h
          · exact .inr (.inl h)
          · exact .inr (.inr h)
        clear hg
        rcases hk123 with rfl | rfl | rfl
        · have hz1 : (S.size : Int) = 6 + (s.size : Int) := by simpa using hz
          clear hz
          go_enter Tryd.func12, Tryd.ntmps12
          go_wp2_with fail
          obtain ⟨w0, hw0, bx0, by0, hB0, he0⟩ : ∃ w0, (w.alloc (.cells #[.int .i64 1, .int .i64 ar, .int .i64 ac, .int .i64 fr, .int .i64 fc, .int .i64 tr, .int .i64 tc, .string s] 59)).alloc (.cells #[.int .i64 k', .int .i64 ar', .int .i64 ac', .int .i64 fr', .int .i64 fc', .int .i64 tr', .int .i64 tc', .string s'] 59) = w0 ∧ w0.heap[w.heap.size]? = some (.cells #[.int .i64 1, .int .i64 ar, .int .i64 ac, .int .i64 fr, .int .i64 fc, .int .i64 tr, .int .i64 tc, .string s] 59 (0, 0)) ∧ w0.heap[w.heap.size + 1]? = some (.cells #[.int .i64 k', .int .i64 ar', .int .i64 ac', .int .i64 fr', .int .i64 fc', .int .i64 tr', .int .i64 tc', .string s'] 59 (0, 0)) ∧ Below w.heap.size w w0 ∧ EtIs w0 := ⟨_, rfl, blk_alloc (blk_new _ _), by have h := blk_new (w.alloc (.cells #[.int .i64 1, .int .i64 ar, .int .i64 ac, .int .i64 fr, .int .i64 fc, .int .i64 tr, .int .i64 tc, .string s] 59)) (.cells #[.int .i64 k', .int .i64 ar', .int .i64 ac', .int .i64 fr', .int .i64 fc', .int .i64 tr', .int .i64 tc', .string s'] 59); simpa using h, below_a2 _ _ _, (He.out.alloc _).alloc _⟩
          rw [hw0]; clear hw0
          have P0 := Lib.hid (LawP.mk (p11 := w.heap.size) bx0 by0 bx0 hB0 he0)
          clear bx0 by0 hB0 he0
          refine (E1.out _ P0.out.et).mono ?_; rintro e w1 ⟨rfl, hb1⟩
          have P1 := Lib.hid (P0.out.below hb1)
          clear hb1
          obtain ⟨cx1, cy1, _⟩ := P1.out.cells
          go_wp2_with fail
          refine (E2.out _ P1.out.et).mono ?_; rintro e w2 ⟨rfl, hb2⟩
          have P2 := Lib.hid (P1.out.below hb2)
          clear hb2
          obtain ⟨cx2, cy2, _⟩ := P2.out.cells
          clear cx1 cy1
          go_wp2_with fail
          refine (K1.out _).mono ?_; rintro e w3 ⟨rfl, hb3⟩
          have P3 := Lib.hid (P2.out.below hb3)
          clear hb3
          clear cx2 cy2
          go_wp2_with fail
          refine (W1.out _ P3.out.et).mono ?_; rintro e w4 ⟨rfl, hb4⟩
          have P4 := Lib.hid (P3.out.below hb4)
          clear hb4
          go_wp2_with fail
          go_ret
          exact ⟨rfl, P4.out.fr⟩
        · have hz2 : (S.size : Int) = 4 := by simpa using hz
          clear hz
          go_enter Tryd.func12, Tryd.ntmps12
          go_wp2_with fail
          obtain ⟨w0, hw0, bx0, by0, hB0, he0⟩ : ∃ w0, (w.alloc (.cells #[.int .i64 2, .int .i64 ar, .int .i64 ac, .int .i64 fr, .int .i64 fc, .int .i64 tr, .int .i64 tc, .string s] 59)).alloc (.cells #[.int .i64 k', .int .i64 ar', .int .i64 ac', .int .i64 fr', .int .i64 fc', .int .i64 tr', .int .i64 tc', .string s'] 59) = w0 ∧ w0.heap[w.heap.size]? = some (.cells #[.int .i64 2, .int .i64 ar, .int .i64 ac, .int .i64 fr, .int .i64 fc, .int .i64 tr, .int .i64 tc, .string s] 59 (0, 0)) ∧ w0.heap[w.heap.size + 1]? = some (.cells #[.int .i64 k', .int .i64 ar', .int .i64 ac', .int .i64 fr', .int .i64 fc', .int .i64 tr', .int .i64 tc', .string s'] 59 (0, 0)) ∧ Below w.heap.size w w0 ∧ EtIs w0 := ⟨_, rfl, blk_alloc (blk_new _ _), by have h := blk_new (w.alloc (.cells #[.int .i64 2, .int .i64 ar, .int .i64 ac, .int .i64 fr, .int .i64 fc, .int .i64 tr, .int .i64 tc, .string s] 59)) (.cells #[.int .i64 k', .int .i64 ar', .int .i64 ac', .int .i64 fr', .int .i64 fc', .int .i64 tr', .int .i64 tc', .string s'] 59); simpa using h, below_a2 _ _ _, (He.out.alloc _).alloc _⟩
          rw [hw0]; clear hw0
          have P0 := Lib.hid (LawP.mk (p11 := w.heap.size) bx0 by0 bx0 hB0 he0)
          clear bx0 by0 hB0 he0
          refine (E1.out _ P0.out.et).mono ?_; rintro e w1 ⟨rfl, hb1⟩
          have P1 := Lib.hid (P0.out.below hb1)
          clear hb1
          obtain ⟨cx1, cy1, _⟩ := P1.out.cells
          go_wp2_with fail
          refine (E2.out _ P1.out.et).mono ?_; rintro e w2 ⟨rfl, hb2⟩
          have P2 := Lib.hid (P1.out.below hb2)
          clear hb2
          obtain ⟨cx2, cy2, _⟩ := P2.out.cells
          clear cx1 cy1
          go_wp2_with fail
          refine (K1.out _).mono ?_; rintro e w3 ⟨rfl, hb3⟩
          have P3 := Lib.hid (P2.out.below hb3)
          clear hb3
          clear cx2 cy2
          go_wp2_with fail
          refine (W1.out _ P3.out.et).mono ?_; rintro e w4 ⟨rfl, hb4⟩
          have P4 := Lib.hid (P3.out.below hb4)
          clear hb4
          go_wp2_with fail
          go_ret
          exact ⟨rfl, P4.out.fr⟩
        · have hz3 : (S.size : Int) = 7 := by simpa using hz
          clear hz
          go_enter Tryd.func12, Tryd.ntmps12
          go_wp2_with fail
          obtain ⟨w0, hw0, bx0, by0, hB0, he0⟩ : ∃ w0, (w.alloc (.cells #[.int .i64 3, .int .i64 ar, .int .i64 ac, .int .i64 fr, .int .i64 fc, .int .i64 tr, .int .i64 tc, .string s] 59)).alloc (.cells #[.int .i64 k', .int .i64 ar', .int .i64 ac', .int .i64 fr', .int .i64 fc', .int .i64 tr', .int .i64 tc', .string s'] 59) = w0 ∧ w0.heap[w.heap.size]? = some (.cells #[.int .i64 3, .int .i64 ar, .int .i64 ac, .int .i64 fr, .int .i64 fc, .int .i64 tr, .int .i64 tc, .string s] 59 (0, 0)) ∧ w0.heap[w.heap.size + 1]? = some (.cells #[.int .i64 k', .int .i64 ar', .int .i64 ac', .int .i64 fr', .int .i64 fc', .int .i64 tr', .int .i64 tc', .string s'] 59 (0, 0)) ∧ Below w.heap.size w w0 ∧ EtIs w0 := ⟨_, rfl, blk_alloc (blk_new _ _), by have h := blk_new (w.alloc (.cells #[.int .i64 3, .int .i64 ar, .int .i64 ac, .int .i64 fr, .int .i64 fc, .int .i64 tr, .int .i64 tc, .string s] 59)) (.cells #[.int .i64 k', .int .i64 ar', .int .i64 ac', .int .i64 fr', .int .i64 fc', .int .i64 tr', .int .i64 tc', .string s'] 59); simpa using h, below_a2 _ _ _, (He.out.alloc _).alloc _⟩
          rw [hw0]; clear hw0
          have P0 := Lib.hid (LawP.mk (p11 := w.heap.size) bx0 by0 bx0 hB0 he0)
          clear bx0 by0 hB0 he0
          refine (E1.out _ P0.out.et).mono ?_; rintro e w1 ⟨rfl, hb1⟩
          have P1 := Lib.hid (P0.out.below hb1)
          clear hb1
          obtain ⟨cx1, cy1, _⟩ := P1.out.cells
          go_wp2_with fail
          refine (E2.out _ P1.out.et).mono ?_; rintro e w2 ⟨rfl, hb2⟩
          have P2 := Lib.hid (P1.out.below hb2)
          clear hb2
          obtain ⟨cx2, cy2, _⟩ := P2.out.cells
          clear cx1 cy1
          go_wp2_with fail
          refine (K1.out _).mono ?_; rintro e w3 ⟨rfl, hb3⟩
          have P3 := Lib.hid (P2.out.below hb3)
          clear hb3
          clear cx2 cy2
          go_wp2_with fail
          refine (W1.out _ P3.out.et).mono ?_; rintro e w4 ⟨rfl, hb4⟩
          have P4 := Lib.hid (P3.out.below hb4)
          clear hb4
          go_wp2_with fail
          go_ret
          exact ⟨rfl, P4.out.fr⟩

end Go.Proofs.YtlpdanghcdajmaaDoor
