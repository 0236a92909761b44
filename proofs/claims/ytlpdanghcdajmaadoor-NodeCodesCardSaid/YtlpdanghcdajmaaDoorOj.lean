/- Layer 23: the reference's Bytes of a leaf. -/
import Derived.Test.YtlpdanghcdajmaaDoorOh
import Derived.Deep.DeepCutAuto
import Derived.Deep.CutBlock
import Derived.Test.YtlpdanghcdajmaaDoorRk
import Derived.Test.YtlpdanghcdajmaaDoorNw
import Derived.Deep.RegionHeld3
namespace Go.Proofs.YtlpdanghcdajmaaDoor
open Go.RowKit
theorem num11 : (numR 1 1).1 = ⟨#[1]⟩ := by kernel_rfl
theorem num21 : (numR 2 1).1 = ⟨#[2]⟩ := by kernel_rfl
theorem leafS_zero (n : Nd) : leafS n 0 = (⟨#[1]⟩ : ByteArray) ++ (numR n.I.length 1).1 := by unfold leafS; rw [List.take_zero, List.foldl_nil, num11, emp_append]
set_option maxRecDepth 100000 in
set_option maxHeartbeats 4000000 in
theorem ref_Bytes_leaf (I : List It) (v1 v2 v3 : Value) (w : World) (hn : NdAt w v1 v2 v3 ⟨true, I, [], []⟩) (ht : Nd.typed ⟨true, I, [], []⟩) (hg : Nd.good ⟨true, I, [], []⟩ = true) :
    Calls Tryd.prog 76 #[.agg #[.bool true, v1, v2, v3]] w fun e w' => e = .returned (.string (Nd.bytes ⟨true, I, [], []⟩)) ∧ Below w.heap.size w w' := by
  obtain ⟨p1, d1, p2, d2, p3, d3, rfl, rfl, rfl⟩ := hn.form
  simp only [List.length_nil] at *
  have hLS := Lib.hid (leafS_size hg)
  have hLB := Lib.hid (leafS_bytes (n := ⟨true, I, [], []⟩) rfl)
  have hL0 := Lib.hid (leafS_zero ⟨true, I, [], []⟩)
  have hI := Lib.hid (good_items hg).1
  have hT := Lib.hid ht.I
  have hl : I.length ≤ 255 := (good_items hg).2.1
  clear hg ht
  obtain ⟨w0, hw0⟩ : ∃ w0, w0 = w.alloc (.cells #[.bool true, .slice p1 I.length d1, .slice p2 0 d2, .slice p3 0 d3] 77) := ⟨_, rfl⟩
  have B0 : Hid (Below w.heap.size w w0) := by show Below _ _ _; rw [hw0]; exact below_a1 _ _
  have H0 : Hid (NdAt w0 (.slice p1 I.length d1) (.slice p2 0 d2) (.slice p3 0 d3) ⟨true, I, [], []⟩) := by show NdAt _ _ _ _ _; exact hn.below B0.out
  have bx : Hid (w0.heap[w.heap.size]? = some (.cells #[.bool true, .slice p1 I.length d1, .slice p2 0 d2, .slice p3 0 d3] 77 (0, 0))) := by show _ = _; rw [hw0]; exact blk_new _ _
  clear hn
  go_enter Tryd.func76, Tryd.ntmps76
  have hc := blk_cell bx.out
  go_upto_region 1 with (fail)
  try rw [← hw0]
  clear hw0
  go_wp2_with fail
  refine (ref16_Must I.length 1 (by omega) (by omega) _).mono ?_; rintro e w1 ⟨rfl, hb1⟩
  have B1 := Lib.hid (bstep B0.out hb1)
  have H1 := Lib.hid (H0.out.below hb1)
  have bx1 := Lib.hid (blk_below bx.out hb1)
  have hy := numR_size I.length 1
  have hs1 : ¬ 9223372036854775807 < (⟨#[1]⟩ : ByteArray).size + (numR I.length 1).1.size := by have : (⟨#[1]⟩ : ByteArray).size = 1 := rfl; omega
  have hc1 := blk_cell bx1.out
  clear hc hb1
  go_wp2_with fail
  go_loopw [5, 6] (fun s iv wr => ∃ k : Nat, k ≤ I.length ∧ iv = .int .i64 k ∧ s = .string (leafS ⟨true, I, [], []⟩ k) ∧ Below w1.heap.size w1 wr) (fun _ iv _ => I.length - (intOf iv).toNat)
  case atStart => exact ⟨0, Nat.zero_le _, rfl, by rw [hL0.out], Below.refl _ _⟩
  case round =>
    obtain ⟨k, hk, rfl, rfl, hB⟩ := hrel
    have HB := Lib.hid hB
    have HBB := Lib.hid (bstep B1.out hB)
    have hzr := hB.size
    have bxr := Lib.hid (blk_below bx1.out hB)
    have hcr := blk_cell bxr.out
    clear hB hc1
    by_cases hltk : k < I.length
    · have hi : (k : Int) < (I.length : Int) := by omega
      obtain ⟨b, off, rfl, hIt⟩ := (H1.out.below HB.out).I.at hltk
      have c0 := hIt.key k hltk
      have c1 := hIt.size k hltk
      have c2 := hIt.text k hltk
      have c3 := hIt.page k hltk
      have hgx : goodI I[k] = true := hI.out _ (List.getElem_mem hltk)
      have hkx : 0 ≤ I[k].key ∧ I[k].key < 4294967296 := hT.out _ (List.getElem_mem hltk)
      have hst : leafS ⟨true, I, [], []⟩ (k + 1) = leafS ⟨true, I, [], []⟩ k ++ encI I[k] := foldl_step encI I _ hltk
      have hls := hLS.out k
      obtain ⟨x, hx⟩ : ∃ x, x = I[k] := ⟨_, rfl⟩
      rw [← hx] at c0 c1 c2 c3 hgx hkx hst
      obtain ⟨g1, g2, g3, g4⟩ := good_text hgx
      have HST := Lib.hid hst
      clear hx hIt hst hgx
      obtain ⟨S, hS⟩ : ∃ S, S = leafS ⟨true, I, [], []⟩ k := ⟨_, rfl⟩
      rw [← hS] at hls HST ⊢
      clear hS
      obtain ⟨xk, xs, xt, xp⟩ := x
      simp only at c0 c1 c2 c3 g1 g2 g3 g4 hkx
      have hw1 : IntKind.i64.wrap xk = xk := IntWalk.i64_in _ (by omega)
      have hy1 := numR_size xk 4
      have hy2 := numR_size xs 2
      have hy3 := numR_size xp 2
      have M1 := Lib.hid (ref16_Must xk 4 (by omega) (by omega))
      have M2 := Lib.hid (ref16_Must xs 2 (by omega) (by omega))
      obtain ⟨X, hX⟩ : ∃ X, X = (numR xk 4).1 := ⟨_, rfl⟩
      obtain ⟨Y, hY⟩ : ∃ Y, Y = (numR xs 2).1 := ⟨_, rfl⟩
      rw [← hX] at M1 hy1
      rw [← hY] at M2 hy2
      have HX := Lib.hid hX
      have HY := Lib.hid hY
      have sz1 : ¬ 9223372036854775807 < X.size + Y.size := by omega
      have sz2 : ¬ 9223372036854775807 < S.size + (X ++ Y).size := by rw [ByteArray.size_append]; omega
      have sz3 : ¬ 9223372036854775807 < S.size + (X.size + Y.size) := by rw [ByteArray.size_append] at sz2; exact sz2
      obtain ⟨q, hq⟩ : ∃ q, q = wr.heap.size := ⟨_, rfl⟩
      obtain ⟨wa, hwa⟩ : ∃ wa, wa = wr.alloc (.cells #[.int .u32 xk, .int .i64 xs, .string xt, .int .i64 xp] 128) := ⟨_, rfl⟩
      have bqa : Hid (wa.heap[q]? = some (.cells #[.int .u32 xk, .int .i64 xs, .string xt, .int .i64 xp] 128 (0, 0))) := by show _ = _; rw [hwa, hq]; exact blk_new _ _
      have BA : Hid (Below w1.heap.size w1 wa) := by show Below _ _ _; rw [hwa]; exact HB.out.alloc hzr _
      have SOF : Hid (∀ Z, Below wa.heap.size wa Z → ∀ o, Z.cell? ⟨q, o, none⟩ = (#[.int .u32 xk, .int .i64 xs, .string xt, .int .i64 xp] : Array Value)[o]?) := fun Z hZ => blk_cell (blk_below bqa.out hZ)
      have DA : Hid (Below wa.heap.size wa wa.drew) := ⟨rfl, rfl, rfl, Nat.le_refl _, fun _ _ => rfl⟩
      have S0 := SOF.out _ DA.out
      clear hX hY
      go_upto_region 13 with (fail)
      rw [← hwa, ← hq]
      clear hwa hq c0 c1 c2 c3 hcr
      go_wp2_with fail
      go_region_held3 (fun w' => ∀ o, w'.cell? ⟨q, o, none⟩ = (#[.int .u32 xk, .int .i64 xs, .string xt, .int .i64 xp] : Array Value)[o]?) (first | exact S0 | exact S1 | exact S2 | assumption)
        (first
          | (go_at_call_of 62 (Value.int IntKind.i64 xk); refine (M1.out _).mono ?_; rintro e y1 ⟨rfl, hby1⟩; have D1 := Lib.hid (bstep DA.out hby1); have S1 := SOF.out _ D1.out; clear hby1)
          | (go_at_call_of 62 (Value.int IntKind.i64 xs); refine (M2.out _).mono ?_; rintro e y2 ⟨rfl, hby2⟩; have D2 := Lib.hid (bstep D1.out hby2); have S2 := SOF.out _ D2.out; clear hby2))
      have BY := Lib.hid (bstep BA.out D2.out)
      obtain ⟨T, hT2⟩ : ∃ T, T = S ++ (X ++ Y) := ⟨_, rfl⟩
      have hTs : T.size ≤ 20016 := by rw [hT2, ByteArray.size_append, ByteArray.size_append]; omega
      have HT2 := Lib.hid hT2
      rw [← hT2]
      clear hT2
      clear S0 S1
      by_cases hz : xs ≤ 40
      · have htx : xt.size ≤ 40 := by have := g1 hz; omega
        have hsum : ¬ 9223372036854775807 < T.size + xt.size := by omega
        have e1 : leafS ⟨true, I, [], []⟩ (k + 1) = T ++ xt := by
          rw [HST.out, HT2.out, HX.out, HY.out]; unfold encI; simp only [if_pos hz]; simp only [ByteArray.append_assoc]
        have E1 := Lib.hid e1
        clear e1
        go_wp2_with fail
        go_roundw
        case rel => exact ⟨k + 1, by omega, by go_num, by rw [E1.out], BY.out⟩
        case measure => simp [intOf]; omega
      · obtain ⟨t1, t2, t3⟩ := g2 (by omega)
        have hz' : 40 < xs := by omega
        have e1 : leafS ⟨true, I, [], []⟩ (k + 1) = T ++ (numR xp 2).1 := by
          rw [HST.out, HT2.out, HX.out, HY.out]; unfold encI; simp only [if_neg (by omega : ¬ xs ≤ 40)]; simp only [ByteArray.append_assoc]
        have E1 := Lib.hid e1
        have hsum : ¬ 9223372036854775807 < T.size + (numR xp 2).1.size := by omega
        clear e1
        go_wp2_with fail
        refine (ref16_Must xp 2 (by omega) (by omega) _).mono ?_; rintro e y3 ⟨rfl, hby3⟩
        have BY3 := Lib.hid (bstep BY.out hby3)
        go_wp2_with fail
        go_roundw
        case rel => exact ⟨k + 1, by omega, by go_num, by rw [E1.out], BY3.out⟩
        case measure => simp [intOf]; omega
    · have hi : ¬ (k : Int) < (I.length : Int) := by omega
      obtain rfl : k = I.length := by omega
      go_wp2_with fail
      go_ret
      exact ⟨by rw [hLB.out]; rfl, HBB.out⟩
end Go.Proofs.YtlpdanghcdajmaaDoor
