/- Layer 23: the reference's Bytes of an inner node; Size, Encode. -/
import Derived.Test.YtlpdanghcdajmaaDoorOj
namespace Go.Proofs.YtlpdanghcdajmaaDoor
open Go.RowKit
theorem innerS_zero (n : Nd) : innerS n 0 = (⟨#[2]⟩ : ByteArray) ++ (numR n.K.length 1).1 ++ (numR (n.D.headD 0) 2).1 := by unfold innerS; rw [List.take_zero, List.foldl_nil, num21, emp_append]
set_option maxRecDepth 100000 in
set_option maxHeartbeats 4000000 in
theorem ref_Bytes_inner (K D : List Int) (v1 v2 v3 : Value) (w : World) (hn : NdAt w v1 v2 v3 ⟨false, [], K, D⟩) (ht : Nd.typed ⟨false, [], K, D⟩) (hg : Nd.good ⟨false, [], K, D⟩ = true) :
    Calls Tryd.prog 76 #[.agg #[.bool false, v1, v2, v3]] w fun e w' => e = .returned (.string (Nd.bytes ⟨false, [], K, D⟩)) ∧ Below w.heap.size w w' := by
  obtain ⟨p1, d1, p2, d2, p3, d3, rfl, rfl, rfl⟩ := hn.form
  simp only [List.length_nil] at *
  have hg' : goodN false [] K D = true := hg
  obtain ⟨_, gk1, gk2, gd, gD, _⟩ := good_inner hg'
  have hLS := Lib.hid (innerS_size hg)
  have hLB := Lib.hid (innerS_bytes (n := ⟨false, [], K, D⟩) rfl gd)
  have hL0 := Lib.hid (innerS_zero ⟨false, [], K, D⟩)
  have hST := Lib.hid (fun k (hk : k < K.length) (hk2 : k + 1 < D.length) => innerS_step (n := ⟨false, [], K, D⟩) hk hk2)
  have hT := Lib.hid ht.K
  have hD := Lib.hid (fun x hx => page_bd (gD x hx))
  clear hg hg' ht gD
  obtain ⟨w0, hw0⟩ : ∃ w0, w0 = w.alloc (.cells #[.bool false, .slice p1 0 d1, .slice p2 K.length d2, .slice p3 D.length d3] 77) := ⟨_, rfl⟩
  have B0 : Hid (Below w.heap.size w w0) := by show Below _ _ _; rw [hw0]; exact below_a1 _ _
  have H0 : Hid (NdAt w0 (.slice p1 0 d1) (.slice p2 K.length d2) (.slice p3 D.length d3) ⟨false, [], K, D⟩) := by show NdAt _ _ _ _ _; exact hn.below B0.out
  have bx : Hid (w0.heap[w.heap.size]? = some (.cells #[.bool false, .slice p1 0 d1, .slice p2 K.length d2, .slice p3 D.length d3] 77 (0, 0))) := by show _ = _; rw [hw0]; exact blk_new _ _
  have hD0 : 0 < D.length := by omega
  have hK0 : 0 < K.length := by omega
  obtain ⟨b3, o3, rfl, _⟩ := hn.D.at hD0
  obtain ⟨b2, o2, rfl, _⟩ := hn.K.at hK0
  have hN3 : Hid (∀ W, Below w0.heap.size w0 W → IntsAt .i64 W b3 o3 D) := by
    intro W hb
    obtain ⟨b', o', e, h⟩ := (H0.out.below hb).D.at hD0
    injection e with e; injection e with e1 e2; subst e1; subst e2; exact h
  have hN2 : Hid (∀ W, Below w0.heap.size w0 W → IntsAt .u32 W b2 o2 K) := by
    intro W hb
    obtain ⟨b', o', e, h⟩ := (H0.out.below hb).K.at hK0
    injection e with e; injection e with e1 e2; subst e1; subst e2; exact h
  have BXS : Hid (∀ W, Below w0.heap.size w0 W → ∀ o, W.cell? ⟨w.heap.size, o, none⟩ = (#[.bool false, .slice p1 0 d1, .slice (some ⟨b2, o2, none⟩) K.length d2, .slice (some ⟨b3, o3, none⟩) D.length d3] : Array Value)[o]?) := fun W hb => blk_cell (blk_below bx.out hb)
  have Gd := Lib.hid gd
  have gd' : D.length ≤ 256 := by omega
  clear gd hn
  have hdd : D.headD 0 = D[0] := by cases D with | nil => simp at hD0 | cons d E => rfl
  have hbd0 := hD.out D[0] (List.getElem_mem hD0)
  have hcd : Hid (∀ W, Below w0.heap.size w0 W → W.cell? ⟨b3, o3, none⟩ = some (.int .i64 D[0])) := fun W hb => by have := (hN3.out W hb).at' 0 hD0; rw [Nat.add_zero] at this; exact this
  obtain ⟨z, hz⟩ : ∃ z, z = D[0] := ⟨_, rfl⟩
  rw [← hz] at hdd hbd0 hcd
  have Hdd := Lib.hid hdd
  have hDi : (0 : Int) < (D.length : Int) := by omega
  have M1 := Lib.hid (ref16_Must K.length 1 (by omega) (by omega))
  have M2 := Lib.hid (ref16_Must z 2 (by omega) (by omega))
  have hy1 := numR_size K.length 1
  have hy2 := numR_size z 2
  obtain ⟨X, hX⟩ : ∃ X, X = (numR K.length 1).1 := ⟨_, rfl⟩
  obtain ⟨Y, hY⟩ : ∃ Y, Y = (numR z 2).1 := ⟨_, rfl⟩
  rw [← hX] at M1 hy1
  rw [← hY] at M2 hy2
  have HX := Lib.hid hX
  have HY := Lib.hid hY
  have sz1 : ¬ 9223372036854775807 < (⟨#[2]⟩ : ByteArray).size + X.size := by have : (⟨#[2]⟩ : ByteArray).size = 1 := rfl; omega
  have sz2 : ¬ 9223372036854775807 < ((⟨#[2]⟩ : ByteArray) ++ X).size + Y.size := by rw [ByteArray.size_append]; have : (⟨#[2]⟩ : ByteArray).size = 1 := rfl; omega
  have sz3 : ¬ 9223372036854775807 < 1 + X.size := sz1
  have sz4 : ¬ 9223372036854775807 < 1 + X.size + Y.size := by rw [ByteArray.size_append] at sz2; exact sz2
  clear hdd hz hX hY
  have D0 : Hid (Below w0.heap.size w0 w0.drew) := ⟨rfl, rfl, rfl, Nat.le_refl _, fun _ _ => rfl⟩
  have S0 := And.intro (BXS.out _ D0.out) (hcd.out _ D0.out)
  go_enter Tryd.func76, Tryd.ntmps76
  have hc := blk_cell bx.out
  go_upto_region 1 with (fail)
  try rw [← hw0]
  clear hw0
  have hS0 : Hid ((⟨#[2]⟩ : ByteArray) ++ X ++ Y = innerS ⟨false, [], K, D⟩ 0) := by show _ = _; rw [hL0.out, HX.out, HY.out, Hdd.out]
  go_upto_region 2 with (fail)
  go_cut [3] (fun s3 wc => s3 = .string (innerS ⟨false, [], K, D⟩ 0) ∧ Below w0.heap.size w0 wc)
  case first =>
    go_region_held3 (fun w' => (∀ o, w'.cell? ⟨w.heap.size, o, none⟩ = (#[.bool false, .slice p1 0 d1, .slice (some ⟨b2, o2, none⟩) K.length d2, .slice (some ⟨b3, o3, none⟩) D.length d3] : Array Value)[o]?) ∧ w'.cell? ⟨b3, o3, none⟩ = some (.int .i64 z)) (first | exact S0 | exact S1 | exact S2 | assumption)
      (first
        | (go_at_call_of 62 (Value.int IntKind.i64 K.length); refine (M1.out _).mono ?_; rintro e y1 ⟨rfl, hby1⟩; have D1 := Lib.hid (bstep D0.out hby1); have S1 := And.intro (BXS.out _ D1.out) (hcd.out _ D1.out); clear hby1)
        | (go_at_call_of 62 (Value.int IntKind.i64 z); refine (M2.out _).mono ?_; rintro e y2 ⟨rfl, hby2⟩; have D2 := Lib.hid (bstep D1.out hby2); have S2 := And.intro (BXS.out _ D2.out) (hcd.out _ D2.out); clear hby2))
    all_goals
      go_wp2_with fail
      go_meet
      exact ⟨by rw [hS0.out], D2.out⟩
  case rest =>
  obtain ⟨rfl, hDc⟩ := hcut
  have hc := BXS.out _ hDc
  have DC := Lib.hid hDc
  clear S0 hDc
  go_wp2_with fail
  go_loopw [3, 4] (fun s iv wr => ∃ k : Nat, k ≤ K.length ∧ iv = .int .i64 k ∧ s = .string (innerS ⟨false, [], K, D⟩ k) ∧ Below w0.heap.size w0 wr) (fun _ iv _ => K.length - (intOf iv).toNat)
  case atStart => exact ⟨0, Nat.zero_le _, rfl, rfl, DC.out⟩
  case round =>
    obtain ⟨k, hk, rfl, rfl, hB⟩ := hrel
    have HB := Lib.hid hB
    have HBB := Lib.hid (bstep B0.out hB)
    have hcr := BXS.out _ hB
    clear hB hc
    by_cases hltk : k < K.length
    · have hi : (k : Int) < (K.length : Int) := by omega
      have hkD : k + 1 < D.length := by have := Gd.out; omega
      have hkx : 0 ≤ K[k] ∧ K[k] < 4294967296 := hT.out _ (List.getElem_mem hltk)
      have hdx := hD.out _ (List.getElem_mem hkD)
      have hst : innerS ⟨false, [], K, D⟩ (k + 1) = innerS ⟨false, [], K, D⟩ k ++ (numR K[k] 4).1 ++ (numR D[k + 1] 2).1 := hST.out k hltk hkD
      have hls := hLS.out k
      have cD : Hid (∀ W, Below w0.heap.size w0 W → W.cell? ⟨b3, o3 + (k + 1), none⟩ = some (.int .i64 D[k + 1])) := fun W hb => (hN3.out W hb).at' (k + 1) hkD
      have cK : Hid (∀ W, Below w0.heap.size w0 W → W.cell? ⟨b2, o2 + k, none⟩ = some (.int .u32 K[k])) := fun W hb => (hN2.out W hb).at' k hltk
      obtain ⟨x, hx⟩ : ∃ x, x = K[k] := ⟨_, rfl⟩
      obtain ⟨y, hyy⟩ : ∃ y, y = D[k + 1] := ⟨_, rfl⟩
      rw [← hx] at cK hkx hst
      rw [← hyy] at cD hdx hst
      have HST := Lib.hid hst
      clear hx hyy hst
      obtain ⟨S, hS⟩ : ∃ S, S = innerS ⟨false, [], K, D⟩ k := ⟨_, rfl⟩
      rw [← hS] at hls HST ⊢
      clear hS
      have hw1 : IntKind.i64.wrap x = x := IntWalk.i64_in _ (by omega)
      have M3 := Lib.hid (ref16_Must x 4 (by omega) (by omega))
      have M4 := Lib.hid (ref16_Must y 2 (by omega) (by omega))
      have hy3 := numR_size x 4
      have hy4 := numR_size y 2
      obtain ⟨P, hP⟩ : ∃ P, P = (numR x 4).1 := ⟨_, rfl⟩
      obtain ⟨R, hR⟩ : ∃ R, R = (numR y 2).1 := ⟨_, rfl⟩
      rw [← hP] at M3 hy3 HST
      rw [← hR] at M4 hy4 HST
      have sz3 : ¬ 9223372036854775807 < P.size + R.size := by omega
      have sz4 : ¬ 9223372036854775807 < S.size + (P ++ R).size := by rw [ByteArray.size_append]; omega
      have sz5 : ¬ 9223372036854775807 < S.size + (P.size + R.size) := by rw [ByteArray.size_append] at sz4; exact sz4
      have m0 : (k : Int) + 1 < (D.length : Int) := by omega
      have m1 : ((k : Int) + 1).toNat = k + 1 := by omega
      have m2 : (0 : Int) ≤ (k : Int) + 1 := by omega
      have m3 : IntKind.i64.wrap ((k : Int) + 1) = (k : Int) + 1 := IntWalk.i64_in _ (by omega)
      have E0 : Hid (Below w0.heap.size w0 wr.drew) := ⟨HB.out.os, HB.out.tape, HB.out.output, HB.out.size, HB.out.block⟩
      have T0 := And.intro (BXS.out _ E0.out) (And.intro (cK.out _ E0.out) (cD.out _ E0.out))
      clear hP hR
      go_wp2_with fail
      go_region_held3 (fun w' => (∀ o, w'.cell? ⟨w.heap.size, o, none⟩ = (#[.bool false, .slice p1 0 d1, .slice (some ⟨b2, o2, none⟩) K.length d2, .slice (some ⟨b3, o3, none⟩) D.length d3] : Array Value)[o]?) ∧ w'.cell? ⟨b2, o2 + k, none⟩ = some (.int .u32 x) ∧ w'.cell? ⟨b3, o3 + (k + 1), none⟩ = some (.int .i64 y)) (first | exact T0 | exact T1 | exact T2 | assumption)
        (first
          | (go_at_call_of 62 (Value.int IntKind.i64 x); refine (M3.out _).mono ?_; rintro e y3 ⟨rfl, hby3⟩; have E1 := Lib.hid (bstep E0.out hby3); have T1 := And.intro (BXS.out _ E1.out) (And.intro (cK.out _ E1.out) (cD.out _ E1.out)); clear hby3)
          | (go_at_call_of 62 (Value.int IntKind.i64 y); refine (M4.out _).mono ?_; rintro e y4 ⟨rfl, hby4⟩; have E2 := Lib.hid (bstep E1.out hby4); have T2 := And.intro (BXS.out _ E2.out) (And.intro (cK.out _ E2.out) (cD.out _ E2.out)); clear hby4))
      have e1 : Hid (innerS ⟨false, [], K, D⟩ (k + 1) = S ++ (P ++ R)) := by show _ = _; rw [HST.out, ByteArray.append_assoc]
      clear T0 T1 T2
      go_wp2_with fail
      go_roundw
      case rel => exact ⟨k + 1, by omega, by go_num, by rw [e1.out], E2.out⟩
      case measure => simp [intOf]; omega
    · have hi : ¬ (k : Int) < (K.length : Int) := by omega
      obtain rfl : k = K.length := by omega
      go_wp2_with fail
      go_ret
      exact ⟨by rw [hLB.out]; rfl, HBB.out⟩
theorem ref_Bytes (n : Nd) (v1 v2 v3 : Value) (w : World) (hn : NdAt w v1 v2 v3 n) (ht : n.typed) (hg : n.good = true) :
    Calls Tryd.prog 76 #[.agg #[.bool n.lf, v1, v2, v3]] w fun e w' => e = .returned (.string n.bytes) ∧ Below w.heap.size w w' := by
  obtain ⟨lf, I, K, D⟩ := n
  cases lf with
  | true =>
    have hg' : goodN true I K D = true := hg
    obtain ⟨rfl, rfl, _⟩ := good_leaf hg'
    exact ref_Bytes_leaf I v1 v2 v3 w hn ht hg
  | false =>
    have hg' : goodN false I K D = true := hg
    obtain ⟨rfl, _⟩ := good_inner hg'
    exact ref_Bytes_inner K D v1 v2 v3 w hn ht hg
theorem ref_Size (n : Nd) (v1 v2 v3 : Value) (w : World) (hn : NdAt w v1 v2 v3 n) (ht : n.typed) :
    Calls Tryd.prog 51 #[.agg #[.bool n.lf, v1, v2, v3]] w fun e w' => e = .returned (.int .i64 n.size) ∧ Below w.heap.size w w' := by
  obtain ⟨p1, d1, p2, d2, p3, d3, rfl, rfl, rfl⟩ := hn.form
  have hG := Lib.hid (fun W h => ref_Good n (.slice p1 n.I.length d1) (.slice p2 n.K.length d2) (.slice p3 n.D.length d3) W h)
  obtain ⟨w0, hw0⟩ : ∃ w0, w0 = w.alloc (.cells #[.bool n.lf, .slice p1 n.I.length d1, .slice p2 n.K.length d2, .slice p3 n.D.length d3] 77) := ⟨_, rfl⟩
  have B0 : Hid (Below w.heap.size w w0) := by show Below _ _ _; rw [hw0]; exact below_a1 _ _
  have H0 := Lib.hid (hn.below B0.out)
  have bx : Hid (w0.heap[w.heap.size]? = some (.cells #[.bool n.lf, .slice p1 n.I.length d1, .slice p2 n.K.length d2, .slice p3 n.D.length d3] 77 (0, 0))) := by show _ = _; rw [hw0]; exact blk_new _ _
  cases hg : n.good with
  | false =>
    have hz : n.size = 0 := by unfold Nd.size; rw [if_neg (by simp [hg])]
    rw [hz]
    rw [hg] at hG
    clear hz hg hn ht
    go_enter Tryd.func51, Tryd.ntmps51
    have hc := blk_cell bx.out
    go_upto_region 1 with (fail)
    try rw [← hw0]
    clear hw0
    go_wp2_with fail
    refine (hG.out _ H0.out).mono ?_; rintro e w1 ⟨rfl, hb1⟩
    have B1 := Lib.hid (bstep B0.out hb1)
    go_wp2_with fail
    go_ret
    exact ⟨rfl, B1.out⟩
  | true =>
    have hs := (good_back ht hg).1
    rw [← hs]
    rw [hg] at hG
    have HB := Lib.hid (fun W h => ref_Bytes n (.slice p1 n.I.length d1) (.slice p2 n.K.length d2) (.slice p3 n.D.length d3) W h ht hg)
    clear hs hg hn ht
    go_enter Tryd.func51, Tryd.ntmps51
    have hc := blk_cell bx.out
    go_upto_region 1 with (fail)
    try rw [← hw0]
    clear hw0
    go_wp2_with fail
    refine (hG.out _ H0.out).mono ?_; rintro e w1 ⟨rfl, hb1⟩
    have B1 := Lib.hid (bstep B0.out hb1)
    have hc1 := blk_cell (blk_below bx.out hb1)
    have H1 := Lib.hid (H0.out.below hb1)
    clear hc hb1
    go_wp2_with fail
    refine (HB.out _ H1.out).mono ?_; rintro e w2 ⟨rfl, hb2⟩
    have B2 := Lib.hid (bstep B1.out hb2)
    go_wp2_with fail
    go_ret
    exact ⟨rfl, B2.out⟩
theorem ref_Encode (n : Nd) (v1 v2 v3 : Value) (w : World) (hn : NdAt w v1 v2 v3 n) (ht : n.typed) :
    Calls Tryd.prog 45 #[.agg #[.bool n.lf, v1, v2, v3]] w fun e w' => e = .returned (.tuple #[.string n.enc.1, .int .i64 n.enc.2]) ∧ Below w.heap.size w w' := by
  obtain ⟨p1, d1, p2, d2, p3, d3, rfl, rfl, rfl⟩ := hn.form
  have hG := Lib.hid (fun W h => ref_Good n (.slice p1 n.I.length d1) (.slice p2 n.K.length d2) (.slice p3 n.D.length d3) W h)
  obtain ⟨w0, hw0⟩ : ∃ w0, w0 = w.alloc (.cells #[.bool n.lf, .slice p1 n.I.length d1, .slice p2 n.K.length d2, .slice p3 n.D.length d3] 77) := ⟨_, rfl⟩
  have B0 : Hid (Below w.heap.size w w0) := by show Below _ _ _; rw [hw0]; exact below_a1 _ _
  have H0 := Lib.hid (hn.below B0.out)
  have bx : Hid (w0.heap[w.heap.size]? = some (.cells #[.bool n.lf, .slice p1 n.I.length d1, .slice p2 n.K.length d2, .slice p3 n.D.length d3] 77 (0, 0))) := by show _ = _; rw [hw0]; exact blk_new _ _
  cases hg : n.good with
  | false =>
    have e : n.enc = (⟨#[]⟩, 11) := by unfold Nd.enc; rw [if_pos hg]
    rw [e]
    rw [hg] at hG
    clear e hg hn ht
    go_enter Tryd.func45, Tryd.ntmps45
    have hc := blk_cell bx.out
    go_upto_region 1 with (fail)
    try rw [← hw0]
    clear hw0
    go_wp2_with fail
    refine (hG.out _ H0.out).mono ?_; rintro e w1 ⟨rfl, hb1⟩
    have B1 := Lib.hid (bstep B0.out hb1)
    go_wp2_with fail
    go_ret2
    exact ⟨rfl, B1.out⟩
  | true =>
    have hs := (good_back ht hg).1
    have HB := Lib.hid (fun W h => ref_Bytes n (.slice p1 n.I.length d1) (.slice p2 n.K.length d2) (.slice p3 n.D.length d3) W h ht hg)
    by_cases hz : 236 < n.size
    · have e : n.enc = (⟨#[]⟩, 2) := by unfold Nd.enc; rw [if_neg (by simp [hg]), if_pos hz]
      rw [e]
      rw [hg] at hG
      have hzi : (236 : Int) < (n.bytes.size : Int) := by omega
      obtain ⟨S, hS⟩ : ∃ S, S = n.bytes := ⟨_, rfl⟩
      rw [← hS] at hzi HB
      clear e hs hg hn ht hz hS
      go_enter Tryd.func45, Tryd.ntmps45
      have hc := blk_cell bx.out
      go_upto_region 1 with (fail)
      try rw [← hw0]
      clear hw0
      go_wp2_with fail
      refine (hG.out _ H0.out).mono ?_; rintro e w1 ⟨rfl, hb1⟩
      have B1 := Lib.hid (bstep B0.out hb1)
      have hc1 := blk_cell (blk_below bx.out hb1)
      have H1 := Lib.hid (H0.out.below hb1)
      clear hc hb1
      go_wp2_with fail
      refine (HB.out _ H1.out).mono ?_; rintro e w2 ⟨rfl, hb2⟩
      have B2 := Lib.hid (bstep B1.out hb2)
      go_wp2_with fail
      go_ret2
      exact ⟨rfl, B2.out⟩
    · have e : n.enc = (n.bytes, 0) := by unfold Nd.enc; rw [if_neg (by simp [hg]), if_neg hz]
      rw [e]
      rw [hg] at hG
      have hzi : ¬ (236 : Int) < (n.bytes.size : Int) := by omega
      obtain ⟨S, hS⟩ : ∃ S, S = n.bytes := ⟨_, rfl⟩
      rw [← hS] at hzi HB ⊢
      clear e hs hg hn ht hz hS
      go_enter Tryd.func45, Tryd.ntmps45
      have hc := blk_cell bx.out
      go_upto_region 1 with (fail)
      try rw [← hw0]
      clear hw0
      go_wp2_with fail
      refine (hG.out _ H0.out).mono ?_; rintro e w1 ⟨rfl, hb1⟩
      have B1 := Lib.hid (bstep B0.out hb1)
      have hc1 := blk_cell (blk_below bx.out hb1)
      have H1 := Lib.hid (H0.out.below hb1)
      clear hc hb1
      go_wp2_with fail
      refine (HB.out _ H1.out).mono ?_; rintro e w2 ⟨rfl, hb2⟩
      have B2 := Lib.hid (bstep B1.out hb2)
      go_wp2_with fail
      go_ret2
      exact ⟨rfl, B2.out⟩
end Go.Proofs.YtlpdanghcdajmaaDoor
