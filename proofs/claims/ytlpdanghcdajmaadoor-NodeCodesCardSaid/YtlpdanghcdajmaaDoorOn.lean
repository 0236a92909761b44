/- Layer 23: the reference's Decode. -/
import Derived.Test.YtlpdanghcdajmaaDoorOm
import Derived.Test.YtlpdanghcdajmaaDoorOd
import Derived.Deep.CutRange
namespace Go.Proofs.YtlpdanghcdajmaaDoor
open Go.RowKit
theorem decN_no' {b : ByteArray} (h : decOk b = false) : decN b = (Nd.nil, 11) := by unfold decN; rw [if_neg (by simp [h])]
theorem decN_yes' {b : ByteArray} (h : decOk b = true) : decN b = ((rdN b).1, 0) := by unfold decN; rw [if_pos h]
theorem row_lt_ne {w : World} {B : Nat} {e : TypeId} {s n : Nat} {v : Value} {xs : List Value} (h : w.ownsRow B e s v n xs) : v.ownBlock = none ∨ v.ownBlock ≠ some w.heap.size := by
  cases hv : v.ownBlock with
  | none => exact .inl rfl
  | some g => right; have := (h.lt g hv).2; simp; omega
theorem row_setX {w1 : World} {B : Nat} {e : TypeId} {s m : Nat} {v : Value} {xs : List Value} (h : w1.ownsRow B e s v m xs) {x : Nat} (hne : v.ownBlock = none ∨ v.ownBlock ≠ some x) (o : Nat) (u : Value) : (w1.setCell ⟨x, o, none⟩ u).ownsRow B e s v m xs :=
  h.kept (row := some x) ⟨rfl, rfl, rfl, by simp [World.setCell], fun k _ hk => Below.heap_setCell _ _ _ _ (fun e => hk (by rw [e]))⟩ hne
theorem RefW.setX {w w0 w1 : World} {q : Nat} {b : ByteArray} {a a0 : Int} {bad bad0 lf : Bool} {vI vK vD : Value} {n : Nd} (h : RefW w w1 q b a bad lf vI vK vD n) (h0 : RefW w w0 q b a0 bad0 lf vI vK vD n) (o : Nat) (u : Value) : RefW w (w1.setCell ⟨w0.heap.size, o, none⟩ u) q b a bad lf vI vK vD n := by
  have hq := h.qq
  have hz := h0.sz
  exact ⟨blk_set_far h.rd (by simp; omega) _, blk_set_far h.nb (by simp; omega) _, blk_set_far h.res (by simp; omega) _, row_setX h.oI (row_lt_ne h0.oI) _ _, row_setX h.oK (row_lt_ne h0.oK) _ _, row_setX h.oD (row_lt_ne h0.oD) _ _, h.bel.setCell (p := ⟨w0.heap.size, o, none⟩) (by show w.heap.size ≤ w0.heap.size; omega) _, by simpa [World.setCell] using h.sz, hq⟩
theorem rdec_w0 (w : World) (b : ByteArray) : ∃ w0, (w.alloc (.cells #[.bool false, .slice none 0 0, .slice none 0 0, .slice none 0 0] 77)).alloc (.cells #[.string b, .int .i64 0, .bool false] 144) = w0 ∧ w0.heap[w.heap.size]? = some (.cells #[.bool false, .slice none 0 0, .slice none 0 0, .slice none 0 0] 77 (0, 0)) ∧ IsRr w0 (w.heap.size + 1) b 0 false ∧ Below w.heap.size w w0 ∧ w0.heap.size = w.heap.size + 2 :=
  ⟨_, rfl, blk_alloc (blk_new _ _), kN _ (by simp), (bal (bal ⟨Below.refl _ _, Nat.le_refl _⟩ _) _).1, by simp⟩
theorem refW_new {w w2 : World} {b : ByteArray} {a : Int} {bad : Bool} (hp : IsRr w2 (w.heap.size + 1) b a bad) (hr : w2.heap[w.heap.size]? = some (.cells #[.bool false, .slice none 0 0, .slice none 0 0, .slice none 0 0] 77 (0, 0))) (hb : Below w.heap.size w w2) (hz : w.heap.size + 1 < w2.heap.size) :
    RefW w (w2.alloc (.cells #[.bool false, .slice none 0 0, .slice none 0 0, .slice none 0 0] 77)) w2.heap.size b a bad false (.slice none 0 0) (.slice none 0 0) (.slice none 0 0) Nd.nil :=
  ⟨blk_alloc hp, blk_new _ _, blk_alloc hr, World.ownsRow_nil _ _ _ _, World.ownsRow_nil _ _ _ _, World.ownsRow_nil _ _ _ _, hb.alloc hb.size _, by simp, hz⟩
set_option maxRecDepth 100000 in
set_option maxHeartbeats 4000000 in
theorem ref_Decode_long (b : ByteArray) (hb : 236 < b.size) (w : World) :
    Calls Tryd.prog 47 #[.string b] w fun e w' => ∃ v1 v2 v3, e = .returned (.tuple #[.agg #[.bool (decN b).1.lf, v1, v2, v3], .int .i64 (decN b).2]) ∧ NdAt w' v1 v2 v3 (decN b).1 ∧ Below w.heap.size w w' := by
  have hno : Hid (decN b = (Nd.nil, 11)) := by
    show _ = _
    refine decN_no' ?_
    cases h : decOk b with
    | false => rfl
    | true =>
      have h1 := (enc_decN h).2.2.2
      unfold decOk at h
      simp only [Bool.and_eq_true, decide_eq_true_eq] at h
      omega
  have hbi : (236 : Int) < (b.size : Int) := by omega
  obtain ⟨w0, hw0⟩ : ∃ w0, w0 = w.alloc (.cells #[.bool false, .slice none 0 0, .slice none 0 0, .slice none 0 0] 77) := ⟨_, rfl⟩
  have hr0 : Hid (w0.heap[w.heap.size]? = some (.cells #[.bool false, .slice none 0 0, .slice none 0 0, .slice none 0 0] 77 (0, 0))) := by show _ = _; rw [hw0]; exact blk_new _ _
  have B0 : Hid (Below w.heap.size w w0) := by show Below _ _ _; rw [hw0]; exact below_a1 _ _
  go_enter Tryd.func47, Tryd.ntmps47
  go_upto_region 1 with (fail)
  try rw [← hw0]
  clear hw0
  have hcr := blk_cell (hr0.out)
  have hfr := blk_frozen (hr0.out)
  have br6 := set4_blk (hr0.out) (.bool false) (.slice none 0 0) (.slice none 0 0) (.slice none 0 0)
  have B6 := set4_below (B0.out) (Nat.le_refl _) (.bool false) (.slice none 0 0) (.slice none 0 0) (.slice none 0 0)
  have s0 := blk_cell br6 0
  have s1 := blk_cell br6 1
  have s2 := blk_cell br6 2
  have s3 := blk_cell br6 3
  simp only [List.getElem?_toArray, List.getElem?_cons_zero, List.getElem?_cons_succ] at s0 s1 s2 s3
  have H6 := Lib.hid B6
  clear B6 br6
  unfold set4 at s0 s1 s2 s3 H6
  go_wp2_with fail
  exact bodyPost_ret (v := .tuple #[.agg #[.bool false, .slice none 0 0, .slice none 0 0, .slice none 0 0], .int .i64 11]) (by simp only [results, Tryd.results47]; simp [go_sem, s0, s1, s2, s3]) rfl (by rw [hno.out]; exact ⟨_, _, _, rfl, ndNil _, H6.out⟩)
set_option maxRecDepth 100000 in
set_option maxHeartbeats 4000000 in
theorem ref_Decode_else (b : ByteArray) (hb : b.size ≤ 236) (k a1 a2 c : Int) (b1 b2 : Bool) (h1 : rdR b 0 false 1 = (k, a1, b1)) (h2 : rdR b a1 b1 1 = (c, a2, b2)) (k1 : ¬ k = 1) (k2 : ¬ k = 2) (w : World) :
    Calls Tryd.prog 47 #[.string b] w fun e w' => ∃ v1 v2 v3, e = .returned (.tuple #[.agg #[.bool (decN b).1.lf, v1, v2, v3], .int .i64 (decN b).2]) ∧ NdAt w' v1 v2 v3 (decN b).1 ∧ Below w.heap.size w w' := by
  have hno : Hid (decN b = (Nd.nil, 11)) := by
    show _ = _
    have e : rdN b = (Nd.nil, a2, b2) := by unfold rdN; simp only [h1, h2]; rw [if_neg k1, if_neg k2]
    exact decN_no' (by unfold decOk; rw [e]; simp [show Nd.nil.good = false from rfl])
  have k1b : (k == 1) = false := by rw [beq_eq_false_iff_ne]; exact k1
  have k2b : (k == 2) = false := by rw [beq_eq_false_iff_ne]; exact k2
  have hbi : ¬ (236 : Int) < (b.size : Int) := by omega
  have N1 := Lib.hid (rr_num (w.heap.size + 1) b 0 false 1 (by omega) (by decide)); rw [h1] at N1
  have N2 := Lib.hid (rr_num (w.heap.size + 1) b a1 b1 1 (by omega) (by decide)); rw [h2] at N2
  clear h1 h2
  go_enter Tryd.func47, Tryd.ntmps47
  go_upto_region 4 with (fail)
  obtain ⟨w0, hw0, hr0, hp0, B0, hz0⟩ := rdec_w0 w b
  rw [hw0]; clear hw0
  go_wp2_with fail
  refine (N1.out _ hp0).mono ?_; rintro e w1 ⟨rfl, hp1, hf1⟩
  have hr1 := Lib.hid (blk_fr hr0 hf1 (by omega))
  have B1 := Lib.hid (Below.fr B0 hf1 (by omega) B0.size)
  have hz1 : w.heap.size + 1 < w1.heap.size := by have := hf1.size; omega
  clear hr0 hp0 B0 hf1 hz0
  go_wp2_with fail
  refine (N2.out _ hp1).mono ?_; rintro e w2 ⟨rfl, hp2, hf2⟩
  have hr2 := Lib.hid (blk_fr hr1.out hf2 (by omega))
  have B2 := Lib.hid (Below.fr B1.out hf2 (by omega) B1.out.size)
  have hz2 : w.heap.size + 1 < w2.heap.size := by have := hf2.size; omega
  have W3 := Lib.hid (refW_new hp2 hr2.out B2.out hz2)
  clear hp1 hf2 hp2
  have hcr := blk_cell (W3.out.res)
  have hfr := blk_frozen (W3.out.res)
  have br6 := set4_blk (W3.out.res) (.bool false) (.slice none 0 0) (.slice none 0 0) (.slice none 0 0)
  have B6 := set4_below (W3.out.bel) (Nat.le_refl _) (.bool false) (.slice none 0 0) (.slice none 0 0) (.slice none 0 0)
  have s0 := blk_cell br6 0
  have s1 := blk_cell br6 1
  have s2 := blk_cell br6 2
  have s3 := blk_cell br6 3
  simp only [List.getElem?_toArray, List.getElem?_cons_zero, List.getElem?_cons_succ] at s0 s1 s2 s3
  have H6 := Lib.hid B6
  clear B6 br6
  unfold set4 at s0 s1 s2 s3 H6
  go_wp2_with fail
  exact bodyPost_ret (v := .tuple #[.agg #[.bool false, .slice none 0 0, .slice none 0 0, .slice none 0 0], .int .i64 11]) (by simp only [results, Tryd.results47]; simp [go_sem, s0, s1, s2, s3]) rfl (by rw [hno.out]; exact ⟨_, _, _, rfl, ndNil _, H6.out⟩)
set_option maxRecDepth 100000 in
set_option maxHeartbeats 8000000 in
theorem ref_Decode_leaf (b : ByteArray) (hb : b.size ≤ 236) (a1 a2 c : Int) (b1 b2 : Bool) (h1 : rdR b 0 false 1 = (1, a1, b1)) (h2 : rdR b a1 b1 1 = (c, a2, b2)) (w : World) :
    Calls Tryd.prog 47 #[.string b] w fun e w' => ∃ v1 v2 v3, e = .returned (.tuple #[.agg #[.bool (decN b).1.lf, v1, v2, v3], .int .i64 (decN b).2]) ∧ NdAt w' v1 v2 v3 (decN b).1 ∧ Below w.heap.size w w' := by
  have HN0 : Hid (rdN b = (⟨true, (rdIs b ([], a2, b2) c.toNat).1, [], []⟩, (rdIs b ([], a2, b2) c.toNat).2.1, (rdIs b ([], a2, b2) c.toNat).2.2)) := by show _ = _; unfold rdN; simp only [h1, h2]; rw [if_pos trivial]
  have hk := rdR_bd (b := b) (a := 0) (bad := false) (n := 1) (.inl rfl) (by decide) (by omega)
  rw [h1] at hk
  have hz := rdR_bd (b := b) (a := a1) (bad := b1) (n := 1) (.inl rfl) hk.1 hk.2.1
  rw [h2] at hz
  have hz3 : c < 256 := by have := hz.2.2.2; simpa using this
  have hc0 : 0 ≤ c := hz.2.2.1
  have hBD := Lib.hid (rdIs_bd (b := b) (s := ([], a2, b2)) hz.1 hz.2.1)
  have hLN := Lib.hid (rdIs_len (b := b) (s := ([], a2, b2)))
  have hSt := Lib.hid (fun k h j => rdIs_stay (b := b) (s := ([], a2, b2)) (k := k) h j)
  obtain ⟨C, rfl⟩ := Int.eq_ofNat_of_zero_le hc0
  simp only [Int.toNat_natCast] at HN0
  have hC : C < 256 := by omega
  obtain ⟨i0, ih, i1, i2, i3⟩ := info_parts Tryd.info128
  have hbi : ¬ (236 : Int) < (b.size : Int) := by omega
  have N1 := Lib.hid (rr_num (w.heap.size + 1) b 0 false 1 (by omega) (by decide)); rw [h1] at N1
  have N2 := Lib.hid (rr_num (w.heap.size + 1) b a1 b1 1 (by omega) (by decide)); rw [h2] at N2
  clear h1 h2 hk hz hz3 hc0
  go_enter Tryd.func47, Tryd.ntmps47
  go_upto_region 4 with (fail)
  obtain ⟨w0, hw0, hr0, hp0, B0, hz0⟩ := rdec_w0 w b
  rw [hw0]; clear hw0
  go_wp2_with fail
  refine (N1.out _ hp0).mono ?_; rintro e w1 ⟨rfl, hp1, hf1⟩
  have hr1 := Lib.hid (blk_fr hr0 hf1 (by omega))
  have B1 := Lib.hid (Below.fr B0 hf1 (by omega) B0.size)
  have hz1 : w.heap.size + 1 < w1.heap.size := by have := hf1.size; omega
  clear hr0 hp0 B0 hf1 hz0
  go_wp2_with fail
  refine (N2.out _ hp1).mono ?_; rintro e w2 ⟨rfl, hp2, hf2⟩
  have hr2 := Lib.hid (blk_fr hr1.out hf2 (by omega))
  have B2 := Lib.hid (Below.fr B1.out hf2 (by omega) B1.out.size)
  have hz2 : w.heap.size + 1 < w2.heap.size := by have := hf2.size; omega
  have W3 := Lib.hid (refW_new hp2 hr2.out B2.out hz2)
  clear hp1 hf2 hp2
  go_upto_region 6 with (fail)
  generalize w2.alloc (.cells #[.bool false, .slice none 0 0, .slice none 0 0, .slice none 0 0] 77) = w3 at W3 ⊢
  have hcq := blk_cell W3.out.nb
  have hfq := blk_frozen W3.out.nb
  go_wp2_with fail
  have W4 := Lib.hid W3.out.leaf
  go_loopw [8] (fun iv wr => ∃ k : Nat, k ≤ C ∧ iv = .int .i64 k ∧ ∃ vI, RefW w wr w2.heap.size b (rdIs b ([], a2, b2) k).2.1 (rdIs b ([], a2, b2) k).2.2 true vI (.slice none 0 0) (.slice none 0 0) ⟨true, (rdIs b ([], a2, b2) k).1, [], []⟩) (fun iv _ => C - (intOf iv).toNat)
  case atStart => exact ⟨0, Nat.zero_le _, rfl, .slice none 0 0, W4.out⟩
  case round =>
    obtain ⟨k, hk, rfl, vI, hW⟩ := hrel
    clear W3 W4 hcq hfq hr1 hr2
    obtain ⟨pI, cI, rfl⟩ := row_form hW.oI
    have hbd := hBD.out k
    have hln := hLN.out k
    have hstay := hSt.out k
    have hstep : rdIs b ([], a2, b2) (k + 1) = itStep b (rdIs b ([], a2, b2) k) := rfl
    obtain ⟨L, a, bad, hs⟩ : ∃ L a bad, rdIs b ([], a2, b2) k = (L, a, bad) := ⟨_, _, _, rfl⟩
    rw [hs] at hbd hln hstay hW hstep
    simp only [List.length_nil, Nat.zero_add] at hbd hln hstay hW
    have HW := Lib.hid hW
    have HS := Lib.hid hs
    have Hstep := Lib.hid hstep
    have hcr := blk_cell hW.rd
    clear hs hstep hW
    by_cases hkC : k < C
    · have hi : (k : Int) < (C : Int) := by omega
      cases bad with
      | false =>
        have x4b := rdR_bd (b := b) (a := a) (bad := false) (n := 4) (.inr (.inr rfl)) hbd.1 hbd.2
        obtain ⟨xk, a4, b4, h4⟩ : ∃ xk a4 b4, rdR b a false 4 = (xk, a4, b4) := ⟨_, _, _, rfl⟩
        rw [h4] at x4b
        have x5b := rdR_bd (b := b) (a := a4) (bad := b4) (n := 2) (.inr (.inl rfl)) x4b.1 x4b.2.1
        obtain ⟨xz, a5, b5, h5⟩ : ∃ xz a5 b5, rdR b a4 b4 2 = (xz, a5, b5) := ⟨_, _, _, rfl⟩
        rw [h5] at x5b
        have N4 := Lib.hid (rr_num (w.heap.size + 1) b a false 4 (by omega) (by decide)); rw [h4] at N4
        have N5 := Lib.hid (rr_num (w.heap.size + 1) b a4 b4 2 (by omega) (by decide)); rw [h5] at N5
        have H4 := Lib.hid h4
        have H5 := Lib.hid h5
        obtain ⟨z0, z1, z2, _⟩ := x5b
        have xk0 : 0 ≤ xk := x4b.2.2.1
        have xk1 : xk < 4294967296 := by have := x4b.2.2.2; simpa using this
        have hxw : IntKind.u32.wrap xk = xk := by rw [IntKind.wrap_u32, Int.emod_eq_of_lt xk0 xk1]
        clear h4 h5 x4b
        simp only at z0 z1 z2
        go_wp2_with fail
        refine (N4.out _ HW.out.rd).mono ?_; rintro e x3 ⟨rfl, hp3, hf3⟩
        have X3 := Lib.hid (HW.out.call hp3 hf3)
        clear hp3 hf3 hcr
        go_wp2_with fail
        refine (N5.out _ X3.out.rd).mono ?_; rintro e x4 ⟨rfl, hp4, hf4⟩
        have X4 := Lib.hid (X3.out.call hp4 hf4)
        have X5 := Lib.hid (X4.out.alloc (.cells #[.int .u32 xk, .int .i64 xz, .string ⟨#[]⟩, .int .i64 0] 128))
        have hxb5 : Hid ((x4.alloc (.cells #[.int .u32 xk, .int .i64 xz, .string ⟨#[]⟩, .int .i64 0] 128)).heap[x4.heap.size]? = some (.cells #[.int .u32 xk, .int .i64 xz, .string ⟨#[]⟩, .int .i64 0] 128 (0, 0))) := blk_new _ _
        clear hp4 hf4
        go_upto_region 14 with (fail)
        try rw [hxw]
        generalize x4.alloc (.cells #[.int .u32 xk, .int .i64 xz, .string ⟨#[]⟩, .int .i64 0] 128) = x5 at X5 hxb5 ⊢
        have hcx := blk_cell hxb5.out
        by_cases hz : xz ≤ 40
        · obtain ⟨xt, a6, b6, h6⟩ : ∃ xt a6 b6, rdT b a5 b5 xz = (xt, a6, b6) := ⟨_, _, _, rfl⟩
          have N6 := Lib.hid (rr_text (w.heap.size + 1) b a5 b5 xz (by omega) z0 z1 z2 hz); rw [h6] at N6
          have e1 : Hid (rdIs b ([], a2, b2) (k + 1) = (L ++ [⟨xk, xz, xt, 0⟩], a6, b6)) := by
            show _ = _
            rw [Hstep.out]
            have : rdI b a false = (⟨xk, xz, xt, 0⟩, a6, b6) := by unfold rdI; simp only [H4.out, H5.out, if_pos hz, h6]
            simp [itStep, this]
          clear h6

          go_wp2_with fail
          refine (N6.out _ X5.out.rd).mono ?_; rintro e x6 ⟨rfl, hp6, hf6⟩
          have X6 := Lib.hid (X5.out.call hp6 hf6)
          have hxb6 := Lib.hid (blk_fr hxb5.out hf6 (by have := X4.out.sz; have := X4.out.qq; omega))
          have hcx := blk_cell hxb6.out
          have hfx := blk_frozen hxb6.out
          have X7 := Lib.hid (X6.out.setX X4.out 2 (.string xt))
          have hxb7 : Hid ((x6.setCell ⟨x4.heap.size, 2, none⟩ (.string xt)).heap[x4.heap.size]? = some (.cells #[.int .u32 xk, .int .i64 xz, .string xt, .int .i64 0] 128 (0, 0))) := by show _ = _; have := blk_set hxb6.out 2 (.string xt); simpa using this
          clear hp6 hf6
          go_upto_region 17 with (fail)
          generalize x6.setCell ⟨x4.heap.size, 2, none⟩ (.string xt) = x7 at X7 hxb7 ⊢
          have hcx := blk_cell hxb7.out
          have hcn := blk_cell X7.out.nb
          have hfn := blk_frozen X7.out.nb
          have hsz7 := X7.out.sz
          go_wp2_with (at_builtin; refine wpList_append_lies _ rfl _ _ _ rfl (w2.heap.size + 1) 128 i0 _ 4 40 Tryd.underlying75 ih i1 i2 i3 rfl (by decide) (.slice pI L.length cI) L.length (itCells L) rfl (X7.out.oI.alloc _) ⟨x7.heap.size, 0, none⟩ 1 1 [.int .u32 xk, .int .i64 xz, .string xt, .int .i64 0] rfl rfl (World.news_of_block (cs := #[.int .u32 xk, .int .i64 xz, .string xt, .int .i64 0]) (t := 128) (fr := (0, 0)) (heap_alloc_new x7 _)) (by simp [Value.oneCell']) (by decide) (by simp only [maxLen]; omega) (by omega) (by simp; omega) (x7.heap.size + 1) (by simp) ?_; intro g cap x8 hown hgrow hat hlt8; have K8 := (X7.out.alloc (.cells #[.int .u32 xk, .int .i64 xz, .string xt, .int .i64 0] 128)).kept hgrow (fun k hk => (X7.out.oI.lt k hk).1); have hc8 := blk_cell K8.nb; have hf8 := blk_frozen K8.nb; clear hcx hcn hfn)
          have X9 := Lib.hid ((X7.out.alloc (.cells #[.int .u32 xk, .int .i64 xz, .string xt, .int .i64 0] 128)).appI (x := ⟨xk, xz, xt, 0⟩) (by rw [itCells_one]; exact hown) hgrow)
          clear K8 hown hgrow
          go_wp2_with fail
          go_roundw
          case rel =>
            refine ⟨k + 1, by omega, by go_num, .slice (some ⟨g, 0, none⟩) (L.length + 1) cap, ?_⟩
            rw [e1.out]
            exact X9.out
          case measure => simp [intOf]; omega
        · obtain ⟨xp, a6, b6, h6⟩ : ∃ xp a6 b6, rdR b a5 b5 2 = (xp, a6, b6) := ⟨_, _, _, rfl⟩
          have N6 := Lib.hid (rr_num (w.heap.size + 1) b a5 b5 2 (by omega) (by decide)); rw [h6] at N6
          have e1 : Hid (rdIs b ([], a2, b2) (k + 1) = (L ++ [⟨xk, xz, ⟨#[]⟩, xp⟩], a6, b6)) := by
            show _ = _
            rw [Hstep.out]
            have : rdI b a false = (⟨xk, xz, ⟨#[]⟩, xp⟩, a6, b6) := by unfold rdI; simp only [H4.out, H5.out, if_neg hz, h6]
            simp [itStep, this]
          clear h6
          have hz' : 40 < xz := by omega
          go_wp2_with fail
          refine (N6.out _ X5.out.rd).mono ?_; rintro e x6 ⟨rfl, hp6, hf6⟩
          have X6 := Lib.hid (X5.out.call hp6 hf6)
          have hxb6 := Lib.hid (blk_fr hxb5.out hf6 (by have := X4.out.sz; have := X4.out.qq; omega))
          have hcx := blk_cell hxb6.out
          have hfx := blk_frozen hxb6.out
          have X7 := Lib.hid (X6.out.setX X4.out 3 (.int .i64 xp))
          have hxb7 : Hid ((x6.setCell ⟨x4.heap.size, 3, none⟩ (.int .i64 xp)).heap[x4.heap.size]? = some (.cells #[.int .u32 xk, .int .i64 xz, .string ⟨#[]⟩, .int .i64 xp] 128 (0, 0))) := by show _ = _; have := blk_set hxb6.out 3 (.int .i64 xp); simpa using this
          clear hp6 hf6
          go_upto_region 17 with (fail)
          generalize x6.setCell ⟨x4.heap.size, 3, none⟩ (.int .i64 xp) = x7 at X7 hxb7 ⊢
          have hcx := blk_cell hxb7.out
          have hcn := blk_cell X7.out.nb
          have hfn := blk_frozen X7.out.nb
          have hsz7 := X7.out.sz
          go_wp2_with (at_builtin; refine wpList_append_lies _ rfl _ _ _ rfl (w2.heap.size + 1) 128 i0 _ 4 40 Tryd.underlying75 ih i1 i2 i3 rfl (by decide) (.slice pI L.length cI) L.length (itCells L) rfl (X7.out.oI.alloc _) ⟨x7.heap.size, 0, none⟩ 1 1 [.int .u32 xk, .int .i64 xz, .string ⟨#[]⟩, .int .i64 xp] rfl rfl (World.news_of_block (cs := #[.int .u32 xk, .int .i64 xz, .string ⟨#[]⟩, .int .i64 xp]) (t := 128) (fr := (0, 0)) (heap_alloc_new x7 _)) (by simp [Value.oneCell']) (by decide) (by simp only [maxLen]; omega) (by omega) (by simp; omega) (x7.heap.size + 1) (by simp) ?_; intro g cap x8 hown hgrow hat hlt8; have K8 := (X7.out.alloc (.cells #[.int .u32 xk, .int .i64 xz, .string ⟨#[]⟩, .int .i64 xp] 128)).kept hgrow (fun k hk => (X7.out.oI.lt k hk).1); have hc8 := blk_cell K8.nb; have hf8 := blk_frozen K8.nb; clear hcx hcn hfn)
          have X9 := Lib.hid ((X7.out.alloc (.cells #[.int .u32 xk, .int .i64 xz, .string ⟨#[]⟩, .int .i64 xp] 128)).appI (x := ⟨xk, xz, ⟨#[]⟩, xp⟩) (by rw [itCells_one]; exact hown) hgrow)
          clear K8 hown hgrow
          go_wp2_with fail
          go_roundw
          case rel =>
            refine ⟨k + 1, by omega, by go_num, .slice (some ⟨g, 0, none⟩) (L.length + 1) cap, ?_⟩
            rw [e1.out]
            exact X9.out
          case measure => simp [intOf]; omega
      | true =>
        have HN : Hid (rdN b = (⟨true, L, [], []⟩, a, true)) := by
          show _ = _
          rw [HN0.out]
          obtain ⟨j, hj⟩ : ∃ j, C = k + j := ⟨C - k, by omega⟩
          rw [hj, hstay rfl j]
        have hno : Hid (decN b = (Nd.nil, 11)) := by show _ = _; exact decN_no' (by unfold decOk; rw [HN.out]; simp)
        have hcw := blk_cell HW.out.rd
        have hcr := blk_cell (HW.out.res)
        have hfr := blk_frozen (HW.out.res)
        have br6 := set4_blk (HW.out.res) (.bool false) (.slice none 0 0) (.slice none 0 0) (.slice none 0 0)
        have B6 := set4_below (HW.out.bel) (Nat.le_refl _) (.bool false) (.slice none 0 0) (.slice none 0 0) (.slice none 0 0)
        have s0 := blk_cell br6 0
        have s1 := blk_cell br6 1
        have s2 := blk_cell br6 2
        have s3 := blk_cell br6 3
        simp only [List.getElem?_toArray, List.getElem?_cons_zero, List.getElem?_cons_succ] at s0 s1 s2 s3
        have H6 := Lib.hid B6
        clear B6 br6
        unfold set4 at s0 s1 s2 s3 H6
        go_wp2_with fail
        exact bodyPost_ret (v := .tuple #[.agg #[.bool false, .slice none 0 0, .slice none 0 0, .slice none 0 0], .int .i64 11]) (by simp only [results, Tryd.results47]; simp [go_sem, s0, s1, s2, s3]) rfl (by rw [hno.out]; exact ⟨_, _, _, rfl, ndNil _, H6.out⟩)
    · have hi : ¬ (k : Int) < (C : Int) := by omega
      have HN : Hid (rdN b = (⟨true, L, [], []⟩, a, bad)) := by
        show _ = _
        have : C = k := by omega
        rw [HN0.out, this, HS.out]
      cases bad with
      | true =>
        have hno : Hid (decN b = (Nd.nil, 11)) := by show _ = _; exact decN_no' (by unfold decOk; rw [HN.out]; simp)
        have hcw := blk_cell HW.out.rd
        have hcr := blk_cell (HW.out.res)
        have hfr := blk_frozen (HW.out.res)
        have br6 := set4_blk (HW.out.res) (.bool false) (.slice none 0 0) (.slice none 0 0) (.slice none 0 0)
        have B6 := set4_below (HW.out.bel) (Nat.le_refl _) (.bool false) (.slice none 0 0) (.slice none 0 0) (.slice none 0 0)
        have s0 := blk_cell br6 0
        have s1 := blk_cell br6 1
        have s2 := blk_cell br6 2
        have s3 := blk_cell br6 3
        simp only [List.getElem?_toArray, List.getElem?_cons_zero, List.getElem?_cons_succ] at s0 s1 s2 s3
        have H6 := Lib.hid B6
        clear B6 br6
        unfold set4 at s0 s1 s2 s3 H6
        go_wp2_with fail
        exact bodyPost_ret (v := .tuple #[.agg #[.bool false, .slice none 0 0, .slice none 0 0, .slice none 0 0], .int .i64 11]) (by simp only [results, Tryd.results47]; simp [go_sem, s0, s1, s2, s3]) rfl (by rw [hno.out]; exact ⟨_, _, _, rfl, ndNil _, H6.out⟩)
      | false =>
        have GD := Lib.hid (fun W h => ref_Good ⟨true, L, [], []⟩ (.slice pI L.length cI) (.slice none 0 0) (.slice none 0 0) W h)
        have hcw := blk_cell HW.out.rd
        have hcn := blk_cell HW.out.nb
        have hN1 := Lib.hid (HW.out.nd (by simp only; omega) (by simp) (by simp))
        by_cases hat : a = (b.size : Int)
        rotate_left
        · have hno : Hid (decN b = (Nd.nil, 11)) := by show _ = _; exact decN_no' (by unfold decOk; rw [HN.out]; simp [hat])
          have hat1 : (a != (b.size : Int)) = true := by rw [bne_iff_ne]; exact hat
          have hat2 : (a == (b.size : Int)) = false := by rw [beq_eq_false_iff_ne]; exact hat
          have hcr := blk_cell (HW.out.res)
          have hfr := blk_frozen (HW.out.res)
          have br6 := set4_blk (HW.out.res) (.bool false) (.slice none 0 0) (.slice none 0 0) (.slice none 0 0)
          have B6 := set4_below (HW.out.bel) (Nat.le_refl _) (.bool false) (.slice none 0 0) (.slice none 0 0) (.slice none 0 0)
          have s0 := blk_cell br6 0
          have s1 := blk_cell br6 1
          have s2 := blk_cell br6 2
          have s3 := blk_cell br6 3
          simp only [List.getElem?_toArray, List.getElem?_cons_zero, List.getElem?_cons_succ] at s0 s1 s2 s3
          have H6 := Lib.hid B6
          clear B6 br6
          unfold set4 at s0 s1 s2 s3 H6
          go_wp2_with fail
          exact bodyPost_ret (v := .tuple #[.agg #[.bool false, .slice none 0 0, .slice none 0 0, .slice none 0 0], .int .i64 11]) (by simp only [results, Tryd.results47]; simp [go_sem, s0, s1, s2, s3]) rfl (by rw [hno.out]; exact ⟨_, _, _, rfl, ndNil _, H6.out⟩)
        have hat1 : (a != (b.size : Int)) = false := by rw [bne_eq_false_iff_eq]; exact hat
        have Hat := Lib.hid hat
        clear hat
        cases hgd : Nd.good ⟨true, L, [], []⟩ with
        | false =>
          have hno : Hid (decN b = (Nd.nil, 11)) := by show _ = _; exact decN_no' (by unfold decOk; rw [HN.out]; simp [hgd])
          rw [hgd] at GD
          clear hgd
          go_wp2_with fail
          refine (GD.out _ hN1.out).mono ?_; rintro e y1 ⟨rfl, hby⟩
          have HR1 := Lib.hid (blk_below HW.out.res hby)
          have HB1 := Lib.hid (bstep HW.out.bel hby)
          clear hby hcw hcn
          have hcr := blk_cell (HR1.out)
          have hfr := blk_frozen (HR1.out)
          have br6 := set4_blk (HR1.out) (.bool false) (.slice none 0 0) (.slice none 0 0) (.slice none 0 0)
          have B6 := set4_below (HB1.out) (Nat.le_refl _) (.bool false) (.slice none 0 0) (.slice none 0 0) (.slice none 0 0)
          have s0 := blk_cell br6 0
          have s1 := blk_cell br6 1
          have s2 := blk_cell br6 2
          have s3 := blk_cell br6 3
          simp only [List.getElem?_toArray, List.getElem?_cons_zero, List.getElem?_cons_succ] at s0 s1 s2 s3
          have H6 := Lib.hid B6
          clear B6 br6
          unfold set4 at s0 s1 s2 s3 H6
          go_wp2_with fail
          exact bodyPost_ret (v := .tuple #[.agg #[.bool false, .slice none 0 0, .slice none 0 0, .slice none 0 0], .int .i64 11]) (by simp only [results, Tryd.results47]; simp [go_sem, s0, s1, s2, s3]) rfl (by rw [hno.out]; exact ⟨_, _, _, rfl, ndNil _, H6.out⟩)
        | true =>
          have hyes : Hid (decN b = (⟨true, L, [], []⟩, 0)) := by
            show _ = _
            have h1 := (rdN_ok (b := b) (by rw [HN.out]) (by rw [HN.out]; exact hgd)).2.1
            rw [HN.out] at h1
            simp only at h1
            have h2 : Nd.size ⟨true, L, [], []⟩ ≤ 236 := by rw [← h1, Hat.out]; omega
            have h3 : decOk b = true := by unfold decOk; rw [HN.out]; simp [Hat.out, hgd, h2]
            rw [decN_yes' h3, HN.out]
          rw [hgd] at GD
          clear hgd
          go_wp2_with fail
          refine (GD.out _ hN1.out).mono ?_; rintro e y1 ⟨rfl, hby⟩
          have HR1 := Lib.hid (blk_below HW.out.res hby)
          have HB1 := Lib.hid (bstep HW.out.bel hby)
          have hcn := blk_cell (blk_below HW.out.nb hby)
          have HND := Lib.hid (HW.out.ndSet hby (by simp only; omega) (by simp) (by simp) (.bool true) (.slice pI L.length cI) (.slice none 0 0) (.slice none 0 0))
          clear hby hcw
          have hcr := blk_cell HR1.out
          have hfr := blk_frozen HR1.out
          have br6 := set4_blk HR1.out (.bool true) (.slice pI L.length cI) (.slice none 0 0) (.slice none 0 0)
          have B6 := set4_below HB1.out (Nat.le_refl _) (.bool true) (.slice pI L.length cI) (.slice none 0 0) (.slice none 0 0)
          have s0 := blk_cell br6 0
          have s1 := blk_cell br6 1
          have s2 := blk_cell br6 2
          have s3 := blk_cell br6 3
          simp only [List.getElem?_toArray, List.getElem?_cons_zero, List.getElem?_cons_succ] at s0 s1 s2 s3
          have H6 := Lib.hid (And.intro HND.out B6)
          clear B6 br6
          unfold set4 at s0 s1 s2 s3 H6
          go_wp2_with fail
          exact bodyPost_ret (v := .tuple #[.agg #[.bool true, .slice pI L.length cI, .slice none 0 0, .slice none 0 0], .int .i64 0]) (by simp only [results, Tryd.results47]; simp [go_sem, s0, s1, s2, s3]) rfl (by rw [hyes.out]; exact ⟨_, _, _, rfl, H6.out.1, H6.out.2⟩)
end Go.Proofs.YtlpdanghcdajmaaDoor
