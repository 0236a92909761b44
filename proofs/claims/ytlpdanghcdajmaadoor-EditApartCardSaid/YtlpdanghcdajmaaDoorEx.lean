/- The walk of edit.Decode. -/
import Derived.Test.YtlpdanghcdajmaaDoorEr
import Derived.Deep.DeepCutAuto
import Derived.Deep.CutBlock
namespace Go.Proofs.YtlpdanghcdajmaaDoor
open Go.RowKit

/-- What Decode holds: the edit so far, where the reader stands, whether it is bad. -/
structure Dst where
  k : Int
  ar : Int
  ac : Int
  fr : Int
  fc : Int
  tr : Int
  tc : Int
  s : ByteArray
  a : Int
  bad : Bool
def dec1 (b : ByteArray) : Dst := ⟨(rdR b 0 false 1).1, 0, 0, 0, 0, 0, 0, ⟨#[]⟩, (rdR b 0 false 1).2.1, (rdR b 0 false 1).2.2⟩
def dec2 (b : ByteArray) (x : Dst) : Dst :=
  if x.k = 3 then
    let f := rdCell b x.a x.bad
    let t := rdCell b f.2.2.1 f.2.2.2
    ⟨x.k, 0, 0, f.1, f.2.1, t.1, t.2.1, ⟨#[]⟩, t.2.2.1, t.2.2.2⟩
  else if x.k = 1 ∨ x.k = 2 then
    let c := rdCell b x.a x.bad
    ⟨x.k, c.1, c.2.1, 0, 0, 0, 0, ⟨#[]⟩, c.2.2.1, c.2.2.2⟩
  else ⟨x.k, 0, 0, 0, 0, 0, 0, ⟨#[]⟩, x.a, x.bad⟩
def dec3 (b : ByteArray) (x : Dst) : Dst :=
  if x.k = 1 ∧ x.bad = false then ⟨x.k, x.ar, x.ac, x.fr, x.fc, x.tr, x.tc, (cutR b x.a 300).1, (cutR b x.a 300).2.1, (cutR b x.a 300).2.2 != 0⟩ else x
def dec4 (b : ByteArray) (x : Dst) : Dst × Int :=
  if x.bad = true ∨ x.a ≠ b.size ∨ goodE x.k x.ar x.ac x.fr x.fc x.tr x.tc x.s = false then (⟨0, 0, 0, 0, 0, 0, 0, ⟨#[]⟩, 0, false⟩, 11) else (x, 0)
def decR (b : ByteArray) : Dst × Int := dec4 b (dec3 b (dec2 b (dec1 b)))
def Dst.cells (x : Dst) : Array Value := #[.int .i64 x.k, .int .i64 x.ar, .int .i64 x.ac, .int .i64 x.fr, .int .i64 x.fc, .int .i64 x.tr, .int .i64 x.tc, .string x.s]
structure DecW (w w' : World) (p q : Nat) (b : ByteArray) (x : Dst) : Prop where
  rd : IsRd w' p b x.a x.bad
  ed : w'.heap[q]? = some (.cells x.cells 59 (0, 0))
  res : w'.heap[w.heap.size]? = some (.cells #[.int .i64 0, .int .i64 0, .int .i64 0, .int .i64 0, .int .i64 0, .int .i64 0, .int .i64 0, .string ⟨#[]⟩] 59 (0, 0))
  fr : Fr (fun k => w.heap.size ≤ k) w w'
  et : EtIs w'

theorem DecW.setE {w w1 : World} {p q : Nat} {b : ByteArray} {x x' : Dst} (h : DecW w w1 p q b x) (o : Nat) (v : Value) (hx : x.cells.setIfInBounds o v = x'.cells) (ha : x'.a = x.a) (hb : x'.bad = x.bad) (hpq : p ≠ q) (hq : w.heap.size < q) (hp : 1 < w.heap.size) :
    DecW w (w1.setCell ⟨q, o, none⟩ v) p q b x' := by
  have hF := h.fr.setCell (p := ⟨q, o, none⟩) (.inl (Nat.le_of_lt hq)) v
  have hF1 := (Fr.refl (· = q) w1).setCell (p := ⟨q, o, none⟩) (.inl rfl) v
  refine ⟨by unfold IsRd; rw [ha, hb]; exact blk_set_far h.rd hpq _, ?_, blk_set_far h.res (by simp; omega) _, hF, et_fr h.et hF1 (by omega)⟩
  rw [← hx]; exact blk_set h.ed o v
theorem DecW.setR {w w1 : World} {p q : Nat} {b : ByteArray} {x x' : Dst} (h : DecW w w1 p q b x) (a : Int) (bad : Bool) (hx : x'.cells = x.cells) (ha : x'.a = a) (hb : x'.bad = bad) (hpq : p ≠ q) (hpw : w.heap.size < p) (hp : 1 < w.heap.size) :
    DecW w ((w1.setCell ⟨p, 1, none⟩ (.int .i64 a)).setCell ⟨p, 2, none⟩ (.bool bad)) p q b x' := by
  have hF := (h.fr.setCell (p := ⟨p, 1, none⟩) (.inl (Nat.le_of_lt hpw)) (.int .i64 a)).setCell (p := ⟨p, 2, none⟩) (.inl (Nat.le_of_lt hpw)) (.bool bad)
  have hF1 := ((Fr.refl (· = p) w1).setCell (p := ⟨p, 1, none⟩) (.inl rfl) (.int .i64 a)).setCell (p := ⟨p, 2, none⟩) (.inl rfl) (.bool bad)
  refine ⟨?_, by rw [hx]; exact blk_set_far (blk_set_far h.ed (by simp; omega) _) (by simp; omega) _, blk_set_far (blk_set_far h.res (by simp; omega) _) (by simp; omega) _, hF, et_fr h.et hF1 (by omega)⟩
  have := blk_set (blk_set h.rd 1 (.int .i64 a)) 2 (.bool bad)
  unfold IsRd; rw [ha, hb]; simpa using this
theorem DecW.call {w w1 w2 : World} {p q : Nat} {b : ByteArray} {x x' : Dst} {a : Int} {bad : Bool} (h : DecW w w1 p q b x) (hp : IsRd w2 p b a bad) (hf : Fr (· = p) w1 w2) (he : EtIs w2) (hx : x'.cells = x.cells) (ha : x'.a = a) (hb : x'.bad = bad) (hpq : p ≠ q) (hpw : w.heap.size < p) :
    DecW w w2 p q b x' :=
  ⟨by rw [ha, hb]; exact hp, by rw [hx]; exact blk_fr h.ed hf (Ne.symm hpq), blk_fr h.res hf (by omega), h.fr.shrink hf (fun k _ h => by subst h; exact Nat.le_of_lt hpw), he⟩
theorem dec_w0 (w : World) (b : ByteArray) (he : EtIs w) : ∃ w0, (w.alloc (.cells #[.int .i64 0, .int .i64 0, .int .i64 0, .int .i64 0, .int .i64 0, .int .i64 0, .int .i64 0, .string ⟨#[]⟩] 59)).alloc (.cells #[.string b, .int .i64 0, .bool false] 122) = w0 ∧ w0.heap[w.heap.size]? = some (.cells #[.int .i64 0, .int .i64 0, .int .i64 0, .int .i64 0, .int .i64 0, .int .i64 0, .int .i64 0, .string ⟨#[]⟩] 59) ∧ IsRd w0 (w.heap.size + 1) b 0 false ∧ Fr (fun k => w.heap.size ≤ k) w w0 ∧ EtIs w0 :=
  ⟨_, rfl, blk_alloc (blk_new _ _), by have h := blk_new (w.alloc (.cells #[.int .i64 0, .int .i64 0, .int .i64 0, .int .i64 0, .int .i64 0, .int .i64 0, .int .i64 0, .string ⟨#[]⟩] 59)) (.cells #[.string b, .int .i64 0, .bool false] 122); simpa [IsRd] using h, ((Fr.refl (fun k => w.heap.size ≤ k) w).alloc _).alloc _, (he.alloc _).alloc _⟩
theorem fr8 {w w9 : World} (h : Fr (fun k => w.heap.size ≤ k) w w9) (v0 v1 v2 v3 v4 v5 v6 v7 : Value) : Below w.heap.size w ((((((((w9.setCell ⟨w.heap.size, 0, none⟩ v0).setCell ⟨w.heap.size, 1, none⟩ v1).setCell ⟨w.heap.size, 2, none⟩ v2).setCell ⟨w.heap.size, 3, none⟩ v3).setCell ⟨w.heap.size, 4, none⟩ v4).setCell ⟨w.heap.size, 5, none⟩ v5).setCell ⟨w.heap.size, 6, none⟩ v6).setCell ⟨w.heap.size, 7, none⟩ v7) := by
  refine Fr.below (Fr.shrink (T := fun _ => False) (Fr.refl _ w) (S := fun k => w.heap.size ≤ k) ?_ (fun k h1 h2 => absurd h2 (by omega)))
  exact ((((((((h.setCell (p := ⟨w.heap.size, 0, none⟩) (.inl (Nat.le_refl _)) v0).setCell (p := ⟨w.heap.size, 1, none⟩) (.inl (Nat.le_refl _)) v1).setCell (p := ⟨w.heap.size, 2, none⟩) (.inl (Nat.le_refl _)) v2).setCell (p := ⟨w.heap.size, 3, none⟩) (.inl (Nat.le_refl _)) v3).setCell (p := ⟨w.heap.size, 4, none⟩) (.inl (Nat.le_refl _)) v4).setCell (p := ⟨w.heap.size, 5, none⟩) (.inl (Nat.le_refl _)) v5).setCell (p := ⟨w.heap.size, 6, none⟩) (.inl (Nat.le_refl _)) v6).setCell (p := ⟨w.heap.size, 7, none⟩) (.inl (Nat.le_refl _)) v7)
set_option maxHeartbeats 4000000 in
theorem edit_Decode (b : ByteArray) (hb : b.size ≤ 140737488351232) (w : World) (he : EtIs w) :
    Calls Tryd.prog 36 #[.string b] w fun e w' => e = .returned (.tuple #[.agg (decR b).1.cells, .int .i64 (decR b).2]) ∧ Below w.heap.size w w' := by
  have hlt := he.lt
  have N1 := Lib.hid (fun W => rd_num (w.heap.size + 1) b 0 false 1 hb (by decide) W)
  go_enter Tryd.func36, Tryd.ntmps36
  go_wp2_with fail
  obtain ⟨w0, hw0, hr0, hp0, hF0, he0⟩ := dec_w0 w b he
  rw [hw0]; clear hw0
  obtain ⟨k, a, bad, hk⟩ : ∃ k a bad, rdR b 0 false 1 = (k, a, bad) := ⟨_, _, _, rfl⟩
  rw [hk] at N1
  refine (N1.out _ he0 hp0 (by omega)).mono ?_; rintro e w1 ⟨rfl, hp1, hf1, he1⟩
  have hr1 := blk_fr hr0 hf1 (by omega)
  have hF1 := hF0.shrink hf1 (fun k _ h => by subst h; exact Nat.le_succ _)
  have hz1 : w.heap.size + 1 < w1.heap.size := blk_lt hp1
  clear hr0 hp0 hF0 he0 hf1
  have Hk := Lib.hid hk; clear hk
  go_upto_block 0 with (fail)
  obtain ⟨q, hq⟩ : ∃ q, q = w1.heap.size := ⟨_, rfl⟩
  have hD1 : DecW w (w1.alloc (.cells #[.int .i64 k, .int .i64 0, .int .i64 0, .int .i64 0, .int .i64 0, .int .i64 0, .int .i64 0, .string ⟨#[]⟩] 59)) (w.heap.size + 1) q b ⟨k, 0, 0, 0, 0, 0, 0, ⟨#[]⟩, a, bad⟩ :=
    ⟨blk_alloc hp1, by rw [hq]; exact blk_new _ _, blk_alloc hr1, hF1.alloc _, he1.alloc _⟩
  generalize w1.alloc (.cells #[.int .i64 k, .int .i64 0, .int .i64 0, .int .i64 0, .int .i64 0, .int .i64 0, .int .i64 0, .string ⟨#[]⟩] 59) = w2 at hD1 ⊢
  rw [← hq]
  have hqp : w.heap.size + 1 < q := by omega
  clear hq hz1 hr1 hF1 hp1 he1 N1
  go_cut [17] (fun s17 wc => DecW w wc (w.heap.size + 1) q b (dec2 b ⟨k, 0, 0, 0, 0, 0, 0, ⟨#[]⟩, a, bad⟩))
  case first =>
    have HD := Lib.hid hD1
    by_cases h3 : k = 3
    · subst h3
      clear hD1
      go_wp2_with fail
      refine (rd_cell _ b a bad hb _ HD.out.et HD.out.rd (by omega)).mono ?_; rintro e w3 ⟨rfl, hp3, hf3, he3⟩
      have D3 : DecW w w3 (w.heap.size + 1) q b ⟨3, 0, 0, 0, 0, 0, 0, ⟨#[]⟩, (rdCell b a bad).2.2.1, (rdCell b a bad).2.2.2⟩ := HD.out.call hp3 hf3 he3 rfl rfl rfl (by omega) (by omega)
      clear hp3 hf3 he3
      have D3' := Lib.hid D3
      have c3 := blk_cell D3.ed; simp only [Dst.cells] at c3
      have f3 := blk_frozen D3.ed
      clear D3
      go_wp2_with fail
      have D4 : DecW w _ (w.heap.size + 1) q b ⟨3, 0, 0, (rdCell b a bad).1, (rdCell b a bad).2.1, 0, 0, ⟨#[]⟩, (rdCell b a bad).2.2.1, (rdCell b a bad).2.2.2⟩ := (D3'.out.setE 3 (.int .i64 (rdCell b a bad).1) (x' := ⟨3, 0, 0, (rdCell b a bad).1, 0, 0, 0, ⟨#[]⟩, (rdCell b a bad).2.2.1, (rdCell b a bad).2.2.2⟩) rfl rfl rfl (by omega) (by omega) hlt).setE 4 (.int .i64 (rdCell b a bad).2.1) rfl rfl rfl (by omega) (by omega) hlt
      generalize (w3.setCell ⟨q, 3, none⟩ (.int .i64 (rdCell b a bad).1)).setCell ⟨q, 4, none⟩ (.int .i64 (rdCell b a bad).2.1) = w4 at D4 ⊢
      clear c3 f3 D3'
      have D4' := Lib.hid D4; clear D4
      refine (rd_cell _ b (rdCell b a bad).2.2.1 (rdCell b a bad).2.2.2 hb _ D4'.out.et D4'.out.rd (by omega)).mono ?_; rintro e w5 ⟨rfl, hp5, hf5, he5⟩
      have D5 : DecW w w5 (w.heap.size + 1) q b ⟨3, 0, 0, (rdCell b a bad).1, (rdCell b a bad).2.1, 0, 0, ⟨#[]⟩, (rdCell b (rdCell b a bad).2.2.1 (rdCell b a bad).2.2.2).2.2.1, (rdCell b (rdCell b a bad).2.2.1 (rdCell b a bad).2.2.2).2.2.2⟩ := D4'.out.call hp5 hf5 he5 rfl rfl rfl (by omega) (by omega)
      clear hp5 hf5 he5
      have D5' := Lib.hid D5
      have c5 := blk_cell D5.ed; simp only [Dst.cells] at c5
      have f5 := blk_frozen D5.ed
      clear D5
      go_wp2_with fail
      have D6 : DecW w _ (w.heap.size + 1) q b ⟨3, 0, 0, (rdCell b a bad).1, (rdCell b a bad).2.1, (rdCell b (rdCell b a bad).2.2.1 (rdCell b a bad).2.2.2).1, (rdCell b (rdCell b a bad).2.2.1 (rdCell b a bad).2.2.2).2.1, ⟨#[]⟩, (rdCell b (rdCell b a bad).2.2.1 (rdCell b a bad).2.2.2).2.2.1, (rdCell b (rdCell b a bad).2.2.1 (rdCell b a bad).2.2.2).2.2.2⟩ := (D5'.out.setE 5 (.int .i64 (rdCell b (rdCell b a bad).2.2.1 (rdCell b a bad).2.2.2).1) (x' := ⟨3, 0, 0, (rdCell b a bad).1, (rdCell b a bad).2.1, (rdCell b (rdCell b a bad).2.2.1 (rdCell b a bad).2.2.2).1, 0, ⟨#[]⟩, (rdCell b (rdCell b a bad).2.2.1 (rdCell b a bad).2.2.2).2.2.1, (rdCell b (rdCell b a bad).2.2.1 (rdCell b a bad).2.2.2).2.2.2⟩) rfl rfl rfl (by omega) (by omega) hlt).setE 6 (.int .i64 (rdCell b (rdCell b a bad).2.2.1 (rdCell b a bad).2.2.2).2.1) rfl rfl rfl (by omega) (by omega) hlt
      go_meet
      exact D6
    by_cases h12 : k = 1 ∨ k = 2
    · have e2 : dec2 b ⟨k, 0, 0, 0, 0, 0, 0, ⟨#[]⟩, a, bad⟩ = ⟨k, (rdCell b a bad).1, (rdCell b a bad).2.1, 0, 0, 0, 0, ⟨#[]⟩, (rdCell b a bad).2.2.1, (rdCell b a bad).2.2.2⟩ := by
        unfold dec2; rw [if_neg h3, if_pos h12]
      have E2 := Lib.hid e2; clear e2 hD1
      have D2 := HD
      rcases h12 with rfl | rfl
      all_goals
        go_wp2_with fail
        refine (rd_cell _ b a bad hb _ HD.out.et HD.out.rd (by omega)).mono ?_; rintro e w3 ⟨rfl, hp3, hf3, he3⟩
        have D3 : DecW w w3 (w.heap.size + 1) q b ⟨_, 0, 0, 0, 0, 0, 0, ⟨#[]⟩, (rdCell b a bad).2.2.1, (rdCell b a bad).2.2.2⟩ := HD.out.call hp3 hf3 he3 rfl rfl rfl (by omega) (by omega)
        clear hp3 hf3 he3
        have D3' := Lib.hid D3
        have c3 := blk_cell D3.ed; simp only [Dst.cells] at c3
        have f3 := blk_frozen D3.ed
        clear D3
        go_wp2_with fail
        have D4 : DecW w _ (w.heap.size + 1) q b ⟨_, (rdCell b a bad).1, (rdCell b a bad).2.1, 0, 0, 0, 0, ⟨#[]⟩, (rdCell b a bad).2.2.1, (rdCell b a bad).2.2.2⟩ := (D3'.out.setE 1 (.int .i64 (rdCell b a bad).1) (x' := ⟨_, (rdCell b a bad).1, 0, 0, 0, 0, 0, ⟨#[]⟩, (rdCell b a bad).2.2.1, (rdCell b a bad).2.2.2⟩) rfl rfl rfl (by omega) (by omega) hlt).setE 2 (.int .i64 (rdCell b a bad).2.1) rfl rfl rfl (by omega) (by omega) hlt
        go_meet
        rw [E2.out]; exact D4
    · have e2 : dec2 b ⟨k, 0, 0, 0, 0, 0, 0, ⟨#[]⟩, a, bad⟩ = ⟨k, 0, 0, 0, 0, 0, 0, ⟨#[]⟩, a, bad⟩ := by
        unfold dec2; rw [if_neg h3, if_neg h12]
      have E2 := Lib.hid e2; clear e2 hD1
      have h1 : ¬ k = 1 := fun h => h12 (.inl h)
      have h2 : ¬ k = 2 := fun h => h12 (.inr h)
      clear h12
      go_wp2_with fail
      go_meet
      rw [E2.out]; exact HD.out
  case rest =>
    obtain ⟨x2, hx2⟩ : ∃ x2, x2 = dec2 b ⟨k, 0, 0, 0, 0, 0, 0, ⟨#[]⟩, a, bad⟩ := ⟨_, rfl⟩
    rw [← hx2] at hcut
    have X2 := Lib.hid hx2
    clear hx2 hD1
    have HC := Lib.hid hcut
    have r2 := blk_cell hcut.rd
    have f2 := blk_frozen hcut.rd
    have c2 := blk_cell hcut.ed; simp only [Dst.cells] at c2
    have g2 := blk_frozen hcut.ed
    clear hcut
    have HR2 : Hid (decR b = dec4 b (dec3 b x2)) := by
      show decR b = _
      rw [X2.out]; unfold decR dec1; rw [Hk.out]
    by_cases hkb : x2.k = 1 ∧ x2.bad = false
    · obtain ⟨hk1, hbd⟩ := hkb
      obtain ⟨x3, hx3⟩ : ∃ x3, x3 = dec3 b x2 := ⟨_, rfl⟩
      have e3 : x3 = ⟨x2.k, x2.ar, x2.ac, x2.fr, x2.fc, x2.tr, x2.tc, (cutR b x2.a 300).1, (cutR b x2.a 300).2.1, (cutR b x2.a 300).2.2 != 0⟩ := by rw [hx3]; unfold dec3; rw [if_pos ⟨hk1, hbd⟩]
      have HR4 : Hid (decR b = dec4 b x3) := by show decR b = _; rw [HR2.out, hx3]
      have E3 := Lib.hid e3
      clear hx3 e3
      go_wp2_with fail
      refine (pack_Cut _ _ _ hb _ HC.out.et).mono ?_; rintro e w5 ⟨rfl, hb5⟩
      have HD5 : DecW w w5 (w.heap.size + 1) q b x2 := ⟨blk_below HC.out.rd hb5, blk_below HC.out.ed hb5, blk_below HC.out.res hb5, HC.out.fr.trans (Fr.of_below hb5), HC.out.et.below hb5⟩
      clear hb5 r2 f2 c2 g2
      have r5 := blk_cell HD5.rd
      have f5 := blk_frozen HD5.rd
      have c5 := blk_cell HD5.ed; simp only [Dst.cells] at c5
      have g5 := blk_frozen HD5.ed
      have H5 := Lib.hid HD5
      clear HD5
      go_upto_region 13 with (fail)
      have D6 : DecW w (((w5.setCell ⟨q, 7, none⟩ (.string (cutR b x2.a 300).1)).setCell ⟨w.heap.size + 1, 1, none⟩ (.int .i64 (cutR b x2.a 300).2.1)).setCell ⟨w.heap.size + 1, 2, none⟩ (.bool ((cutR b x2.a 300).2.2 != 0))) (w.heap.size + 1) q b x3 := by
        have h1 := H5.out.setE 7 (.string (cutR b x2.a 300).1) (x' := ⟨x2.k, x2.ar, x2.ac, x2.fr, x2.fc, x2.tr, x2.tc, (cutR b x2.a 300).1, x2.a, x2.bad⟩) rfl rfl rfl (by omega) (by omega) hlt
        rw [E3.out]
        exact h1.setR (cutR b x2.a 300).2.1 ((cutR b x2.a 300).2.2 != 0) rfl rfl rfl (by omega) (by omega) hlt
      generalize (((w5.setCell ⟨q, 7, none⟩ (.string (cutR b x2.a 300).1)).setCell ⟨w.heap.size + 1, 1, none⟩ (.int .i64 (cutR b x2.a 300).2.1)).setCell ⟨w.heap.size + 1, 2, none⟩ (.bool ((cutR b x2.a 300).2.2 != 0))) = w6 at D6 ⊢
      clear r5 f5 c5 g5
      have FD := Lib.hid D6
      clear D6 hk1 hbd
      have cr := blk_cell FD.out.res
      have frz := blk_frozen FD.out.res
      have ce := blk_cell FD.out.ed
      simp only [Dst.cells] at ce
      have rr := blk_cell FD.out.rd
      have ffr := FD.out.fr
      have Ff := Lib.hid ffr
      clear ffr
      by_cases hbad : x3.bad = true
      · have HR0 : Hid (decR b = (⟨0, 0, 0, 0, 0, 0, 0, ⟨#[]⟩, 0, false⟩, 11)) := by rw [HR4.out]; unfold dec4; rw [if_pos (.inl hbad)]; exact rfl
        go_wp2_with fail
        exact bodyPost_ret (v := .tuple #[.agg #[.int .i64 0, .int .i64 0, .int .i64 0, .int .i64 0, .int .i64 0, .int .i64 0, .int .i64 0, .string ⟨#[]⟩], .int .i64 11]) (by simp [results, Tryd.results36, go_sem, cr]) rfl ⟨by rw [HR0.out]; rfl, fr8 Ff.out _ _ _ _ _ _ _ _⟩
      have hbad' : x3.bad = false := by cases h : x3.bad with | true => exact absurd h hbad | false => rfl
      clear hbad
      by_cases hat : x3.a = (b.size : Int)
      rotate_left
      · have HR0 : Hid (decR b = (⟨0, 0, 0, 0, 0, 0, 0, ⟨#[]⟩, 0, false⟩, 11)) := by rw [HR4.out]; unfold dec4; rw [if_pos (.inr (.inl hat))]; exact rfl
        have hat1 : (x3.a != (b.size : Int)) = true := by rw [bne_iff_ne]; exact hat
        have hat2 : (x3.a == (b.size : Int)) = false := by rw [beq_eq_false_iff_ne]; exact hat
        go_wp2_with fail
        exact bodyPost_ret (v := .tuple #[.agg #[.int .i64 0, .int .i64 0, .int .i64 0, .int .i64 0, .int .i64 0, .int .i64 0, .int .i64 0, .string ⟨#[]⟩], .int .i64 11]) (by simp [results, Tryd.results36, go_sem, cr]) rfl ⟨by rw [HR0.out]; rfl, fr8 Ff.out _ _ _ _ _ _ _ _⟩
      have hat1 : (x3.a != (b.size : Int)) = false := by rw [bne_eq_false_iff_eq]; exact hat
      have Hat := Lib.hid hat
      clear hat
      cases hg : goodE x3.k x3.ar x3.ac x3.fr x3.fc x3.tr x3.tc x3.s with
      | false =>
        have HR0 : Hid (decR b = (⟨0, 0, 0, 0, 0, 0, 0, ⟨#[]⟩, 0, false⟩, 11)) := by rw [HR4.out]; unfold dec4; rw [if_pos (.inr (.inr hg))]; exact rfl
        go_wp2_with fail
        refine (edit_Good _ _ _ _ _ _ _ _ _).mono ?_; rintro e w9 ⟨rfl, hb9⟩
        have cr9 := blk_cell (blk_below FD.out.res hb9)
        have frz9 := blk_frozen (blk_below FD.out.res hb9)
        have Ff9 := Lib.hid (Ff.out.trans (Fr.of_below hb9))
        clear cr frz ce rr hb9
        go_wp2_with fail
        exact bodyPost_ret (v := .tuple #[.agg #[.int .i64 0, .int .i64 0, .int .i64 0, .int .i64 0, .int .i64 0, .int .i64 0, .int .i64 0, .string ⟨#[]⟩], .int .i64 11]) (by simp [results, Tryd.results36, go_sem, cr9]) rfl ⟨by rw [HR0.out]; rfl, fr8 Ff9.out _ _ _ _ _ _ _ _⟩
      | true =>
        have HR0 : Hid (decR b = (x3, 0)) := by rw [HR4.out]; unfold dec4; rw [if_neg (by rw [hbad', hg]; simp [Hat.out])]; exact rfl
        go_wp2_with fail
        refine (edit_Good _ _ _ _ _ _ _ _ _).mono ?_; rintro e w9 ⟨rfl, hb9⟩
        have cr9 := blk_cell (blk_below FD.out.res hb9)
        have frz9 := blk_frozen (blk_below FD.out.res hb9)
        have ce9 := blk_cell (blk_below FD.out.ed hb9)
        simp only [Dst.cells] at ce9
        have Ff9 := Lib.hid (Ff.out.trans (Fr.of_below hb9))
        clear cr frz ce rr hb9
        go_wp2_with fail
        exact bodyPost_ret (v := .tuple #[.agg x3.cells, .int .i64 0]) (by simp [results, Tryd.results36, go_sem, cr9, Dst.cells]) rfl ⟨by rw [HR0.out], fr8 Ff9.out _ _ _ _ _ _ _ _⟩
    · obtain ⟨x3, hx3⟩ : ∃ x3, x3 = dec3 b x2 := ⟨_, rfl⟩
      have e3 : x3 = x2 := by rw [hx3]; unfold dec3; rw [if_neg hkb]
      have HR4 : Hid (decR b = dec4 b x3) := by show decR b = _; rw [HR2.out, hx3]
      subst e3
      have FD := HC
      clear hx3 r2 f2 c2 g2
      by_cases hk1 : x3.k = 1
      · have hbd : x3.bad = true := by cases h : x3.bad with | true => rfl | false => exact absurd ⟨hk1, h⟩ hkb
        clear hkb
        have cr := blk_cell FD.out.res
        have frz := blk_frozen FD.out.res
        have ce := blk_cell FD.out.ed
        simp only [Dst.cells] at ce
        have rr := blk_cell FD.out.rd
        have ffr := FD.out.fr
        have Ff := Lib.hid ffr
        clear ffr
        have hbad := hbd
        have HR0 : Hid (decR b = (⟨0, 0, 0, 0, 0, 0, 0, ⟨#[]⟩, 0, false⟩, 11)) := by rw [HR4.out]; unfold dec4; rw [if_pos (.inl hbad)]; exact rfl
        go_wp2_with fail
        exact bodyPost_ret (v := .tuple #[.agg #[.int .i64 0, .int .i64 0, .int .i64 0, .int .i64 0, .int .i64 0, .int .i64 0, .int .i64 0, .string ⟨#[]⟩], .int .i64 11]) (by simp [results, Tryd.results36, go_sem, cr]) rfl ⟨by rw [HR0.out]; rfl, fr8 Ff.out _ _ _ _ _ _ _ _⟩
      · clear hkb
        have cr := blk_cell FD.out.res
        have frz := blk_frozen FD.out.res
        have ce := blk_cell FD.out.ed
        simp only [Dst.cells] at ce
        have rr := blk_cell FD.out.rd
        have ffr := FD.out.fr
        have Ff := Lib.hid ffr
        clear ffr
        by_cases hbad : x3.bad = true
        · have HR0 : Hid (decR b = (⟨0, 0, 0, 0, 0, 0, 0, ⟨#[]⟩, 0, false⟩, 11)) := by rw [HR4.out]; unfold dec4; rw [if_pos (.inl hbad)]; exact rfl
          go_wp2_with fail
          exact bodyPost_ret (v := .tuple #[.agg #[.int .i64 0, .int .i64 0, .int .i64 0, .int .i64 0, .int .i64 0, .int .i64 0, .int .i64 0, .string ⟨#[]⟩], .int .i64 11]) (by simp [results, Tryd.results36, go_sem, cr]) rfl ⟨by rw [HR0.out]; rfl, fr8 Ff.out _ _ _ _ _ _ _ _⟩
        have hbad' : x3.bad = false := by cases h : x3.bad with | true => exact absurd h hbad | false => rfl
        clear hbad
        by_cases hat : x3.a = (b.size : Int)
        rotate_left
        · have HR0 : Hid (decR b = (⟨0, 0, 0, 0, 0, 0, 0, ⟨#[]⟩, 0, false⟩, 11)) := by rw [HR4.out]; unfold dec4; rw [if_pos (.inr (.inl hat))]; exact rfl
          have hat1 : (x3.a != (b.size : Int)) = true := by rw [bne_iff_ne]; exact hat
          have hat2 : (x3.a == (b.size : Int)) = false := by rw [beq_eq_false_iff_ne]; exact hat
          go_wp2_with fail
          exact bodyPost_ret (v := .tuple #[.agg #[.int .i64 0, .int .i64 0, .int .i64 0, .int .i64 0, .int .i64 0, .int .i64 0, .int .i64 0, .string ⟨#[]⟩], .int .i64 11]) (by simp [results, Tryd.results36, go_sem, cr]) rfl ⟨by rw [HR0.out]; rfl, fr8 Ff.out _ _ _ _ _ _ _ _⟩
        have hat1 : (x3.a != (b.size : Int)) = false := by rw [bne_eq_false_iff_eq]; exact hat
        have Hat := Lib.hid hat
        clear hat
        cases hg : goodE x3.k x3.ar x3.ac x3.fr x3.fc x3.tr x3.tc x3.s with
        | false =>
          have HR0 : Hid (decR b = (⟨0, 0, 0, 0, 0, 0, 0, ⟨#[]⟩, 0, false⟩, 11)) := by rw [HR4.out]; unfold dec4; rw [if_pos (.inr (.inr hg))]; exact rfl
          go_wp2_with fail
          refine (edit_Good _ _ _ _ _ _ _ _ _).mono ?_; rintro e w9 ⟨rfl, hb9⟩
          have cr9 := blk_cell (blk_below FD.out.res hb9)
          have frz9 := blk_frozen (blk_below FD.out.res hb9)
          have Ff9 := Lib.hid (Ff.out.trans (Fr.of_below hb9))
          clear cr frz ce rr hb9
          go_wp2_with fail
          exact bodyPost_ret (v := .tuple #[.agg #[.int .i64 0, .int .i64 0, .int .i64 0, .int .i64 0, .int .i64 0, .int .i64 0, .int .i64 0, .string ⟨#[]⟩], .int .i64 11]) (by simp [results, Tryd.results36, go_sem, cr9]) rfl ⟨by rw [HR0.out]; rfl, fr8 Ff9.out _ _ _ _ _ _ _ _⟩
        | true =>
          have HR0 : Hid (decR b = (x3, 0)) := by rw [HR4.out]; unfold dec4; rw [if_neg (by rw [hbad', hg]; simp [Hat.out])]; exact rfl
          go_wp2_with fail
          refine (edit_Good _ _ _ _ _ _ _ _ _).mono ?_; rintro e w9 ⟨rfl, hb9⟩
          have cr9 := blk_cell (blk_below FD.out.res hb9)
          have frz9 := blk_frozen (blk_below FD.out.res hb9)
          have ce9 := blk_cell (blk_below FD.out.ed hb9)
          simp only [Dst.cells] at ce9
          have Ff9 := Lib.hid (Ff.out.trans (Fr.of_below hb9))
          clear cr frz ce rr hb9
          go_wp2_with fail
          exact bodyPost_ret (v := .tuple #[.agg x3.cells, .int .i64 0]) (by simp [results, Tryd.results36, go_sem, cr9, Dst.cells]) rfl ⟨by rw [HR0.out], fr8 Ff9.out _ _ _ _ _ _ _ _⟩
end Go.Proofs.YtlpdanghcdajmaaDoor
