/- The walk of pannierref17.Decode: the same answer as package edit's. -/
import Derived.Test.YtlpdanghcdajmaaDoorRe
namespace Go.Proofs.YtlpdanghcdajmaaDoor
open Go.RowKit

def zD : Dst := ⟨0, 0, 0, 0, 0, 0, 0, ⟨#[]⟩, 0, false⟩
theorem dec4_bad {b : ByteArray} {x : Dst} (h : x.bad = true) : dec4 b x = (zD, 11) := by unfold dec4; rw [if_pos (.inl h)]; rfl
theorem dec4_at {b : ByteArray} {x : Dst} (h : x.a ≠ b.size) : dec4 b x = (zD, 11) := by unfold dec4; rw [if_pos (.inr (.inl h))]; rfl
theorem dec4_no {b : ByteArray} {x : Dst} (h : goodE x.k x.ar x.ac x.fr x.fc x.tr x.tc x.s = false) : dec4 b x = (zD, 11) := by unfold dec4; rw [if_pos (.inr (.inr h))]; rfl
theorem dec4_ok {b : ByteArray} {x : Dst} (h1 : x.bad = false) (h2 : x.a = b.size) (h3 : goodE x.k x.ar x.ac x.fr x.fc x.tr x.tc x.s = true) : dec4 b x = (x, 0) := by unfold dec4; rw [if_neg (by rw [h1, h3]; simp [h2])]
theorem rdR_first_out {b : ByteArray} (h : ¬ 0 < b.size) : (rdR b 0 false 1).2.2 = true ∧ (rdR b 0 false 1).1 = 0 := by
  have := takeR1_out (b := b) (i := 0) h
  have e : ((0 : Nat) : Int) = 0 := rfl
  rw [e] at this
  unfold rdR; simp only [this]; exact ⟨rfl, rfl⟩
theorem rdR_first_in {b : ByteArray} (h : 0 < b.size) : rdR b 0 false 1 = (byI b 0, 1, false) := by
  have := takeR1_in (b := b) (i := 0) h
  have e : ((0 : Nat) : Int) = 0 := rfl
  rw [e] at this
  unfold rdR; rw [this]; rfl
theorem dec1_in {b : ByteArray} (h : 0 < b.size) : dec1 b = ⟨byI b 0, 0, 0, 0, 0, 0, 0, ⟨#[]⟩, 1, false⟩ := by unfold dec1; rw [rdR_first_in h]
/-- Bad stays bad. -/
theorem dec2_bad {b : ByteArray} {x : Dst} (h : x.bad = true) : (dec2 b x).bad = true := by
  unfold dec2
  rw [h]
  split
  · have : (rdCell b x.a true).2.2.2 = true := rdCell_bad b _
    simp only [this]; exact rdCell_bad _ _
  · split
    · exact rdCell_bad b _
    · rfl
theorem dec3_bad {b : ByteArray} {x : Dst} (h : x.bad = true) : (dec3 b x).bad = true := by
  unfold dec3; rw [if_neg (by rw [h]; simp)]; exact h
theorem decR_short {b : ByteArray} (h : b.size < 4) : decR b = (zD, 11) := by
  unfold decR
  by_cases h0 : 0 < b.size
  · rw [dec1_in h0]
    by_cases hk : byI b 0 = 3
    · refine dec4_bad (dec3_bad ?_)
      have : (rdCell b 1 false).2.2.2 = true := rdCell_out (i := 1) (by omega)
      unfold dec2; rw [if_pos hk]; simp only [this]; exact rdCell_bad _ _
    · by_cases hk' : byI b 0 = 1 ∨ byI b 0 = 2
      · refine dec4_bad (dec3_bad ?_)
        have : (rdCell b 1 false).2.2.2 = true := rdCell_out (i := 1) (by omega)
        unfold dec2; rw [if_neg hk, if_pos hk']; exact this
      · have e : dec3 b (dec2 b ⟨byI b 0, 0, 0, 0, 0, 0, 0, ⟨#[]⟩, 1, false⟩) = ⟨byI b 0, 0, 0, 0, 0, 0, 0, ⟨#[]⟩, 1, false⟩ := by
          unfold dec2; rw [if_neg hk, if_neg hk']; unfold dec3; rw [if_neg (fun hx => hk' (.inl hx.1))]
        rw [e]
        refine dec4_no ?_
        unfold goodE
        rw [if_neg (fun hx => hk' (.inl hx)), if_neg (fun hx => hk' (.inr hx)), if_neg hk]
  · have := (rdR_first_out h0).1
    exact dec4_bad (dec3_bad (dec2_bad (rdR_first_out h0).1))
theorem decR_else {b : ByteArray} (h : 0 < b.size) (h1 : byI b 0 ≠ 1) (h2 : byI b 0 ≠ 2) (h3 : byI b 0 ≠ 3) : decR b = (zD, 11) := by
  unfold decR
  rw [dec1_in h]
  have hk' : ¬ (byI b 0 = 1 ∨ byI b 0 = 2) := by omega
  have e : dec3 b (dec2 b ⟨byI b 0, 0, 0, 0, 0, 0, 0, ⟨#[]⟩, 1, false⟩) = ⟨byI b 0, 0, 0, 0, 0, 0, 0, ⟨#[]⟩, 1, false⟩ := by
    unfold dec2; rw [if_neg h3, if_neg hk']; unfold dec3; rw [if_neg (fun hx => h1 hx.1)]
  rw [e]
  refine dec4_no ?_
  unfold goodE
  rw [if_neg h1, if_neg h2, if_neg h3]
theorem decR_1 {b : ByteArray} (h : 4 ≤ b.size) (hk : byI b 0 = 1) : decR b = dec4 b ⟨1, byI b 1 * 256 + byI b 2, byI b 3, 0, 0, 0, 0, (cutR b 4 300).1, (cutR b 4 300).2.1, (cutR b 4 300).2.2 != 0⟩ := by
  unfold decR
  rw [dec1_in (by omega), hk]
  have hc : rdCell b 1 false = (byI b 1 * 256 + byI b 2, byI b 3, 4, false) := rdCell_in (i := 1) (by omega)
  congr 1
  unfold dec2; rw [if_neg (by decide), if_pos (.inl rfl)]; simp only [hc]
  unfold dec3; rw [if_pos ⟨rfl, rfl⟩]
theorem decR_2 {b : ByteArray} (h : 4 ≤ b.size) (hk : byI b 0 = 2) : decR b = dec4 b ⟨2, byI b 1 * 256 + byI b 2, byI b 3, 0, 0, 0, 0, ⟨#[]⟩, 4, false⟩ := by
  unfold decR
  rw [dec1_in (by omega), hk]
  have hc : rdCell b 1 false = (byI b 1 * 256 + byI b 2, byI b 3, 4, false) := rdCell_in (i := 1) (by omega)
  congr 1
  unfold dec2; rw [if_neg (by decide), if_pos (.inr rfl)]; simp only [hc]
  unfold dec3; rw [if_neg (by simp)]
theorem decR_3 {b : ByteArray} (h : 7 ≤ b.size) (hk : byI b 0 = 3) : decR b = dec4 b ⟨3, 0, 0, byI b 1 * 256 + byI b 2, byI b 3, byI b 4 * 256 + byI b 5, byI b 6, ⟨#[]⟩, 7, false⟩ := by
  unfold decR
  rw [dec1_in (by omega), hk]
  have hc : rdCell b 1 false = (byI b 1 * 256 + byI b 2, byI b 3, 4, false) := rdCell_in (i := 1) (by omega)
  have hd : rdCell b 4 false = (byI b 4 * 256 + byI b 5, byI b 6, 7, false) := rdCell_in (i := 4) (by omega)
  congr 1
  unfold dec2; rw [if_pos rfl]; simp only [hc, hd]
  unfold dec3; rw [if_neg (by simp)]
theorem decR_3s {b : ByteArray} (h : 4 ≤ b.size) (h7 : b.size < 7) (hk : byI b 0 = 3) : decR b = (zD, 11) := by
  unfold decR
  rw [dec1_in (by omega), hk]
  have hc : rdCell b 1 false = (byI b 1 * 256 + byI b 2, byI b 3, 4, false) := rdCell_in (i := 1) (by omega)
  have hd : (rdCell b 4 false).2.2.2 = true := rdCell_out (i := 4) (by omega)
  refine dec4_bad (dec3_bad ?_)
  unfold dec2; rw [if_pos rfl]; simp only [hc]; exact hd

set_option maxRecDepth 100000 in
set_option maxHeartbeats 2000000 in
theorem ref17_Decode_short (b : ByteArray) (hb : b.size ≤ 140737488351232) (h : b.size < 4) (w : World) :
    Calls Tryd.prog 37 #[.string b] w fun e w' => e = .returned (.tuple #[.agg #[.int .i64 0, .int .i64 0, .int .i64 0, .int .i64 0, .int .i64 0, .int .i64 0, .int .i64 0, .string ⟨#[]⟩], .int .i64 11]) ∧ Below w.heap.size w w' := by
  have h1 : (b.size : Int) < 4 := by omega
  go_enter Tryd.func37, Tryd.ntmps37
  go_wp2_with fail
  exact bodyPost_ret (v := .tuple #[.agg #[.int .i64 0, .int .i64 0, .int .i64 0, .int .i64 0, .int .i64 0, .int .i64 0, .int .i64 0, .string ⟨#[]⟩], .int .i64 11]) (by simp [results, Tryd.results37, go_sem]) rfl ⟨rfl, below_a1 _ _⟩

theorem w0_byI {b : ByteArray} (h : 0 < b.size) : wrap64 (b[0].toNat : Int) = byI b 0 := by
  have e : b.data.toList.getD 0 0 = b[0] := getD_byte b 0 h
  have := b[0].toNat_lt
  unfold byI; rw [e]; exact w64 _ (by omega) (by omega)

set_option maxRecDepth 100000 in
set_option maxHeartbeats 2000000 in
theorem ref17_Decode_else (b : ByteArray) (hb : b.size ≤ 140737488351232) (h : 4 ≤ b.size) (h1 : byI b 0 ≠ 1) (h2 : byI b 0 ≠ 2) (h3 : byI b 0 ≠ 3) (w : World) :
    Calls Tryd.prog 37 #[.string b] w fun e w' => e = .returned (.tuple #[.agg #[.int .i64 0, .int .i64 0, .int .i64 0, .int .i64 0, .int .i64 0, .int .i64 0, .int .i64 0, .string ⟨#[]⟩], .int .i64 11]) ∧ Below w.heap.size w w' := by
  have g1 : ¬ (b.size : Int) < 4 := by omega
  have g0 : (0 : Int) < (b.size : Int) := by omega
  have g2 : 0 < b.size := by omega
  have ew := w0_byI g2
  have n1 : ¬ wrap64 (b[0].toNat : Int) = 1 := fun h => h1 (ew.symm.trans h)
  have m1 : (wrap64 (b[0].toNat : Int) == 1) = false := by rw [beq_eq_false_iff_ne]; exact n1
  have n2 : ¬ wrap64 (b[0].toNat : Int) = 2 := fun h => h2 (ew.symm.trans h)
  have m2 : (wrap64 (b[0].toNat : Int) == 2) = false := by rw [beq_eq_false_iff_ne]; exact n2
  have n3 : ¬ wrap64 (b[0].toNat : Int) = 3 := fun h => h3 (ew.symm.trans h)
  have m3 : (wrap64 (b[0].toNat : Int) == 3) = false := by rw [beq_eq_false_iff_ne]; exact n3
  clear ew
  go_enter Tryd.func37, Tryd.ntmps37
  go_wp2_with fail
  exact bodyPost_ret (v := .tuple #[.agg #[.int .i64 0, .int .i64 0, .int .i64 0, .int .i64 0, .int .i64 0, .int .i64 0, .int .i64 0, .string ⟨#[]⟩], .int .i64 11]) (by simp [results, Tryd.results37, go_sem]) rfl ⟨rfl, below_a2 _ _ _⟩

theorem rd17_w0 (w : World) (k : Int) : ∃ w0, (w.alloc (.cells #[.int .i64 0, .int .i64 0, .int .i64 0, .int .i64 0, .int .i64 0, .int .i64 0, .int .i64 0, .string ⟨#[]⟩] 59)).alloc (.cells #[.int .i64 k, .int .i64 0, .int .i64 0, .int .i64 0, .int .i64 0, .int .i64 0, .int .i64 0, .string ⟨#[]⟩] 59) = w0 ∧ w0.heap[w.heap.size]? = some (.cells #[.int .i64 0, .int .i64 0, .int .i64 0, .int .i64 0, .int .i64 0, .int .i64 0, .int .i64 0, .string ⟨#[]⟩] 59 (0, 0)) ∧ w0.heap[w.heap.size + 1]? = some (.cells #[.int .i64 k, .int .i64 0, .int .i64 0, .int .i64 0, .int .i64 0, .int .i64 0, .int .i64 0, .string ⟨#[]⟩] 59 (0, 0)) ∧ Fr (fun k => w.heap.size ≤ k) w w0 :=
  ⟨_, rfl, blk_alloc (blk_new _ _), by have h := blk_new (w.alloc (.cells #[.int .i64 0, .int .i64 0, .int .i64 0, .int .i64 0, .int .i64 0, .int .i64 0, .int .i64 0, .string ⟨#[]⟩] 59)) (.cells #[.int .i64 k, .int .i64 0, .int .i64 0, .int .i64 0, .int .i64 0, .int .i64 0, .int .i64 0, .string ⟨#[]⟩] 59); simpa using h, ((Fr.refl (fun k => w.heap.size ≤ k) w).alloc _).alloc _⟩

theorem ref17_addr1 (b : ByteArray) (h : 4 ≤ b.size) (hb : b.size ≤ 140737488351232) (w : World) :
    Calls Tryd.prog 70 #[.string b, .int .i64 1] w fun e w' => e = .returned (.agg #[.int .i64 (byI b 1 * 256 + byI b 2), .int .i64 (byI b 3)]) ∧ Below w.heap.size w w' :=
  ref17_addr b 1 (by omega) hb w
theorem ref17_addr4 (b : ByteArray) (h : 7 ≤ b.size) (hb : b.size ≤ 140737488351232) (w : World) :
    Calls Tryd.prog 70 #[.string b, .int .i64 4] w fun e w' => e = .returned (.agg #[.int .i64 (byI b 4 * 256 + byI b 5), .int .i64 (byI b 6)]) ∧ Below w.heap.size w w' :=
  ref17_addr b 4 (by omega) hb w

set_option maxRecDepth 100000 in
set_option maxHeartbeats 4000000 in
theorem ref17_Decode_1 (b : ByteArray) (hb : b.size ≤ 140737488351232) (h : 4 ≤ b.size) (hk : byI b 0 = 1) (w : World) :
    Calls Tryd.prog 37 #[.string b] w fun e w' => e = .returned (.tuple #[.agg (decR b).1.cells, .int .i64 (decR b).2]) ∧ Below w.heap.size w w' := by
  have HR := Lib.hid (decR_1 h hk)
  have A1 := Lib.hid (ref17_addr1 b h hb)
  have C1 := Lib.hid (ref16_Cut b 4 300 hb)
  obtain ⟨s, t, x, hc⟩ : ∃ s t x, cutR b 4 300 = (s, t, x) := ⟨_, _, _, rfl⟩
  rw [hc] at HR C1
  clear hc
  have g1 : ¬ (b.size : Int) < 4 := by omega
  have g0 : (0 : Int) < (b.size : Int) := by omega
  have g2 : 0 < b.size := by omega
  have ew := w0_byI g2
  have e0 : wrap64 (b[0].toNat : Int) = 1 := ew.trans hk
  clear ew
  go_enter Tryd.func37, Tryd.ntmps37
  go_wp2_with fail
  obtain ⟨w0, hw0, hZ, hE, hF⟩ := rd17_w0 w 1
  rw [hw0]; clear hw0
  refine (C1.out _).mono ?_; rintro e w1 ⟨rfl, rfl⟩
  by_cases hx : x = 0
  rotate_left
  · have hx1 : (x != 0) = true := by rw [bne_iff_ne]; exact hx
    have HR0 : Hid (decR b = (zD, 11)) := by rw [HR.out]; exact dec4_bad (by simpa using hx)
    have cz := blk_cell hZ
    have fz := blk_frozen hZ
    have HF := Lib.hid hF
    clear hE hZ hF
    go_wp2_with fail
    exact bodyPost_ret (v := .tuple #[.agg #[.int .i64 0, .int .i64 0, .int .i64 0, .int .i64 0, .int .i64 0, .int .i64 0, .int .i64 0, .string ⟨#[]⟩], .int .i64 11]) (by simp [results, Tryd.results37, go_sem, cz]) rfl ⟨by rw [HR0.out]; rfl, fr8 HF.out _ _ _ _ _ _ _ _⟩
  subst hx
  by_cases hat : t = (b.size : Int)
  rotate_left
  · have hat1 : (t != (b.size : Int)) = true := by rw [bne_iff_ne]; exact hat
    have hat2 : (t == (b.size : Int)) = false := by rw [beq_eq_false_iff_ne]; exact hat
    have HR0 : Hid (decR b = (zD, 11)) := by rw [HR.out]; exact dec4_at hat
    have cz := blk_cell hZ
    have fz := blk_frozen hZ
    have HF := Lib.hid hF
    clear hE hZ hF
    go_wp2_with fail
    exact bodyPost_ret (v := .tuple #[.agg #[.int .i64 0, .int .i64 0, .int .i64 0, .int .i64 0, .int .i64 0, .int .i64 0, .int .i64 0, .string ⟨#[]⟩], .int .i64 11]) (by simp [results, Tryd.results37, go_sem, cz]) rfl ⟨by rw [HR0.out]; rfl, fr8 HF.out _ _ _ _ _ _ _ _⟩
  subst hat
  have ce := blk_cell hE
  have fe := blk_frozen hE
  have hl := blk_lt hE
  go_wp2_with fail
  refine (A1.out _).mono ?_; rintro e w2 ⟨rfl, hb2⟩
  have ce2 := blk_cell (blk_below hE hb2)
  have fe2 := blk_frozen (blk_below hE hb2)
  clear ce fe
  have HR_ := HR
  go_upto_region 14 with (fail)
  have hZ3 : (((w2.setCell ⟨w.heap.size + 1, 1, none⟩ (.int .i64 (byI b 1 * 256 + byI b 2))).setCell ⟨w.heap.size + 1, 2, none⟩ (.int .i64 (byI b 3))).setCell ⟨w.heap.size + 1, 7, none⟩ (.string s)).heap[w.heap.size]? = some (.cells #[.int .i64 0, .int .i64 0, .int .i64 0, .int .i64 0, .int .i64 0, .int .i64 0, .int .i64 0, .string ⟨#[]⟩] 59 (0, 0)) := blk_set_far (blk_set_far (blk_set_far (blk_below hZ hb2) (by simp) _) (by simp) _) (by simp) _
  have hE3 : (((w2.setCell ⟨w.heap.size + 1, 1, none⟩ (.int .i64 (byI b 1 * 256 + byI b 2))).setCell ⟨w.heap.size + 1, 2, none⟩ (.int .i64 (byI b 3))).setCell ⟨w.heap.size + 1, 7, none⟩ (.string s)).heap[w.heap.size + 1]? = some (.cells #[.int .i64 1, .int .i64 (byI b 1 * 256 + byI b 2), .int .i64 (byI b 3), .int .i64 0, .int .i64 0, .int .i64 0, .int .i64 0, .string s] 59 (0, 0)) := by have h := blk_set (blk_set (blk_set (blk_below hE hb2) 1 (.int .i64 (byI b 1 * 256 + byI b 2))) 2 (.int .i64 (byI b 3))) 7 (.string s); simpa using h
  have hF3 : Fr (fun k => w.heap.size ≤ k) w (((w2.setCell ⟨w.heap.size + 1, 1, none⟩ (.int .i64 (byI b 1 * 256 + byI b 2))).setCell ⟨w.heap.size + 1, 2, none⟩ (.int .i64 (byI b 3))).setCell ⟨w.heap.size + 1, 7, none⟩ (.string s)) := (((hF.trans (Fr.of_below hb2)).setCell (p := ⟨w.heap.size + 1, 1, none⟩) (.inl (Nat.le_succ _)) (.int .i64 (byI b 1 * 256 + byI b 2))).setCell (p := ⟨w.heap.size + 1, 2, none⟩) (.inl (Nat.le_succ _)) (.int .i64 (byI b 3))).setCell (p := ⟨w.heap.size + 1, 7, none⟩) (.inl (Nat.le_succ _)) (.string s)
  generalize (((w2.setCell ⟨w.heap.size + 1, 1, none⟩ (.int .i64 (byI b 1 * 256 + byI b 2))).setCell ⟨w.heap.size + 1, 2, none⟩ (.int .i64 (byI b 3))).setCell ⟨w.heap.size + 1, 7, none⟩ (.string s)) = w3 at hZ3 hE3 hF3 ⊢
  clear ce2 fe2 hZ hE hF hb2
  have hZ := hZ3
  have hE := hE3
  have hF := hF3
  clear hZ3 hE3 hF3
  have ce := blk_cell hE
  have cz := blk_cell hZ
  have fz := blk_frozen hZ
  have HE := Lib.hid hE
  have HZ := Lib.hid hZ
  have HF := Lib.hid hF
  clear hE hZ hF
  cases hg : goodE 1 (byI b 1 * 256 + byI b 2) (byI b 3) 0 0 0 0 s with
  | false =>
    have HR0 : Hid (decR b = (zD, 11)) := by rw [HR.out]; exact dec4_no hg
    go_wp2_with fail
    refine (ref17_Good _ _ _ _ _ _ _ _ _).mono ?_; rintro e w9 ⟨rfl, hb9⟩
    have cz9 := blk_cell (blk_below HZ.out hb9)
    have fz9 := blk_frozen (blk_below HZ.out hb9)
    have HF9 := Lib.hid (HF.out.trans (Fr.of_below hb9))
    clear ce cz fz hb9
    go_wp2_with fail
    exact bodyPost_ret (v := .tuple #[.agg #[.int .i64 0, .int .i64 0, .int .i64 0, .int .i64 0, .int .i64 0, .int .i64 0, .int .i64 0, .string ⟨#[]⟩], .int .i64 11]) (by simp [results, Tryd.results37, go_sem, cz9]) rfl ⟨by rw [HR0.out]; rfl, fr8 HF9.out _ _ _ _ _ _ _ _⟩
  | true =>
    have HR0 : Hid (decR b = (⟨1, (byI b 1 * 256 + byI b 2), (byI b 3), 0, 0, 0, 0, s, (b.size : Int), false⟩, 0)) := by rw [HR.out]; exact dec4_ok rfl rfl hg
    go_wp2_with fail
    refine (ref17_Good _ _ _ _ _ _ _ _ _).mono ?_; rintro e w9 ⟨rfl, hb9⟩
    have ce9 := blk_cell (blk_below HE.out hb9)
    have cz9 := blk_cell (blk_below HZ.out hb9)
    have fz9 := blk_frozen (blk_below HZ.out hb9)
    have HF9 := Lib.hid (HF.out.trans (Fr.of_below hb9))
    clear ce cz fz hb9
    go_wp2_with fail
    exact bodyPost_ret (v := .tuple #[.agg #[.int .i64 1, .int .i64 (byI b 1 * 256 + byI b 2), .int .i64 (byI b 3), .int .i64 0, .int .i64 0, .int .i64 0, .int .i64 0, .string s], .int .i64 0]) (by simp [results, Tryd.results37, go_sem, cz9]) rfl ⟨by rw [HR0.out]; rfl, fr8 HF9.out _ _ _ _ _ _ _ _⟩

set_option maxRecDepth 100000 in
set_option maxHeartbeats 4000000 in
theorem ref17_Decode_2 (b : ByteArray) (hb : b.size ≤ 140737488351232) (h : b.size = 4) (hk : byI b 0 = 2) (w : World) :
    Calls Tryd.prog 37 #[.string b] w fun e w' => e = .returned (.tuple #[.agg (decR b).1.cells, .int .i64 (decR b).2]) ∧ Below w.heap.size w w' := by
  have HR := Lib.hid (decR_2 (by omega) hk)
  have A1 := Lib.hid (ref17_addr1 b (by omega) hb)
  have hz : (b.size : Int) = 4 := by omega
  have hz1 : ((b.size : Int) == 4) = true := by rw [beq_iff_eq]; exact hz
  have HR1 : Hid (decR b = dec4 b ⟨2, byI b 1 * 256 + byI b 2, byI b 3, 0, 0, 0, 0, ⟨#[]⟩, (b.size : Int), false⟩) := by rw [hz]; exact HR.out
  clear HR
  have HR := HR1
  clear HR1
  have g1 : ¬ (b.size : Int) < 4 := by omega
  have g0 : (0 : Int) < (b.size : Int) := by omega
  have g2 : 0 < b.size := by omega
  have ew := w0_byI g2
  have e0 : wrap64 (b[0].toNat : Int) = 2 := ew.trans hk
  clear ew
  go_enter Tryd.func37, Tryd.ntmps37
  go_wp2_with fail
  obtain ⟨w0, hw0, hZ, hE, hF⟩ := rd17_w0 w 2
  rw [hw0]; clear hw0
  have ce := blk_cell hE
  have fe := blk_frozen hE
  have hl := blk_lt hE
  refine (A1.out _).mono ?_; rintro e w2 ⟨rfl, hb2⟩
  have ce2 := blk_cell (blk_below hE hb2)
  have fe2 := blk_frozen (blk_below hE hb2)
  clear ce fe
  have HR_ := HR
  go_upto_region 14 with (fail)
  have hZ3 : ((w2.setCell ⟨w.heap.size + 1, 1, none⟩ (.int .i64 (byI b 1 * 256 + byI b 2))).setCell ⟨w.heap.size + 1, 2, none⟩ (.int .i64 (byI b 3))).heap[w.heap.size]? = some (.cells #[.int .i64 0, .int .i64 0, .int .i64 0, .int .i64 0, .int .i64 0, .int .i64 0, .int .i64 0, .string ⟨#[]⟩] 59 (0, 0)) := blk_set_far (blk_set_far (blk_below hZ hb2) (by simp) _) (by simp) _
  have hE3 : ((w2.setCell ⟨w.heap.size + 1, 1, none⟩ (.int .i64 (byI b 1 * 256 + byI b 2))).setCell ⟨w.heap.size + 1, 2, none⟩ (.int .i64 (byI b 3))).heap[w.heap.size + 1]? = some (.cells #[.int .i64 2, .int .i64 (byI b 1 * 256 + byI b 2), .int .i64 (byI b 3), .int .i64 0, .int .i64 0, .int .i64 0, .int .i64 0, .string ⟨#[]⟩] 59 (0, 0)) := by have h := blk_set (blk_set (blk_below hE hb2) 1 (.int .i64 (byI b 1 * 256 + byI b 2))) 2 (.int .i64 (byI b 3)); simpa using h
  have hF3 : Fr (fun k => w.heap.size ≤ k) w ((w2.setCell ⟨w.heap.size + 1, 1, none⟩ (.int .i64 (byI b 1 * 256 + byI b 2))).setCell ⟨w.heap.size + 1, 2, none⟩ (.int .i64 (byI b 3))) := ((hF.trans (Fr.of_below hb2)).setCell (p := ⟨w.heap.size + 1, 1, none⟩) (.inl (Nat.le_succ _)) (.int .i64 (byI b 1 * 256 + byI b 2))).setCell (p := ⟨w.heap.size + 1, 2, none⟩) (.inl (Nat.le_succ _)) (.int .i64 (byI b 3))
  generalize ((w2.setCell ⟨w.heap.size + 1, 1, none⟩ (.int .i64 (byI b 1 * 256 + byI b 2))).setCell ⟨w.heap.size + 1, 2, none⟩ (.int .i64 (byI b 3))) = w3 at hZ3 hE3 hF3 ⊢
  clear ce2 fe2 hZ hE hF hb2
  have hZ := hZ3
  have hE := hE3
  have hF := hF3
  clear hZ3 hE3 hF3
  have ce := blk_cell hE
  have cz := blk_cell hZ
  have fz := blk_frozen hZ
  have HE := Lib.hid hE
  have HZ := Lib.hid hZ
  have HF := Lib.hid hF
  clear hE hZ hF
  cases hg : goodE 2 (byI b 1 * 256 + byI b 2) (byI b 3) 0 0 0 0 ⟨#[]⟩ with
  | false =>
    have HR0 : Hid (decR b = (zD, 11)) := by rw [HR.out]; exact dec4_no hg
    go_wp2_with fail
    refine (ref17_Good _ _ _ _ _ _ _ _ _).mono ?_; rintro e w9 ⟨rfl, hb9⟩
    have cz9 := blk_cell (blk_below HZ.out hb9)
    have fz9 := blk_frozen (blk_below HZ.out hb9)
    have HF9 := Lib.hid (HF.out.trans (Fr.of_below hb9))
    clear ce cz fz hb9
    go_wp2_with fail
    exact bodyPost_ret (v := .tuple #[.agg #[.int .i64 0, .int .i64 0, .int .i64 0, .int .i64 0, .int .i64 0, .int .i64 0, .int .i64 0, .string ⟨#[]⟩], .int .i64 11]) (by simp [results, Tryd.results37, go_sem, cz9]) rfl ⟨by rw [HR0.out]; rfl, fr8 HF9.out _ _ _ _ _ _ _ _⟩
  | true =>
    have HR0 : Hid (decR b = (⟨2, (byI b 1 * 256 + byI b 2), (byI b 3), 0, 0, 0, 0, ⟨#[]⟩, (b.size : Int), false⟩, 0)) := by rw [HR.out]; exact dec4_ok rfl rfl hg
    go_wp2_with fail
    refine (ref17_Good _ _ _ _ _ _ _ _ _).mono ?_; rintro e w9 ⟨rfl, hb9⟩
    have ce9 := blk_cell (blk_below HE.out hb9)
    have cz9 := blk_cell (blk_below HZ.out hb9)
    have fz9 := blk_frozen (blk_below HZ.out hb9)
    have HF9 := Lib.hid (HF.out.trans (Fr.of_below hb9))
    clear ce cz fz hb9
    go_wp2_with fail
    exact bodyPost_ret (v := .tuple #[.agg #[.int .i64 2, .int .i64 (byI b 1 * 256 + byI b 2), .int .i64 (byI b 3), .int .i64 0, .int .i64 0, .int .i64 0, .int .i64 0, .string ⟨#[]⟩], .int .i64 0]) (by simp [results, Tryd.results37, go_sem, cz9]) rfl ⟨by rw [HR0.out]; rfl, fr8 HF9.out _ _ _ _ _ _ _ _⟩

set_option maxRecDepth 100000 in
set_option maxHeartbeats 4000000 in
theorem ref17_Decode_3 (b : ByteArray) (hb : b.size ≤ 140737488351232) (h : b.size = 7) (hk : byI b 0 = 3) (w : World) :
    Calls Tryd.prog 37 #[.string b] w fun e w' => e = .returned (.tuple #[.agg (decR b).1.cells, .int .i64 (decR b).2]) ∧ Below w.heap.size w w' := by
  have HR := Lib.hid (decR_3 (by omega) hk)
  have A1 := Lib.hid (ref17_addr1 b (by omega) hb)
  have A4 := Lib.hid (ref17_addr4 b (by omega) hb)
  have hz : (b.size : Int) = 7 := by omega
  have hz1 : ((b.size : Int) == 7) = true := by rw [beq_iff_eq]; exact hz
  have HR1 : Hid (decR b = dec4 b ⟨3, 0, 0, byI b 1 * 256 + byI b 2, byI b 3, byI b 4 * 256 + byI b 5, byI b 6, ⟨#[]⟩, (b.size : Int), false⟩) := by rw [hz]; exact HR.out
  clear HR
  have HR := HR1
  clear HR1
  have g1 : ¬ (b.size : Int) < 4 := by omega
  have g0 : (0 : Int) < (b.size : Int) := by omega
  have g2 : 0 < b.size := by omega
  have ew := w0_byI g2
  have e0 : wrap64 (b[0].toNat : Int) = 3 := ew.trans hk
  clear ew
  go_enter Tryd.func37, Tryd.ntmps37
  go_wp2_with fail
  obtain ⟨w0, hw0, hZ, hE, hF⟩ := rd17_w0 w 3
  rw [hw0]; clear hw0
  have ce := blk_cell hE
  have fe := blk_frozen hE
  have hl := blk_lt hE
  refine (A1.out _).mono ?_; rintro e w1 ⟨rfl, hb1⟩
  go_wp2_with fail
  refine (A4.out _).mono ?_; rintro e w2 ⟨rfl, hb2'⟩
  have hb2 : Below w0.heap.size w0 w2 := bstep hb1 hb2'
  clear hb1 hb2'
  have ce2 := blk_cell (blk_below hE hb2)
  have fe2 := blk_frozen (blk_below hE hb2)
  clear ce fe
  have HR_ := HR
  go_upto_region 14 with (fail)
  have hZ3 : ((((w2.setCell ⟨w.heap.size + 1, 3, none⟩ (.int .i64 (byI b 1 * 256 + byI b 2))).setCell ⟨w.heap.size + 1, 4, none⟩ (.int .i64 (byI b 3))).setCell ⟨w.heap.size + 1, 5, none⟩ (.int .i64 (byI b 4 * 256 + byI b 5))).setCell ⟨w.heap.size + 1, 6, none⟩ (.int .i64 (byI b 6))).heap[w.heap.size]? = some (.cells #[.int .i64 0, .int .i64 0, .int .i64 0, .int .i64 0, .int .i64 0, .int .i64 0, .int .i64 0, .string ⟨#[]⟩] 59 (0, 0)) := blk_set_far (blk_set_far (blk_set_far (blk_set_far (blk_below hZ hb2) (by simp) _) (by simp) _) (by simp) _) (by simp) _
  have hE3 : ((((w2.setCell ⟨w.heap.size + 1, 3, none⟩ (.int .i64 (byI b 1 * 256 + byI b 2))).setCell ⟨w.heap.size + 1, 4, none⟩ (.int .i64 (byI b 3))).setCell ⟨w.heap.size + 1, 5, none⟩ (.int .i64 (byI b 4 * 256 + byI b 5))).setCell ⟨w.heap.size + 1, 6, none⟩ (.int .i64 (byI b 6))).heap[w.heap.size + 1]? = some (.cells #[.int .i64 3, .int .i64 0, .int .i64 0, .int .i64 (byI b 1 * 256 + byI b 2), .int .i64 (byI b 3), .int .i64 (byI b 4 * 256 + byI b 5), .int .i64 (byI b 6), .string ⟨#[]⟩] 59 (0, 0)) := by have h := blk_set (blk_set (blk_set (blk_set (blk_below hE hb2) 3 (.int .i64 (byI b 1 * 256 + byI b 2))) 4 (.int .i64 (byI b 3))) 5 (.int .i64 (byI b 4 * 256 + byI b 5))) 6 (.int .i64 (byI b 6)); simpa using h
  have hF3 : Fr (fun k => w.heap.size ≤ k) w ((((w2.setCell ⟨w.heap.size + 1, 3, none⟩ (.int .i64 (byI b 1 * 256 + byI b 2))).setCell ⟨w.heap.size + 1, 4, none⟩ (.int .i64 (byI b 3))).setCell ⟨w.heap.size + 1, 5, none⟩ (.int .i64 (byI b 4 * 256 + byI b 5))).setCell ⟨w.heap.size + 1, 6, none⟩ (.int .i64 (byI b 6))) := ((((hF.trans (Fr.of_below hb2)).setCell (p := ⟨w.heap.size + 1, 3, none⟩) (.inl (Nat.le_succ _)) (.int .i64 (byI b 1 * 256 + byI b 2))).setCell (p := ⟨w.heap.size + 1, 4, none⟩) (.inl (Nat.le_succ _)) (.int .i64 (byI b 3))).setCell (p := ⟨w.heap.size + 1, 5, none⟩) (.inl (Nat.le_succ _)) (.int .i64 (byI b 4 * 256 + byI b 5))).setCell (p := ⟨w.heap.size + 1, 6, none⟩) (.inl (Nat.le_succ _)) (.int .i64 (byI b 6))
  generalize ((((w2.setCell ⟨w.heap.size + 1, 3, none⟩ (.int .i64 (byI b 1 * 256 + byI b 2))).setCell ⟨w.heap.size + 1, 4, none⟩ (.int .i64 (byI b 3))).setCell ⟨w.heap.size + 1, 5, none⟩ (.int .i64 (byI b 4 * 256 + byI b 5))).setCell ⟨w.heap.size + 1, 6, none⟩ (.int .i64 (byI b 6))) = w3 at hZ3 hE3 hF3 ⊢
  clear ce2 fe2 hZ hE hF hb2
  have hZ := hZ3
  have hE := hE3
  have hF := hF3
  clear hZ3 hE3 hF3
  have ce := blk_cell hE
  have cz := blk_cell hZ
  have fz := blk_frozen hZ
  have HE := Lib.hid hE
  have HZ := Lib.hid hZ
  have HF := Lib.hid hF
  clear hE hZ hF
  cases hg : goodE 3 0 0 (byI b 1 * 256 + byI b 2) (byI b 3) (byI b 4 * 256 + byI b 5) (byI b 6) ⟨#[]⟩ with
  | false =>
    have HR0 : Hid (decR b = (zD, 11)) := by rw [HR.out]; exact dec4_no hg
    go_wp2_with fail
    refine (ref17_Good _ _ _ _ _ _ _ _ _).mono ?_; rintro e w9 ⟨rfl, hb9⟩
    have cz9 := blk_cell (blk_below HZ.out hb9)
    have fz9 := blk_frozen (blk_below HZ.out hb9)
    have HF9 := Lib.hid (HF.out.trans (Fr.of_below hb9))
    clear ce cz fz hb9
    go_wp2_with fail
    exact bodyPost_ret (v := .tuple #[.agg #[.int .i64 0, .int .i64 0, .int .i64 0, .int .i64 0, .int .i64 0, .int .i64 0, .int .i64 0, .string ⟨#[]⟩], .int .i64 11]) (by simp [results, Tryd.results37, go_sem, cz9]) rfl ⟨by rw [HR0.out]; rfl, fr8 HF9.out _ _ _ _ _ _ _ _⟩
  | true =>
    have HR0 : Hid (decR b = (⟨3, 0, 0, (byI b 1 * 256 + byI b 2), (byI b 3), (byI b 4 * 256 + byI b 5), (byI b 6), ⟨#[]⟩, (b.size : Int), false⟩, 0)) := by rw [HR.out]; exact dec4_ok rfl rfl hg
    go_wp2_with fail
    refine (ref17_Good _ _ _ _ _ _ _ _ _).mono ?_; rintro e w9 ⟨rfl, hb9⟩
    have ce9 := blk_cell (blk_below HE.out hb9)
    have cz9 := blk_cell (blk_below HZ.out hb9)
    have fz9 := blk_frozen (blk_below HZ.out hb9)
    have HF9 := Lib.hid (HF.out.trans (Fr.of_below hb9))
    clear ce cz fz hb9
    go_wp2_with fail
    exact bodyPost_ret (v := .tuple #[.agg #[.int .i64 3, .int .i64 0, .int .i64 0, .int .i64 (byI b 1 * 256 + byI b 2), .int .i64 (byI b 3), .int .i64 (byI b 4 * 256 + byI b 5), .int .i64 (byI b 6), .string ⟨#[]⟩], .int .i64 0]) (by simp [results, Tryd.results37, go_sem, cz9]) rfl ⟨by rw [HR0.out]; rfl, fr8 HF9.out _ _ _ _ _ _ _ _⟩

set_option maxRecDepth 100000 in
set_option maxHeartbeats 2000000 in
theorem ref17_Decode_2s (b : ByteArray) (hb : b.size ≤ 140737488351232) (h : 4 ≤ b.size) (hz : ¬ (b.size : Int) = 4) (hk : byI b 0 = 2) (w : World) :
    Calls Tryd.prog 37 #[.string b] w fun e w' => e = .returned (.tuple #[.agg #[.int .i64 0, .int .i64 0, .int .i64 0, .int .i64 0, .int .i64 0, .int .i64 0, .int .i64 0, .string ⟨#[]⟩], .int .i64 11]) ∧ Below w.heap.size w w' := by
  have hz1 : ((b.size : Int) == 4) = false := by rw [beq_eq_false_iff_ne]; exact hz
  have g1 : ¬ (b.size : Int) < 4 := by omega
  have g0 : (0 : Int) < (b.size : Int) := by omega
  have g2 : 0 < b.size := by omega
  have ew := w0_byI g2
  have e0 : wrap64 (b[0].toNat : Int) = 2 := ew.trans hk
  clear ew
  go_enter Tryd.func37, Tryd.ntmps37
  go_wp2_with fail
  exact bodyPost_ret (v := .tuple #[.agg #[.int .i64 0, .int .i64 0, .int .i64 0, .int .i64 0, .int .i64 0, .int .i64 0, .int .i64 0, .string ⟨#[]⟩], .int .i64 11]) (by simp [results, Tryd.results37, go_sem]) rfl ⟨rfl, below_a2 _ _ _⟩

theorem decR_2z {b : ByteArray} (h : 4 ≤ b.size) (hz : ¬ (b.size : Int) = 4) (hk : byI b 0 = 2) : decR b = (zD, 11) := (decR_2 h hk).trans (dec4_at (fun h => hz h.symm))

set_option maxRecDepth 100000 in
set_option maxHeartbeats 2000000 in
theorem ref17_Decode_3s (b : ByteArray) (hb : b.size ≤ 140737488351232) (h : 4 ≤ b.size) (hz : ¬ (b.size : Int) = 7) (hk : byI b 0 = 3) (w : World) :
    Calls Tryd.prog 37 #[.string b] w fun e w' => e = .returned (.tuple #[.agg #[.int .i64 0, .int .i64 0, .int .i64 0, .int .i64 0, .int .i64 0, .int .i64 0, .int .i64 0, .string ⟨#[]⟩], .int .i64 11]) ∧ Below w.heap.size w w' := by
  have hz1 : ((b.size : Int) == 7) = false := by rw [beq_eq_false_iff_ne]; exact hz
  have g1 : ¬ (b.size : Int) < 4 := by omega
  have g0 : (0 : Int) < (b.size : Int) := by omega
  have g2 : 0 < b.size := by omega
  have ew := w0_byI g2
  have e0 : wrap64 (b[0].toNat : Int) = 3 := ew.trans hk
  clear ew
  go_enter Tryd.func37, Tryd.ntmps37
  go_wp2_with fail
  exact bodyPost_ret (v := .tuple #[.agg #[.int .i64 0, .int .i64 0, .int .i64 0, .int .i64 0, .int .i64 0, .int .i64 0, .int .i64 0, .string ⟨#[]⟩], .int .i64 11]) (by simp [results, Tryd.results37, go_sem]) rfl ⟨rfl, below_a2 _ _ _⟩

theorem decR_3z {b : ByteArray} (h : 4 ≤ b.size) (hz : ¬ (b.size : Int) = 7) (hk : byI b 0 = 3) : decR b = (zD, 11) := by by_cases h7 : b.size < 7; exact decR_3s h h7 hk; exact (decR_3 (by omega) hk).trans (dec4_at (fun h => hz h.symm))

theorem ref17_Decode (b : ByteArray) (hb : b.size ≤ 140737488351232) (w : World) :
    Calls Tryd.prog 37 #[.string b] w fun e w' => e = .returned (.tuple #[.agg (decR b).1.cells, .int .i64 (decR b).2]) ∧ Below w.heap.size w w' := by
  by_cases h : b.size < 4
  · rw [decR_short h]; exact ref17_Decode_short b hb h w
  by_cases h1 : byI b 0 = 1
  · exact ref17_Decode_1 b hb (by omega) h1 w
  by_cases h2 : byI b 0 = 2
  · by_cases hz : (b.size : Int) = 4
    · exact ref17_Decode_2 b hb (by omega) h2 w
    · rw [decR_2z (by omega) hz h2]; exact ref17_Decode_2s b hb (by omega) hz h2 w
  by_cases h3 : byI b 0 = 3
  · by_cases hz : (b.size : Int) = 7
    · exact ref17_Decode_3 b hb (by omega) h3 w
    · rw [decR_3z (by omega) hz h3]; exact ref17_Decode_3s b hb (by omega) hz h3 w
  · rw [decR_else (by omega) h1 h2 h3]; exact ref17_Decode_else b hb (by omega) h1 h2 h3 w

end Go.Proofs.YtlpdanghcdajmaaDoor
