/- What is encoded is decoded as it was, and back (layer 17): plain words, no program in sight. -/
import Derived.Test.YtlpdanghcdajmaaDoorRd
namespace Go.Proofs.YtlpdanghcdajmaaDoor
open Go.RowKit

theorem num1_list {v : Int} (h0 : 0 ≤ v) (h1 : v < 256) : (numR v 1).1.data.toList = [UInt8.ofNat v.toNat] := by
  have e : numR v 1 = (strOfNums (lowBE v 1), 0) := by unfold numR; rw [if_neg (by decide), if_neg (by simp; omega)]; rfl
  rw [e, strOfNums_list, beBytes_succ]
  have : v / 256 ^ 0 % 256 = v := by simp; omega
  rw [this]; rfl
theorem num2_list {v : Int} (h0 : 0 ≤ v) (h1 : v < 65536) : (numR v 2).1.data.toList = [UInt8.ofNat (v / 256).toNat, UInt8.ofNat (v % 256).toNat] := by
  have e : numR v 2 = (strOfNums (lowBE v 2), 0) := by unfold numR; rw [if_neg (by decide), if_neg (by simp; omega)]; rfl
  rw [e, strOfNums_list, beBytes_succ, beBytes_succ]
  have e1 : v / 256 ^ 1 % 256 = v / 256 := by omega
  have e2 : v / 256 ^ 0 % 256 = v % 256 := by simp
  rw [e1, e2]; rfl
theorem text_list {s : ByteArray} (h : s.size ≤ 65535) : (textR s).1.data.toList = beBytes s.data.toList.length 2 ++ s.data.toList := by
  unfold textR; rw [if_neg (by omega), list_append, strOfNums_list, size_list]
theorem emp_list : (⟨#[]⟩ : ByteArray).data.toList = [] := rfl
theorem enc1_list {ar ac : Int} {s : ByteArray} (ha : goodA ar ac = true) (hs : s.size ≤ 300) (hg : goodE 1 ar ac 0 0 0 0 s = true) :
    (encR 1 ar ac 0 0 0 0 s).1.data.toList = [1, UInt8.ofNat (ar / 256).toNat, UInt8.ofNat (ar % 256).toNat, UInt8.ofNat ac.toNat] ++ (beBytes s.data.toList.length 2 ++ (s.data.toList ++ [])) := by
  have hb := goodA_bd ha
  unfold encR; rw [if_neg (by simp [hg]), if_pos rfl]
  simp only [list_append]
  rw [num1_list (by decide) (by decide), num2_list (by omega) (by omega), num1_list (by omega) (by omega), text_list (by omega), List.append_nil]; rfl
theorem enc2_list {ar ac : Int} (ha : goodA ar ac = true) (hg : goodE 2 ar ac 0 0 0 0 ⟨#[]⟩ = true) :
    (encR 2 ar ac 0 0 0 0 ⟨#[]⟩).1.data.toList = [2, UInt8.ofNat (ar / 256).toNat, UInt8.ofNat (ar % 256).toNat, UInt8.ofNat ac.toNat] := by
  have hb := goodA_bd ha
  unfold encR; rw [if_neg (by simp [hg]), if_neg (by decide), if_pos rfl]
  simp only [list_append]
  rw [num1_list (by decide) (by decide), num2_list (by omega) (by omega), num1_list (by omega) (by omega)]; rfl
theorem enc3_list {fr fc tr tc : Int} (ha : goodA fr fc = true) (hb : goodA tr tc = true) (hg : goodE 3 0 0 fr fc tr tc ⟨#[]⟩ = true) :
    (encR 3 0 0 fr fc tr tc ⟨#[]⟩).1.data.toList = [3, UInt8.ofNat (fr / 256).toNat, UInt8.ofNat (fr % 256).toNat, UInt8.ofNat fc.toNat, UInt8.ofNat (tr / 256).toNat, UInt8.ofNat (tr % 256).toNat, UInt8.ofNat tc.toNat] := by
  have ha := goodA_bd ha
  have hb := goodA_bd hb
  unfold encR; rw [if_neg (by simp [hg]), if_neg (by decide), if_neg (by decide)]
  simp only [list_append]
  rw [num1_list (by decide) (by decide), num2_list (by omega) (by omega), num1_list (by omega) (by omega), num2_list (by omega) (by omega), num1_list (by omega) (by omega)]; rfl
theorem byI_list {b : ByteArray} {l : List UInt8} (h : b.data.toList = l) (i : Nat) : byI b i = ((l.getD i 0).toNat : Int) := by unfold byI; rw [h]
theorem two_bytes {r : Int} (h0 : 0 ≤ r) (h1 : r < 65536) : ((UInt8.ofNat (r / 256).toNat).toNat : Int) * 256 + ((UInt8.ofNat (r % 256).toNat).toNat : Int) = r := by
  rw [byte_toNat _ (by omega) (by omega), byte_toNat _ (by omega) (by omega)]; omega
/-- What was encoded is decoded as it was. -/
theorem dec_enc {k ar ac fr fc tr tc : Int} {s : ByteArray} (h : goodE k ar ac fr fc tr tc s = true) :
    decR (encR k ar ac fr fc tr tc s).1 = (⟨k, ar, ac, fr, fc, tr, tc, s, ((encR k ar ac fr fc tr tc s).1.size : Int), false⟩, 0) := by
  rcases goodE_cases h with ⟨rfl, ha, hs, rfl, rfl, rfl, rfl⟩ | ⟨rfl, ha, rfl, rfl, rfl, rfl, rfl⟩ | ⟨rfl, ha, hb, rfl, rfl, rfl, _, _⟩
  · have hl := enc1_list ha hs h
    have hbd := goodA_bd ha
    generalize (encR 1 ar ac 0 0 0 0 s).1 = b at hl ⊢
    have hz : b.size = 6 + s.size := by rw [← size_list, hl]; simp [beBytes_length]; omega
    have hc := cutR_mid (most := 300) hl (by rw [size_list]; omega) (by rw [size_list]; omega)
    have hc' : cutR b 4 300 = (s, 6 + (s.size : Int), 0) := by
      have e : (⟨s.data.toList.toArray⟩ : ByteArray) = s := rfl
      rw [e, size_list] at hc
      exact hc
    rw [decR_1 (by omega) (byI_list hl 0), hc']
    have e1 : byI b 1 * 256 + byI b 2 = ar := by rw [byI_list hl, byI_list hl]; exact two_bytes (by omega) (by omega)
    have e2 : byI b 3 = ac := by rw [byI_list hl]; exact byte_toNat _ (by omega) (by omega)
    rw [e1, e2]
    have e3 : (6 + (s.size : Int)) = (b.size : Int) := by omega
    rw [e3]
    exact dec4_ok rfl rfl h
  · have hl := enc2_list ha h
    have hbd := goodA_bd ha
    generalize (encR 2 ar ac 0 0 0 0 ⟨#[]⟩).1 = b at hl ⊢
    have hz : b.size = 4 := by rw [← size_list, hl]; rfl
    rw [decR_2 (by omega) (byI_list hl 0)]
    have e1 : byI b 1 * 256 + byI b 2 = ar := by rw [byI_list hl, byI_list hl]; exact two_bytes (by omega) (by omega)
    have e2 : byI b 3 = ac := by rw [byI_list hl]; exact byte_toNat _ (by omega) (by omega)
    rw [e1, e2]
    have e3 : (4 : Int) = (b.size : Int) := by omega
    rw [e3]
    exact dec4_ok rfl rfl h
  · have hl := enc3_list ha hb h
    have hbd := goodA_bd ha
    have hbe := goodA_bd hb
    generalize (encR 3 0 0 fr fc tr tc ⟨#[]⟩).1 = b at hl ⊢
    have hz : b.size = 7 := by rw [← size_list, hl]; rfl
    rw [decR_3 (by omega) (byI_list hl 0)]
    have e1 : byI b 1 * 256 + byI b 2 = fr := by rw [byI_list hl, byI_list hl]; exact two_bytes (by omega) (by omega)
    have e2 : byI b 3 = fc := by rw [byI_list hl]; exact byte_toNat _ (by omega) (by omega)
    have e4 : byI b 4 * 256 + byI b 5 = tr := by rw [byI_list hl, byI_list hl]; exact two_bytes (by omega) (by omega)
    have e5 : byI b 6 = tc := by rw [byI_list hl]; exact byte_toNat _ (by omega) (by omega)
    rw [e1, e2, e4, e5]
    have e3 : (7 : Int) = (b.size : Int) := by omega
    rw [e3]
    exact dec4_ok rfl rfl h
theorem enc_code {k ar ac fr fc tr tc : Int} {s : ByteArray} : (encR k ar ac fr fc tr tc s).2 = if goodE k ar ac fr fc tr tc s = true then 0 else 11 := by
  unfold encR
  cases hg : goodE k ar ac fr fc tr tc s with
  | false => simp
  | true =>
    simp only [Bool.true_eq_false, if_false, if_true]
    split
    · rfl
    · split <;> rfl
theorem enc_ok {k ar ac fr fc tr tc : Int} {s : ByteArray} (h : (encR k ar ac fr fc tr tc s).2 = 0) : goodE k ar ac fr fc tr tc s = true := by
  rw [enc_code] at h
  cases hg : goodE k ar ac fr fc tr tc s with
  | true => rfl
  | false => rw [hg] at h; simp at h
/-- How long what was encoded is. -/
theorem enc_size {k ar ac fr fc tr tc : Int} {s : ByteArray} (h : goodE k ar ac fr fc tr tc s = true) :
    ((encR k ar ac fr fc tr tc s).1.size : Int) = if k = 3 then 7 else if k = 2 then 4 else 6 + (s.size : Int) := by
  rcases goodE_cases h with ⟨rfl, ha, hs, rfl, rfl, rfl, rfl⟩ | ⟨rfl, ha, rfl, rfl, rfl, rfl, rfl⟩ | ⟨rfl, ha, hb, rfl, rfl, rfl, _, _⟩
  · rw [← size_list, enc1_list ha hs h]; simp [beBytes_length]; omega
  · rw [← size_list, enc2_list ha h]; rfl
  · rw [← size_list, enc3_list ha hb h]; rfl
/-- Two edits of the same bytes are one. -/
theorem enc_inj {k ar ac fr fc tr tc k' ar' ac' fr' fc' tr' tc' : Int} {s s' : ByteArray} (h : goodE k ar ac fr fc tr tc s = true) (h' : goodE k' ar' ac' fr' fc' tr' tc' s' = true)
    (e : (encR k ar ac fr fc tr tc s).1 = (encR k' ar' ac' fr' fc' tr' tc' s').1) : k = k' ∧ ar = ar' ∧ ac = ac' ∧ fr = fr' ∧ fc = fc' ∧ tr = tr' ∧ tc = tc' ∧ s = s' := by
  have h1 := dec_enc h
  rw [e, dec_enc h'] at h1
  have h2 := (Prod.mk.inj h1).1
  injection h2 with a1 a2 a3 a4 a5 a6 a7 a8
  exact ⟨a1.symm, a2.symm, a3.symm, a4.symm, a5.symm, a6.symm, a7.symm, a8.symm⟩
theorem byte_back (c : UInt8) : UInt8.ofNat ((c.toNat : Int)).toNat = c := by simp
theorem byte_hi (c d : UInt8) : UInt8.ofNat (((c.toNat : Int) * 256 + (d.toNat : Int)) / 256).toNat = c := by
  have hd := d.toNat_lt
  have : ((c.toNat : Int) * 256 + (d.toNat : Int)) / 256 = c.toNat := by omega
  rw [this]; exact byte_back c
theorem byte_lo (c d : UInt8) : UInt8.ofNat (((c.toNat : Int) * 256 + (d.toNat : Int)) % 256).toNat = d := by
  have hd := d.toNat_lt
  have : ((c.toNat : Int) * 256 + (d.toNat : Int)) % 256 = d.toNat := by omega
  rw [this]; exact byte_back d
theorem byte_of {c : UInt8} {n : Nat} (h : (c.toNat : Int) = n) : c = UInt8.ofNat n := by
  rw [← byte_back c, h]; simp
/-- What dec4 answers. -/
theorem dec4_cases (b : ByteArray) (x : Dst) : dec4 b x = (zD, 11) ∨ (dec4 b x = (x, 0) ∧ x.bad = false ∧ x.a = b.size ∧ goodE x.k x.ar x.ac x.fr x.fc x.tr x.tc x.s = true) := by
  by_cases h : x.bad = true ∨ x.a ≠ b.size ∨ goodE x.k x.ar x.ac x.fr x.fc x.tr x.tc x.s = false
  · left; unfold dec4; rw [if_pos h]; rfl
  · right
    refine ⟨by unfold dec4; rw [if_neg h], ?_, ?_, ?_⟩
    · cases hb : x.bad with | false => rfl | true => exact absurd (.inl hb) h
    · exact Decidable.byContradiction fun hx => h (.inr (.inl hx))
    · cases hb : goodE x.k x.ar x.ac x.fr x.fc x.tr x.tc x.s with | true => rfl | false => exact absurd (.inr (.inr hb)) h
theorem decR_cases (b : ByteArray) : decR b = (zD, 11) ∨ ((decR b).2 = 0 ∧ (decR b).1.bad = false ∧ goodE (decR b).1.k (decR b).1.ar (decR b).1.ac (decR b).1.fr (decR b).1.fc (decR b).1.tr (decR b).1.tc (decR b).1.s = true) := by
  unfold decR
  rcases dec4_cases b (dec3 b (dec2 b (dec1 b))) with h | ⟨h, h1, _, h3⟩
  · exact .inl h
  · rw [h]; exact .inr ⟨rfl, h1, h3⟩
theorem list4 {l : List UInt8} (h : 4 ≤ l.length) : ∃ a b c d t, l = a :: b :: c :: d :: t := by
  match l, h with
  | a :: b :: c :: d :: t, _ => exact ⟨a, b, c, d, t, rfl⟩
/-- What was decoded is encoded as it stood. -/
theorem enc_dec {b : ByteArray} (h : (decR b).2 = 0) : (encR (decR b).1.k (decR b).1.ar (decR b).1.ac (decR b).1.fr (decR b).1.fc (decR b).1.tr (decR b).1.tc (decR b).1.s) = (b, 0) := by
  have code : ∀ x : Dst, goodE x.k x.ar x.ac x.fr x.fc x.tr x.tc x.s = true → (encR x.k x.ar x.ac x.fr x.fc x.tr x.tc x.s).2 = 0 := fun x hx => by rw [enc_code, if_pos hx]
  by_cases h4 : b.size < 4
  · rw [decR_short h4] at h; exact absurd h (by decide)
  obtain ⟨a0, a1, a2, a3, t, hl⟩ := list4 (l := b.data.toList) (by rw [size_list]; omega)
  have g1 : byI b 1 = a1.toNat := byI_list hl 1
  have g2 : byI b 2 = a2.toNat := byI_list hl 2
  have g3 : byI b 3 = a3.toNat := byI_list hl 3
  have g0 : byI b 0 = a0.toNat := byI_list hl 0
  by_cases h1 : byI b 0 = 1
  · rw [decR_1 (by omega) h1] at h ⊢
    rcases dec4_cases b ⟨1, byI b 1 * 256 + byI b 2, byI b 3, 0, 0, 0, 0, (cutR b 4 300).1, (cutR b 4 300).2.1, (cutR b 4 300).2.2 != 0⟩ with hd | ⟨hd, k1, k2, k3⟩
    · rw [hd] at h; exact absurd h (by decide)
    rw [hd]
    refine Prod.ext ?_ (code _ k3)
    simp only at k1 k2 k3 ⊢
    have k1' : (cutR b 4 300).2.2 = 0 := by simpa using k1
    clear k1 h hd
    have ha : goodA (byI b 1 * 256 + byI b 2) (byI b 3) = true ∧ (cutR b 4 300).1.size ≤ 300 := by
      rcases goodE_cases k3 with ⟨_, ha, hs, _⟩ | ⟨hk, _⟩ | ⟨hk, _⟩
      · exact ⟨ha, hs⟩
      · exact absurd hk (by decide)
      · exact absurd hk (by decide)
    apply bytes_ext
    rw [enc1_list ha.1 ha.2 k3]
    rw [g1, g2, g3, byte_hi, byte_lo, byte_back, hl]
    have e0 : a0 = 1 := byte_of (n := 1) (by rw [← g0, h1]; rfl)
    rw [e0]
    -- the text
    have ht : (takeR b 4 2).2.2 = 0 := by
      unfold cutR at k1'
      simp only at k1'
      split at k1'
      · rename_i hx; exact absurd k1' hx
      · rename_i hx; exact Decidable.not_not.1 hx
    obtain ⟨_, t2, t3, _, _⟩ := takeR2_ok ht
    obtain ⟨a4, a5, u, hu⟩ : ∃ a4 a5 u, t = a4 :: a5 :: u := by
      have : 6 ≤ b.data.toList.length := by rw [size_list]; omega
      rw [hl] at this
      match t, this with
      | a4 :: a5 :: u, _ => exact ⟨a4, a5, u, rfl⟩
    rw [hu] at hl
    rw [hl] at t3
    have tv : takeR b 4 2 = ((a4.toNat : Int) * 256 + a5.toNat, 6, 0) := by rw [t3]; simp [valBE]
    have hz : b.size = 6 + u.length := by rw [← size_list, hl]; simp; omega
    have hc4 := a4.toNat_lt
    have hc5 := a5.toNat_lt
    have hx : (cutR b 4 300) = (⟨u.toArray⟩, 6 + (u.length : Int), 0) ∧ (a4.toNat : Int) * 256 + a5.toNat = u.length := by
      unfold cutR at k1' k2 ⊢
      simp only [tv] at k1' k2 ⊢
      rw [if_neg (by simp)] at k1' k2 ⊢
      by_cases q1 : (b.size : Int) - 6 < (a4.toNat : Int) * 256 + a5.toNat
      · rw [if_pos q1] at k1'; exact absurd k1' (by simp)
      rw [if_neg q1] at k1' k2 ⊢
      by_cases q2 : (300 : Int) < (a4.toNat : Int) * 256 + a5.toNat
      · rw [if_pos q2] at k1'; exact absurd k1' (by simp)
      rw [if_neg q2] at k1' k2 ⊢
      simp only at k2
      have hn : (a4.toNat : Int) * 256 + a5.toNat = u.length := by omega
      refine ⟨?_, hn⟩
      rw [hn]
      refine Prod.ext ?_ rfl
      apply bytes_ext
      have n1 : (6 : Int).toNat = 6 := rfl
      have n2 : (6 + (u.length : Int)).toNat = 6 + u.length := by omega
      simp only [ByteArray.data_extract, Array.toList_extract, List.extract_eq_take_drop, n1, n2, hl]
      simp
    rw [hx.1]
    have e5 : beBytes (u.length : Int) 2 = [a4, a5] := by
      rw [← hx.2, beBytes_succ, beBytes_succ]
      have x1 : ((a4.toNat : Int) * 256 + (a5.toNat : Int)) / 256 ^ 1 % 256 = a4.toNat := by omega
      have x2 : ((a4.toNat : Int) * 256 + (a5.toNat : Int)) / 256 ^ 0 % 256 = a5.toNat := by simp; omega
      rw [x1, x2, byte_back, byte_back]; rfl
    simp only [e5, hu, List.append_nil]
    rfl
  by_cases h2 : byI b 0 = 2
  · rw [decR_2 (by omega) h2] at h ⊢
    rcases dec4_cases b ⟨2, byI b 1 * 256 + byI b 2, byI b 3, 0, 0, 0, 0, ⟨#[]⟩, 4, false⟩ with hd | ⟨hd, k1, k2, k3⟩
    · rw [hd] at h; exact absurd h (by decide)
    rw [hd]
    refine Prod.ext ?_ (code _ k3)
    simp only at k2 k3 ⊢
    have ha : goodA (byI b 1 * 256 + byI b 2) (byI b 3) = true := by
      rcases goodE_cases k3 with ⟨hk, _⟩ | ⟨_, ha, _⟩ | ⟨hk, _⟩
      · exact absurd hk (by decide)
      · exact ha
      · exact absurd hk (by decide)
    apply bytes_ext
    rw [enc2_list ha k3, g1, g2, g3, byte_hi, byte_lo, byte_back, hl]
    have e0 : a0 = 2 := byte_of (n := 2) (by rw [← g0, h2]; rfl)
    have e1 : t = [] := by
      have := size_list b
      rw [hl] at this
      simp only [List.length_cons] at this
      exact List.eq_nil_of_length_eq_zero (by omega)
    rw [e0, e1]
  by_cases h3 : byI b 0 = 3
  · by_cases h7 : b.size < 7
    · rw [decR_3s (by omega) h7 h3] at h; exact absurd h (by decide)
    rw [decR_3 (by omega) h3] at h ⊢
    rcases dec4_cases b ⟨3, 0, 0, byI b 1 * 256 + byI b 2, byI b 3, byI b 4 * 256 + byI b 5, byI b 6, ⟨#[]⟩, 7, false⟩ with hd | ⟨hd, k1, k2, k3⟩
    · rw [hd] at h; exact absurd h (by decide)
    rw [hd]
    refine Prod.ext ?_ (code _ k3)
    simp only at k2 k3 ⊢
    have ha : goodA (byI b 1 * 256 + byI b 2) (byI b 3) = true ∧ goodA (byI b 4 * 256 + byI b 5) (byI b 6) = true := by
      rcases goodE_cases k3 with ⟨hk, _⟩ | ⟨hk, _⟩ | ⟨_, ha, hb, _⟩
      · exact absurd hk (by decide)
      · exact absurd hk (by decide)
      · exact ⟨ha, hb⟩
    obtain ⟨a4, a5, a6, hu⟩ : ∃ a4 a5 a6, t = [a4, a5, a6] := by
      have := size_list b
      rw [hl] at this
      match t, this with
      | [a4, a5, a6], _ => exact ⟨a4, a5, a6, rfl⟩
      | [], h => simp at h; omega
      | [_], h => simp at h; omega
      | [_, _], h => simp at h; omega
      | _ :: _ :: _ :: _ :: _, h => simp at h; omega
    rw [hu] at hl
    have g4 : byI b 4 = a4.toNat := byI_list hl 4
    have g5 : byI b 5 = a5.toNat := byI_list hl 5
    have g6 : byI b 6 = a6.toNat := byI_list hl 6
    apply bytes_ext
    rw [enc3_list ha.1 ha.2 k3, g1, g2, g3, g4, g5, g6, byte_hi, byte_lo, byte_back, byte_hi, byte_lo, byte_back, hl]
    have e0 : a0 = 3 := byte_of (n := 3) (by rw [← g0, h3]; rfl)
    rw [e0]
  · rw [decR_else (by omega) h1 h2 h3] at h; exact absurd h (by decide)
end Go.Proofs.YtlpdanghcdajmaaDoor
