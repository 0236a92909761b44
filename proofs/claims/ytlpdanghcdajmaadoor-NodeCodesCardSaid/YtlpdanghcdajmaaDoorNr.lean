/- Nodes (layer 23), plain words: a node there and back. -/
import Derived.Test.YtlpdanghcdajmaaDoorNq
namespace Go.Proofs.YtlpdanghcdajmaaDoor
open Go.RowKit
theorem num1_be {v : Int} (_h0 : 0 ≤ v) (h1 : v < 256) : (numR v 1).1.data.toList = beBytes v 1 := numR_list (.inl rfl) (by simpa using h1)
theorem num2_be {v : Int} (h1 : v < 65536) : (numR v 2).1.data.toList = beBytes v 2 := numR_list (.inr (.inl rfl)) (by simpa using h1)
theorem good_leaf {I : List It} {K D : List Int} (h : goodN true I K D = true) : K = [] ∧ D = [] ∧ I.length ≤ 255 ∧ (∀ x ∈ I, goodI x = true) ∧ risesB (I.map It.key) = true := by
  unfold goodN at h
  simp only [if_true, Bool.and_eq_true, decide_eq_true_eq, Bool.not_eq_true', List.any_eq_false] at h
  obtain ⟨⟨⟨h1, h2⟩, h3⟩, h4⟩ := h
  exact ⟨List.eq_nil_of_length_eq_zero (by omega), List.eq_nil_of_length_eq_zero (by omega), h2, fun x hx => by have := h3 x hx; simpa using this, h4⟩
theorem good_inner {I : List It} {K D : List Int} (h : goodN false I K D = true) : I = [] ∧ 1 ≤ K.length ∧ K.length ≤ 255 ∧ D.length = K.length + 1 ∧ (∀ x ∈ D, pageB x = true) ∧ risesB K = true := by
  unfold goodN at h
  simp only [Bool.false_eq_true, if_false, Bool.and_eq_true, decide_eq_true_eq, Bool.not_eq_true', List.any_eq_false] at h
  obtain ⟨⟨⟨⟨⟨h1, h2⟩, h3⟩, h4⟩, h5⟩, h6⟩ := h
  exact ⟨List.eq_nil_of_length_eq_zero h1, h2, h3, h4, fun x hx => by have := h5 x hx; simpa using this, h6⟩
theorem page_bd {x : Int} (h : pageB x = true) : 0 ≤ x ∧ x ≤ 4096 := by
  simp only [pageB, Bool.and_eq_true, decide_eq_true_eq] at h; exact h
theorem fst_zip {K D : List Int} (h : D.length = K.length) : (K.zip D).map Prod.fst = K := by
  rw [List.map_fst_zip]; omega
theorem snd_zip {K D : List Int} (h : D.length = K.length) : (K.zip D).map Prod.snd = D := by
  rw [List.map_snd_zip]; omega
/-- The bytes of a good leaf, of a good inner node. -/
theorem leaf_list {I : List It} {K D : List Int} (hI : ∀ x ∈ I, half x) (hl : I.length ≤ 255) :
    (Nd.bytes ⟨true, I, K, D⟩).data.toList = beBytes 1 1 ++ (beBytes I.length 1 ++ ((I.map itL).flatten ++ [])) := by
  unfold Nd.bytes
  simp only [if_true]
  rw [foldl_list, list_append, its_list hI, num1_be (by decide) (by decide), num1_be (by omega) (by omega)]
  simp
theorem inner_list {I : List It} {K D : List Int} {d : Int} (hK : ∀ x ∈ K.zip D, halfP x) (hd : d < 65536) (hl : K.length ≤ 255) :
    (Nd.bytes ⟨false, I, K, d :: D⟩).data.toList = beBytes 2 1 ++ (beBytes K.length 1 ++ (beBytes d 2 ++ (((K.zip D).map prL).flatten ++ []))) := by
  unfold Nd.bytes
  simp only [Bool.false_eq_true, if_false, List.tail_cons, List.headD_cons]
  rw [foldl_list, list_append, list_append, prs_list hK, num1_be (by decide) (by decide), num1_be (by omega) (by omega), num2_be hd]
  simp
theorem pairs_half {K D : List Int} (hK : ∀ k ∈ K, 0 ≤ k ∧ k < 4294967296) (hD : ∀ x ∈ D, pageB x = true) : ∀ x ∈ K.zip D, halfP x := by
  intro x hx
  have h1 := hK x.1 (List.of_mem_zip hx).1
  have h2 := page_bd (hD x.2 (List.of_mem_zip hx).2)
  exact ⟨h1, h2.1, by omega⟩
/-- A good node's bytes: as many as its size says; read back it is itself. -/
theorem good_back {n : Nd} (ht : n.typed) (hg : n.good = true) : (n.bytes.size : Int) = n.size ∧ rdN n.bytes = (n, n.size, false) := by
  obtain ⟨lf, I, K, D⟩ := n
  have hsz : Nd.size ⟨lf, I, K, D⟩ = 2 + szIs I + 4 * K.length + 2 * D.length := by unfold Nd.size; rw [if_pos hg]
  cases lf with
  | true =>
    have hg' : goodN true I K D = true := hg
    obtain ⟨rfl, rfl, hl, hI, _⟩ := good_leaf hg'
    have hh : ∀ x ∈ I, half x := fun x hx => half_good (ht.I x hx) (hI x hx)
    have hb := leaf_list (K := []) (D := []) hh hl
    have hlen := its_len hh
    generalize Nd.bytes ⟨true, I, [], []⟩ = b at hb ⊢
    have hs : (b.size : Int) = 2 + szIs I := by
      rw [← size_list, hb]; simp only [List.length_append, beBytes_length, List.length_nil]; omega
    have e2 : Nd.size ⟨true, I, [], []⟩ = 2 + szIs I := by rw [hsz]; simp
    rw [e2]
    refine ⟨hs, ?_⟩
    obtain ⟨e1, z1, d1⟩ := rdR_mid (b := b) (a := 0) (n := 1) (v := 1) (.inl rfl) (by decide) (by omega) (by decide) (by decide) hb
    obtain ⟨e3, z3, d3⟩ := rdR_mid (b := b) (a := 0 + 1) (n := 1) (v := I.length) (.inl rfl) (by decide) z1 (by omega) (by simp; omega) d1
    obtain ⟨e4, z4, d4⟩ := rdIs_mid I [] (0 + 1 + 1) [] hh (by decide) z3 d3
    unfold rdN
    simp only [e1, e3]
    rw [if_pos trivial]
    simp only [Int.toNat_natCast, e4]
    simp
  | false =>
    have hg' : goodN false I K D = true := hg
    obtain ⟨rfl, h1, h2, h3, hD, _⟩ := good_inner hg'
    obtain ⟨d, E, rfl⟩ : ∃ d E, D = d :: E := by
      cases D with
      | nil => simp at h3
      | cons d E => exact ⟨d, E, rfl⟩
    have hE : E.length = K.length := by simpa using h3
    have hd := page_bd (hD d (List.mem_cons_self ..))
    have hP := pairs_half ht.K (fun x hx => hD x (List.mem_cons_of_mem _ hx))
    have hb := inner_list (I := []) hP (d := d) (by omega) h2
    have hzl : (K.zip E).length = K.length := by rw [List.length_zip]; omega
    generalize Nd.bytes ⟨false, [], K, d :: E⟩ = b at hb ⊢
    have hs : (b.size : Int) = 4 + 6 * K.length := by
      rw [← size_list, hb]; simp only [List.length_append, beBytes_length, List.length_nil, prs_len, hzl]; omega
    have e2 : Nd.size ⟨false, [], K, d :: E⟩ = 4 + 6 * K.length := by rw [hsz, List.length_cons, hE]; simp [szIs]; omega
    rw [e2]
    refine ⟨hs, ?_⟩
    obtain ⟨e1, z1, d1⟩ := rdR_mid (b := b) (a := 0) (n := 1) (v := 2) (.inl rfl) (by decide) (by omega) (by decide) (by decide) hb
    obtain ⟨e3, z3, d3⟩ := rdR_mid (b := b) (a := 0 + 1) (n := 1) (v := K.length) (.inl rfl) (by decide) z1 (by omega) (by simp; omega) d1
    obtain ⟨e4, z4, d4⟩ := rdR_mid (b := b) (a := 0 + 1 + 1) (n := 2) (v := d) (.inr (.inl rfl)) (by decide) z3 (by omega) (by simp; omega) d3
    obtain ⟨e5, z5, d5⟩ := rdPs_mid (K.zip E) [] [d] (0 + 1 + 1 + 2) [] hP (by decide) z4 d4
    rw [hzl, fst_zip hE, snd_zip hE] at e5
    unfold rdN
    simp only [e1, e3, e4]
    rw [if_neg (by decide), if_pos trivial]
    simp only [Int.toNat_natCast, e5]
    simp
/-- What was encoded is decoded as it was. -/
theorem dec_encN {n : Nd} (ht : n.typed) (hg : n.good = true) (hs : n.size ≤ 236) : decN n.bytes = (n, 0) := by
  obtain ⟨h1, h2⟩ := good_back ht hg
  have : decOk n.bytes = true := by unfold decOk; rw [h2]; simp [h1, hg, hs]
  unfold decN; rw [if_pos this, h2]
theorem size_pos {n : Nd} (ht : n.typed) (hg : n.good = true) : 2 ≤ n.size := by
  obtain ⟨h1, _⟩ := good_back ht hg
  obtain ⟨lf, I, K, D⟩ := n
  unfold Nd.size
  rw [if_pos hg]
  have : 0 ≤ szIs I := by
    cases lf with
    | true =>
      obtain ⟨rfl, rfl, hl, hI, _⟩ := good_leaf hg
      rw [← its_len fun x hx => half_good (ht.I x hx) (hI x hx)]; omega
    | false => obtain ⟨rfl, _⟩ := good_inner hg; simp [szIs]
  simp only
  omega
/-- A good node that was read: its keys are of 32 bits, it has as many bytes as were read, and these are its own. -/
theorem rdN_ok {b : ByteArray} (hb : (rdN b).2.2 = false) (hg : (rdN b).1.good = true) :
    (rdN b).1.typed ∧ (rdN b).2.1 = (rdN b).1.size ∧ 0 ≤ (rdN b).2.1 ∧ (rdN b).1.bytes.data.toList = b.data.toList.take (rdN b).2.1.toNat := by
  have hsz : (rdN b).1.size = 2 + szIs (rdN b).1.I + 4 * (rdN b).1.K.length + 2 * (rdN b).1.D.length := by unfold Nd.size; rw [if_pos hg]
  rw [hsz]
  clear hsz
  obtain ⟨k, a1, b1, h1⟩ : ∃ k a1 b1, rdR b 0 false 1 = (k, a1, b1) := ⟨_, _, _, rfl⟩
  obtain ⟨c, a2, b2, h2⟩ : ∃ c a2 b2, rdR b a1 b1 1 = (c, a2, b2) := ⟨_, _, _, rfl⟩
  -- the two bytes ahead
  have ahead : b2 = false → 0 ≤ k ∧ 0 ≤ c ∧ c < 256 ∧ a2 = 2 ∧ 2 ≤ b.size ∧ b.data.toList.take 2 = beBytes k 1 ++ beBytes c 1 := by
    intro hb2
    subst hb2
    have r2 := rdR_ok (b := b) (a := a1) (bad := b1) (n := 1) (.inl rfl) (by rw [h2])
    rw [h2] at r2
    obtain ⟨s1, s2, s3, s4, s5, s6, s7⟩ := r2
    subst s1
    have r1 := rdR_ok (b := b) (a := 0) (bad := false) (n := 1) (.inl rfl) (by rw [h1])
    rw [h1] at r1
    obtain ⟨q1, q2, q3, q4, q5, q6, q7⟩ := r1
    simp only at s3 s5 s6 s7 q3 q5 q6 q7
    subst q3
    refine ⟨q5, s5, by simpa using s6, by omega, by omega, ?_⟩
    have n1 : (1 : Int).toNat = 1 := rfl
    rw [n1] at s7 q7
    have e1 : ((0 : Int) + 1 + 1).toNat = 2 := rfl
    have e0 : (0 : Int).toNat = 0 := rfl
    rw [e1] at s7
    rw [s7, q7, e0]; simp
  unfold rdN at hb hg ⊢
  simp only [h1, h2] at hb hg ⊢
  by_cases k1 : k = 1
  · simp only [if_pos k1] at hb hg ⊢
    have hb2 : b2 = false := by
      cases hb2 : b2 with
      | false => rfl
      | true =>
        have : ∀ n, rdIs b ([], a2, true) n = ([], a2, true) := by
          intro n
          induction n with
          | zero => rfl
          | succ n ih => show itStep b _ = _; rw [ih]; rfl
        rw [hb2, this] at hb; exact absurd hb (by simp)
    obtain ⟨_, hc0, hc1, rfl, hz, ht⟩ := ahead hb2
    subst k1
    obtain ⟨_, I, i2, i3, i4, i5, i6, i6', i7⟩ := rdIs_ok (b := b) ([], 2, b2) (by simp) (by simp; omega) c.toNat hb
    simp only [List.nil_append] at i3 i5 i7
    simp only [i3, i5] at hg ⊢
    have hl := (good_leaf hg).2.2.1
    have hcI : c = (I.length : Int) := by omega
    refine ⟨⟨fun x hx => ⟨(i4 x hx).k0, (i4 x hx).k1⟩, fun x hx => absurd hx (by simp)⟩, by simp, by omega, ?_⟩
    rw [leaf_list i4 hl, i7]
    have e2 : (2 : Int).toNat = 2 := rfl
    rw [e2, ht, hcI]; simp
  · simp only [if_neg k1] at hb hg ⊢
    by_cases k2 : k = 2
    · simp only [if_pos k2] at hb hg ⊢
      obtain ⟨d, a3, b3, h3⟩ : ∃ d a3 b3, rdR b a2 b2 2 = (d, a3, b3) := ⟨_, _, _, rfl⟩
      simp only [h3] at hb hg ⊢
      have hb3 : b3 = false := by
        cases hb3 : b3 with
        | false => rfl
        | true =>
          have : ∀ n, rdPs b ([], [d], a3, true) n = ([], [d], a3, true) := by
            intro n
            induction n with
            | zero => rfl
            | succ n ih => show prStep b _ = _; rw [ih]; rfl
          rw [hb3, this] at hb; exact absurd hb (by simp)
      subst hb3
      have r3 := rdR_ok (b := b) (a := a2) (bad := b2) (n := 2) (.inr (.inl rfl)) (by rw [h3])
      rw [h3] at r3
      obtain ⟨t1, t2, t3, t4, t5, t6, t7⟩ := r3
      obtain ⟨_, hc0, hc1, rfl, hz, ht⟩ := ahead t1
      simp only at t3 t5 t6 t7
      subst t3
      obtain ⟨_, P, p2, p3, p3', p4, p5, p6, p7⟩ := rdPs_ok (b := b) ([], [d], 2 + 2, false) (by simp) (by simp; omega) c.toNat hb
      simp only [List.nil_append, List.cons_append] at p3 p3' p5 p7
      simp only [p3, p3', p5] at hg ⊢
      subst k2
      obtain ⟨_, g1, g2, g3, g4, _⟩ := good_inner hg
      have hcK : c = (P.map Prod.fst).length := by rw [List.length_map]; omega
      have hzip : (P.map Prod.fst).zip (P.map Prod.snd) = P := (List.zip_of_prod (xs := P) rfl rfl).symm
      refine ⟨⟨fun x hx => absurd hx (by simp), fun x hx => ?_⟩, ?_, by omega, ?_⟩
      · obtain ⟨p, hp, rfl⟩ := List.mem_map.1 hx
        exact (p4 p hp).1
      · simp only [szIs, List.map_nil, List.sum_nil, List.length_cons, List.length_map, p2]; omega
      · have hP : ∀ x ∈ (P.map Prod.fst).zip (P.map Prod.snd), halfP x := by rw [hzip]; exact p4
        rw [inner_list hP (by simpa using t6) g2, p7, hzip]
        have e2 : (2 : Int).toNat = 2 := rfl
        have e4 : ((2 : Int) + 2).toNat = 4 := rfl
        rw [e4, e2] at t7
        rw [e4, t7, ht, ← hcK]; simp
    · simp only [if_neg k2] at hb hg ⊢
      exact absurd hg (by decide)
/-- What was decoded is encoded as it stood. -/
theorem enc_decN {b : ByteArray} (h : decOk b = true) : (rdN b).1.enc = (b, 0) ∧ (rdN b).1.typed ∧ (rdN b).1.good = true ∧ (rdN b).1.size = b.size := by
  unfold decOk at h
  simp only [Bool.and_eq_true, Bool.not_eq_true', decide_eq_true_eq] at h
  obtain ⟨⟨⟨h1, h2⟩, h3⟩, h4⟩ := h
  obtain ⟨t1, t2, t3, t4⟩ := rdN_ok h1 h3
  refine ⟨?_, t1, h3, by omega⟩
  unfold Nd.enc
  rw [if_neg (by simp [h3]), if_neg (by omega)]
  refine Prod.ext ?_ rfl
  apply bytes_ext
  rw [t4, h2, Int.toNat_natCast, List.take_of_length_le (by rw [size_list]; omega)]
end Go.Proofs.YtlpdanghcdajmaaDoor
