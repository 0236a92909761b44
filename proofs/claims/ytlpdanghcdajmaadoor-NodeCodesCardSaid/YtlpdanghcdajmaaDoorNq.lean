/- Nodes (layer 23), plain words: what was encoded is decoded as it was, and back. -/
import Derived.Test.YtlpdanghcdajmaaDoorNp
namespace Go.Proofs.YtlpdanghcdajmaaDoor
open Go.RowKit
/-- Keys are of 32 bits. -/
structure Nd.typed (n : Nd) : Prop where
  I : ∀ x ∈ n.I, 0 ≤ x.key ∧ x.key < 4294967296
  K : ∀ k ∈ n.K, 0 ≤ k ∧ k < 4294967296
theorem numR_list {v n : Int} (hn : n = 1 ∨ n = 2 ∨ n = 4) (h1 : v < 256 ^ n.toNat) : (numR v n).1.data.toList = beBytes v n.toNat := by
  have hs : sizeB n = true := by rcases hn with rfl | rfl | rfl <;> decide
  unfold numR
  rw [if_neg (by simp [hs]), if_neg (by omega)]
  exact strOfNums_list _ _
def itL (x : It) : List UInt8 := beBytes x.key 4 ++ (beBytes x.size 2 ++ (if x.size ≤ 40 then x.text.data.toList else beBytes x.page 2))
def prL (p : Int × Int) : List UInt8 := beBytes p.1 4 ++ beBytes p.2 2
/-- What an item that can be read is. -/
structure half (x : It) : Prop where
  k0 : 0 ≤ x.key
  k1 : x.key < 4294967296
  z0 : 0 ≤ x.size
  z1 : x.size < 65536
  s : x.size ≤ 40 → (x.text.size : Int) = x.size ∧ x.page = 0
  l : ¬ x.size ≤ 40 → x.text = ⟨#[]⟩ ∧ 0 ≤ x.page ∧ x.page < 65536
theorem half_good {x : It} (hk : 0 ≤ x.key ∧ x.key < 4294967296) (h : goodI x = true) : half x := by
  unfold goodI at h
  split at h
  · rename_i hz
    simp only [Bool.and_eq_true, decide_eq_true_eq, beq_iff_eq] at h
    exact ⟨hk.1, hk.2, h.1.1, by omega, fun _ => ⟨h.1.2, h.2⟩, fun hn => absurd hz hn⟩
  · rename_i hz
    simp only [Bool.and_eq_true, decide_eq_true_eq, pageB] at h
    refine ⟨hk.1, hk.2, by omega, by omega, fun hn => absurd hn hz, fun _ => ⟨?_, h.2.1, by omega⟩⟩
    apply bytes_ext; rw [← ByteArray.toList_eq]; simpa using h.1.2
theorem encI_list {x : It} (h : half x) : (encI x).data.toList = itL x := by
  unfold encI itL
  rw [list_append, list_append, numR_list (.inr (.inr rfl)) (by have := h.k1; simpa using this), numR_list (.inr (.inl rfl)) (by have := h.z1; simpa using this), List.append_assoc]
  congr 2
  split
  · rfl
  · rename_i hz
    exact numR_list (.inr (.inl rfl)) (by have := (h.l hz).2.2; simpa using this)
theorem itL_len {x : It} (h : half x) : ((itL x).length : Int) = szI x := by
  unfold itL szI
  simp only [List.length_append, beBytes_length]
  split
  · rename_i hz
    have := (h.s hz).1
    rw [size_list]; omega
  · simp [beBytes_length]
theorem foldl_list {α : Type} (f : α → ByteArray) : ∀ (l : List α) (s : ByteArray), (l.foldl (fun s x => s ++ f x) s).data.toList = s.data.toList ++ (l.map fun x => (f x).data.toList).flatten := by
  intro l
  induction l with
  | nil => intro s; simp
  | cons x l ih => intro s; rw [List.foldl_cons, ih, list_append, List.map_cons, List.flatten_cons, List.append_assoc]
theorem its_list {l : List It} (h : ∀ x ∈ l, half x) : (l.map fun x => (encI x).data.toList).flatten = (l.map itL).flatten := by
  congr 1
  exact List.map_congr_left fun x hx => encI_list (h x hx)
theorem its_len : ∀ {l : List It}, (∀ x ∈ l, half x) → (((l.map itL).flatten).length : Int) = szIs l
  | [], _ => rfl
  | x :: l, h => by
    have ih := its_len (l := l) fun y hy => h y (List.mem_cons_of_mem _ hy)
    have hx := itL_len (h x (List.mem_cons_self ..))
    rw [List.map_cons, List.flatten_cons, List.length_append]
    unfold szIs at ih ⊢
    rw [List.map_cons, List.sum_cons]
    omega
/-- A pair that can be read. -/
def halfP (p : Int × Int) : Prop := (0 ≤ p.1 ∧ p.1 < 4294967296) ∧ 0 ≤ p.2 ∧ p.2 < 65536
theorem encP_list {p : Int × Int} (h : halfP p) : (encP p).data.toList = prL p := by
  unfold encP prL
  rw [list_append, numR_list (.inr (.inr rfl)) (by have := h.1.2; simpa using this), numR_list (.inr (.inl rfl)) (by have := h.2.2; simpa using this)]
  rfl
theorem prs_list {l : List (Int × Int)} (h : ∀ x ∈ l, halfP x) : (l.map fun x => (encP x).data.toList).flatten = (l.map prL).flatten := by
  congr 1
  exact List.map_congr_left fun x hx => encP_list (h x hx)
theorem prs_len : ∀ (l : List (Int × Int)), ((l.map prL).flatten).length = 6 * l.length
  | [] => rfl
  | x :: l => by
    have ih := prs_len l
    rw [List.map_cons, List.flatten_cons, List.length_append, ih, List.length_cons]
    simp only [prL, List.length_append, beBytes_length]; omega
/-! ### reading what was written -/
theorem drop_size {b : ByteArray} {a : Nat} {l q : List UInt8} (h : b.data.toList.drop a = l ++ q) (ha : a ≤ b.size) : a + l.length ≤ b.size := by
  have := congrArg List.length h
  rw [List.length_drop, size_list, List.length_append] at this; omega
theorem rdT_mid {b : ByteArray} {a : Int} {t : ByteArray} {q : List UInt8} (ha : 0 ≤ a) (hb : a ≤ b.size) (h : b.data.toList.drop a.toNat = t.data.toList ++ q) :
    rdT b a false t.size = (t, a + t.size, false) ∧ a + t.size ≤ b.size ∧ b.data.toList.drop (a + t.size).toNat = q := by
  obtain ⟨A, rfl⟩ := Int.eq_ofNat_of_zero_le ha
  simp only [Int.toNat_natCast] at h
  have hz := drop_size h (by omega)
  rw [size_list] at hz
  have e1 : ((A : Int) + t.size).toNat = A + t.size := by omega
  have hd : b.data.toList.drop (A + t.size) = q := by
    rw [← List.drop_drop, h]
    have := List.drop_left (l₁ := t.data.toList) (l₂ := q)
    rw [size_list] at this; exact this
  refine ⟨?_, by omega, by rw [e1]; exact hd⟩
  unfold rdT
  rw [if_neg (by simp; omega)]
  congr 1
  apply bytes_ext
  rw [e1]
  simp only [Int.toNat_natCast, ByteArray.data_extract, Array.toList_extract, List.extract_eq_take_drop, h]
  have e2 : A + t.size - A = t.data.toList.length := by rw [size_list]; omega
  rw [e2, List.take_left]
theorem rdI_mid {b : ByteArray} {a : Int} {x : It} {q : List UInt8} (hx : half x) (ha : 0 ≤ a) (hb : a ≤ b.size) (h : b.data.toList.drop a.toNat = itL x ++ q) :
    rdI b a false = (x, a + szI x, false) ∧ a + szI x ≤ b.size ∧ b.data.toList.drop (a + szI x).toNat = q := by
  unfold itL at h
  rw [List.append_assoc, List.append_assoc] at h
  obtain ⟨e1, z1, d1⟩ := rdR_mid (.inr (.inr rfl)) ha hb hx.k0 (by have := hx.k1; simpa using this) h
  obtain ⟨e2, z2, d2⟩ := rdR_mid (.inr (.inl rfl)) (by omega) z1 hx.z0 (by have := hx.z1; simpa using this) d1
  unfold rdI szI
  simp only [e1, e2]
  by_cases hz : x.size ≤ 40
  · simp only [if_pos hz] at d2 ⊢
    obtain ⟨ht, hp⟩ := hx.s hz
    obtain ⟨e3, z3, d3⟩ := rdT_mid (by omega) z2 d2
    rw [ht] at e3 z3 d3
    rw [e3]
    obtain ⟨xk, xs, xt, xp⟩ := x
    simp only at *
    subst hp
    have : a + 4 + 2 + xs = a + (6 + xs) := by omega
    rw [this] at z3 d3 ⊢
    exact ⟨rfl, z3, d3⟩
  · simp only [if_neg hz] at d2 ⊢
    obtain ⟨ht, hp0, hp1⟩ := hx.l hz
    obtain ⟨e3, z3, d3⟩ := rdR_mid (.inr (.inl rfl)) (by omega) z2 hp0 (by simpa using hp1) d2
    rw [e3]
    obtain ⟨xk, xs, xt, xp⟩ := x
    simp only at *
    subst ht
    have : a + 4 + 2 + 2 = a + (6 + 2) := by omega
    rw [this] at z3 d3 ⊢
    exact ⟨rfl, z3, d3⟩
theorem rdIs_succ (b : ByteArray) (s : List It × Int × Bool) : ∀ n, rdIs b s (n + 1) = rdIs b (itStep b s) n
  | 0 => rfl
  | n + 1 => by
    show itStep b (rdIs b s (n + 1)) = itStep b (rdIs b (itStep b s) n)
    rw [rdIs_succ b s n]
theorem rdIs_mid {b : ByteArray} : ∀ (I L : List It) (a : Int) (q : List UInt8), (∀ x ∈ I, half x) → 0 ≤ a → a ≤ b.size → b.data.toList.drop a.toNat = (I.map itL).flatten ++ q →
    rdIs b (L, a, false) I.length = (L ++ I, a + szIs I, false) ∧ a + szIs I ≤ b.size ∧ b.data.toList.drop (a + szIs I).toNat = q
  | [], L, a, q, _, _, hb, h => by
    have e : a + szIs [] = a := by simp [szIs]
    rw [e, List.append_nil]
    exact ⟨rfl, hb, by simpa using h⟩
  | x :: I, L, a, q, hx, ha, hb, h => by
    rw [List.map_cons, List.flatten_cons, List.append_assoc] at h
    obtain ⟨e1, z1, d1⟩ := rdI_mid (hx x (List.mem_cons_self ..)) ha hb h
    have hz : 0 ≤ szI x := by rw [← itL_len (hx x (List.mem_cons_self ..))]; omega
    obtain ⟨e2, z2, d2⟩ := rdIs_mid I (L ++ [x]) (a + szI x) q (fun y hy => hx y (List.mem_cons_of_mem _ hy)) (by omega) z1 d1
    have e3 : szIs (x :: I) = szI x + szIs I := by simp [szIs]
    rw [e3, ← Int.add_assoc]
    rw [List.length_cons, rdIs_succ]
    have e4 : itStep b (L, a, false) = (L ++ [x], a + szI x, false) := by simp [itStep, e1]
    rw [e4, e2]
    exact ⟨by simp, z2, d2⟩
theorem rdPs_succ (b : ByteArray) (s : List Int × List Int × Int × Bool) : ∀ n, rdPs b s (n + 1) = rdPs b (prStep b s) n
  | 0 => rfl
  | n + 1 => by
    show prStep b (rdPs b s (n + 1)) = prStep b (rdPs b (prStep b s) n)
    rw [rdPs_succ b s n]
theorem rdPs_mid {b : ByteArray} : ∀ (P : List (Int × Int)) (K D : List Int) (a : Int) (q : List UInt8), (∀ x ∈ P, halfP x) → 0 ≤ a → a ≤ b.size → b.data.toList.drop a.toNat = (P.map prL).flatten ++ q →
    rdPs b (K, D, a, false) P.length = (K ++ P.map Prod.fst, D ++ P.map Prod.snd, a + 6 * P.length, false) ∧ a + 6 * P.length ≤ b.size ∧ b.data.toList.drop (a + 6 * P.length).toNat = q
  | [], K, D, a, q, _, _, hb, h => by
    refine ⟨by simp [rdPs], by simpa using hb, by simpa using h⟩
  | x :: P, K, D, a, q, hx, ha, hb, h => by
    rw [List.map_cons, List.flatten_cons, List.append_assoc] at h
    have hp := hx x (List.mem_cons_self ..)
    unfold prL at h
    rw [List.append_assoc] at h
    obtain ⟨e1, z1, d1⟩ := rdR_mid (.inr (.inr rfl)) ha hb hp.1.1 (by have := hp.1.2; simpa using this) h
    obtain ⟨e2, z2, d2⟩ := rdR_mid (.inr (.inl rfl)) (by omega) z1 hp.2.1 (by have := hp.2.2; simpa using this) d1
    have e6 : a + 4 + 2 = a + 6 := by omega
    rw [e6] at e2 z2 d2
    obtain ⟨e3, z3, d3⟩ := rdPs_mid P (K ++ [x.1]) (D ++ [x.2]) (a + 6) q (fun y hy => hx y (List.mem_cons_of_mem _ hy)) (by omega) z2 d2
    have e4 : a + 6 * ((x :: P).length : Int) = a + 6 + 6 * (P.length : Int) := by rw [List.length_cons]; omega
    rw [e4, List.length_cons, rdPs_succ]
    have e5 : prStep b (K, D, a, false) = (K ++ [x.1], D ++ [x.2], a + 6, false) := by simp [prStep, e1, e2]
    rw [e5, e3]
    exact ⟨by simp, z3, d3⟩
/-! ### what was read is what stands there -/
theorem rdT_ok {b : ByteArray} {a n : Int} {bad : Bool} (ha : 0 ≤ a) (hab : a ≤ b.size) (hn : 0 ≤ n) (h : (rdT b a bad n).2.2 = false) :
    bad = false ∧ (rdT b a bad n).2.1 = a + n ∧ a + n ≤ b.size ∧ ((rdT b a bad n).1.size : Int) = n ∧ b.data.toList.take (a + n).toNat = b.data.toList.take a.toNat ++ (rdT b a bad n).1.data.toList := by
  unfold rdT at h ⊢
  by_cases hc : (bad || decide ((b.size : Int) - a < n)) = true
  · rw [if_pos hc] at h; exact absurd h (by simp)
  rw [if_neg hc]
  simp only [Bool.or_eq_true, not_or, Bool.not_eq_true, decide_eq_true_eq] at hc
  obtain ⟨A, rfl⟩ := Int.eq_ofNat_of_zero_le ha
  obtain ⟨N, rfl⟩ := Int.eq_ofNat_of_zero_le hn
  have e1 : ((A : Int) + N).toNat = A + N := by omega
  rw [e1]
  simp only [Int.toNat_natCast]
  refine ⟨hc.1, trivial, by omega, by simp; omega, ?_⟩
  simp only [ByteArray.data_extract, Array.toList_extract, List.extract_eq_take_drop]
  rw [List.take_add]
  congr 2
  omega
theorem rdI_ok {b : ByteArray} {a : Int} {bad : Bool} (h : (rdI b a bad).2.2 = false) :
    bad = false ∧ 0 ≤ a ∧ half (rdI b a bad).1 ∧ (rdI b a bad).2.1 = a + szI (rdI b a bad).1 ∧ a + szI (rdI b a bad).1 ≤ b.size ∧
      b.data.toList.take (a + szI (rdI b a bad).1).toNat = b.data.toList.take a.toNat ++ itL (rdI b a bad).1 := by
  obtain ⟨k, a1, b1, h1⟩ : ∃ k a1 b1, rdR b a bad 4 = (k, a1, b1) := ⟨_, _, _, rfl⟩
  obtain ⟨z, a2, b2, h2⟩ : ∃ z a2 b2, rdR b a1 b1 2 = (z, a2, b2) := ⟨_, _, _, rfl⟩
  unfold rdI at h ⊢
  simp only [h1, h2] at h ⊢
  by_cases hz : z ≤ 40
  · simp only [if_pos hz] at h ⊢
    have hz0 : 0 ≤ z ∧ 0 ≤ a2 ∧ a2 ≤ b.size := by
      cases hb2 : b2 with
      | true => rw [hb2] at h; simp [rdT] at h
      | false =>
        have r2 := rdR_ok (b := b) (a := a1) (bad := b1) (n := 2) (.inr (.inl rfl)) (by rw [h2, hb2])
        rw [h2] at r2
        simp only at r2
        omega
    obtain ⟨t1, t2, t3, t4, t5⟩ := rdT_ok hz0.2.1 hz0.2.2 hz0.1 h
    subst t1
    have r2 := rdR_ok (b := b) (a := a1) (bad := b1) (n := 2) (.inr (.inl rfl)) (by rw [h2])
    rw [h2] at r2
    obtain ⟨s1, s2, s3, s4, s5, s6, s7⟩ := r2
    subst s1
    have r1 := rdR_ok (b := b) (a := a) (bad := bad) (n := 4) (.inr (.inr rfl)) (by rw [h1])
    rw [h1] at r1
    obtain ⟨q1, q2, q3, q4, q5, q6, q7⟩ := r1
    simp only at s3 s5 s6 s7 q3 q5 q6 q7
    subst q3
    subst s3
    have e1 : a + (6 + z) = a + 4 + 2 + z := by omega
    unfold szI itL
    simp only [if_pos hz]
    rw [e1]
    refine ⟨q1, q2, ⟨q5, by simpa using q6, s5, by simpa using s6, fun _ => ⟨t4, rfl⟩, fun hn => absurd hz hn⟩, t2, t3, ?_⟩
    rw [t5]
    have n2 : (2 : Int).toNat = 2 := rfl
    have n4 : (4 : Int).toNat = 4 := rfl
    rw [n2] at s7; rw [n4] at q7
    rw [s7, q7]; simp
  · simp only [if_neg hz] at h ⊢
    obtain ⟨p, a3, b3, h3⟩ : ∃ p a3 b3, rdR b a2 b2 2 = (p, a3, b3) := ⟨_, _, _, rfl⟩
    simp only [h3] at h ⊢
    subst h
    have r3 := rdR_ok (b := b) (a := a2) (bad := b2) (n := 2) (.inr (.inl rfl)) (by rw [h3])
    rw [h3] at r3
    obtain ⟨t1, t2, t3, t4, t5, t6, t7⟩ := r3
    subst t1
    have r2 := rdR_ok (b := b) (a := a1) (bad := b1) (n := 2) (.inr (.inl rfl)) (by rw [h2])
    rw [h2] at r2
    obtain ⟨s1, s2, s3, s4, s5, s6, s7⟩ := r2
    subst s1
    have r1 := rdR_ok (b := b) (a := a) (bad := bad) (n := 4) (.inr (.inr rfl)) (by rw [h1])
    rw [h1] at r1
    obtain ⟨q1, q2, q3, q4, q5, q6, q7⟩ := r1
    simp only at s3 s5 s6 s7 q3 q5 q6 q7 t3 t5 t6 t7
    subst q3
    subst s3
    subst t3
    have e1 : a + (6 + 2) = a + 4 + 2 + 2 := by omega
    unfold szI itL
    simp only [if_neg hz]
    rw [e1]
    refine ⟨q1, q2, ⟨q5, by simpa using q6, s5, by simpa using s6, fun hn => absurd hn hz, fun _ => ⟨rfl, t5, by simpa using t6⟩⟩, rfl, t4, ?_⟩
    have n2 : (2 : Int).toNat = 2 := rfl
    have n4 : (4 : Int).toNat = 4 := rfl
    rw [n2] at s7 t7; rw [n4] at q7
    rw [t7, s7, q7]; simp
theorem rdIs_ok {b : ByteArray} (s : List It × Int × Bool) (hs0 : 0 ≤ s.2.1) (hs1 : s.2.1 ≤ b.size) : ∀ n, (rdIs b s n).2.2 = false →
    s.2.2 = false ∧ ∃ I : List It, I.length = n ∧ (rdIs b s n).1 = s.1 ++ I ∧ (∀ x ∈ I, half x) ∧ (rdIs b s n).2.1 = s.2.1 + szIs I ∧ s.2.1 + szIs I ≤ b.size ∧ 0 ≤ szIs I ∧
      b.data.toList.take (s.2.1 + szIs I).toNat = b.data.toList.take s.2.1.toNat ++ (I.map itL).flatten
  | 0, h => ⟨h, [], rfl, by simp [rdIs], fun x hx => absurd hx (by simp), by simp [rdIs, szIs], by simpa [szIs] using hs1, by simp [szIs], by simp [szIs]⟩
  | n + 1, h => by
    have hst : rdIs b s (n + 1) = itStep b (rdIs b s n) := rfl
    rw [hst] at h ⊢
    obtain ⟨L, a, bad, hr⟩ : ∃ L a bad, rdIs b s n = (L, a, bad) := ⟨_, _, _, rfl⟩
    have ih := rdIs_ok s hs0 hs1 n
    rw [hr] at h ih ⊢
    cases bad with
    | true => exact absurd h (by simp [itStep])
    | false =>
      obtain ⟨i1, I, i2, i3, i4, i5, i6, i6', i7⟩ := ih rfl
      simp only at i3 i5
      have e : itStep b (L, a, false) = (L ++ [(rdI b a false).1], (rdI b a false).2.1, (rdI b a false).2.2) := by simp [itStep]
      rw [e] at h ⊢
      obtain ⟨_, r2, r3, r4, r5, r6⟩ := rdI_ok h
      have esz : szIs (I ++ [(rdI b a false).1]) = szIs I + szI (rdI b a false).1 := by simp [szIs]
      have hz : 0 ≤ szI (rdI b a false).1 := by rw [← itL_len r3]; omega
      refine ⟨i1, I ++ [(rdI b a false).1], by simp [i2], by simp [i3], ?_, ?_, ?_, by omega, ?_⟩
      · intro x hx
        rcases List.mem_append.1 hx with hx | hx
        · exact i4 x hx
        · rw [List.mem_singleton.1 hx]; exact r3
      · simp only [r4, esz]; omega
      · rw [esz, ← Int.add_assoc, ← i5]; exact r5
      · rw [esz, ← Int.add_assoc, ← i5, r6, i5, i7]; simp
theorem rdPs_ok {b : ByteArray} (s : List Int × List Int × Int × Bool) (hs0 : 0 ≤ s.2.2.1) (hs1 : s.2.2.1 ≤ b.size) : ∀ n, (rdPs b s n).2.2.2 = false →
    s.2.2.2 = false ∧ ∃ P : List (Int × Int), P.length = n ∧ (rdPs b s n).1 = s.1 ++ P.map Prod.fst ∧ (rdPs b s n).2.1 = s.2.1 ++ P.map Prod.snd ∧ (∀ x ∈ P, halfP x) ∧ (rdPs b s n).2.2.1 = s.2.2.1 + 6 * n ∧ s.2.2.1 + 6 * n ≤ b.size ∧
      b.data.toList.take (s.2.2.1 + 6 * n).toNat = b.data.toList.take s.2.2.1.toNat ++ (P.map prL).flatten
  | 0, h => ⟨h, [], rfl, by simp [rdPs], by simp [rdPs], fun x hx => absurd hx (by simp), by simp [rdPs], by simpa using hs1, by simp⟩
  | n + 1, h => by
    have hst : rdPs b s (n + 1) = prStep b (rdPs b s n) := rfl
    rw [hst] at h ⊢
    obtain ⟨K, D, a, bad, hr⟩ : ∃ K D a bad, rdPs b s n = (K, D, a, bad) := ⟨_, _, _, _, rfl⟩
    have ih := rdPs_ok s hs0 hs1 n
    rw [hr] at h ih ⊢
    cases bad with
    | true => exact absurd h (by simp [prStep])
    | false =>
      obtain ⟨i1, P, i2, i3, i3', i4, i5, i6, i7⟩ := ih rfl
      simp only at i3 i3' i5
      obtain ⟨k, a1, b1, h1⟩ : ∃ k a1 b1, rdR b a false 4 = (k, a1, b1) := ⟨_, _, _, rfl⟩
      obtain ⟨d, a2, b2, h2⟩ : ∃ d a2 b2, rdR b a1 b1 2 = (d, a2, b2) := ⟨_, _, _, rfl⟩
      have e : prStep b (K, D, a, false) = (K ++ [k], D ++ [d], a2, b2) := by simp [prStep, h1, h2]
      rw [e] at h ⊢
      simp only at h
      subst h
      have r2 := rdR_ok (b := b) (a := a1) (bad := b1) (n := 2) (.inr (.inl rfl)) (by rw [h2])
      rw [h2] at r2
      obtain ⟨s1, s2, s3, s4, s5, s6, s7⟩ := r2
      subst s1
      have r1 := rdR_ok (b := b) (a := a) (bad := false) (n := 4) (.inr (.inr rfl)) (by rw [h1])
      rw [h1] at r1
      obtain ⟨q1, q2, q3, q4, q5, q6, q7⟩ := r1
      simp only at s3 s5 s6 s7 q3 q5 q6 q7
      subst q3
      subst s3
      have e1 : s.2.2.1 + 6 * ((n + 1 : Nat) : Int) = a + 4 + 2 := by omega
      rw [e1]
      refine ⟨i1, P ++ [(k, d)], by simp [i2], by simp [i3], by simp [i3'], ?_, rfl, s4, ?_⟩
      · intro x hx
        rcases List.mem_append.1 hx with hx | hx
        · exact i4 x hx
        · rw [List.mem_singleton.1 hx]; exact ⟨⟨q5, by simpa using q6⟩, s5, by simpa using s6⟩
      · have n2 : (2 : Int).toNat = 2 := rfl
        have n4 : (4 : Int).toNat = 4 := rfl
        rw [n2] at s7; rw [n4] at q7
        rw [s7, q7, i5, i7]; simp [prL]
end Go.Proofs.YtlpdanghcdajmaaDoor
