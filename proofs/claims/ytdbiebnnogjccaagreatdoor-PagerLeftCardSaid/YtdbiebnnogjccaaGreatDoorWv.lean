/- The log (layer 21): what an opening reads behind a crash. -/
import Derived.Test.YtdbiebnnogjccaaGreatDoorWt
namespace Go.Proofs.YtdbiebnnogjccaaGreatDoor
theorem LL_drop (L : List ByteArray) (k : Nat) : LL (L.drop k) = (LL L).drop k := by unfold LL; rw [List.map_drop]
theorem LL_take (L : List ByteArray) (k : Nat) : LL (L.take k) = (LL L).take k := by unfold LL; rw [List.map_take]
/-- The least number that is read next, where a scan ends. -/
noncomputable def leastW (L : List ByteArray) : Nat → Int → Nat → Int
  | 0, least, _ => least
  | f + 1, least, used => match readF (LL (L.drop used)) with
    | none => least
    | some (_, n, k) => if n < least ∨ 2147483648 < n then least else leastW L f (n + 1) (used + k)
/-- A scan that stands there ends at once. -/
def StopW (T : List (List UInt8)) (m : Int) : Prop := ∀ s n k, readF T = some (s, n, k) → n < m ∨ 2147483648 < n
theorem scan_stop {L : List ByteArray} {f : Nat} {m : Int} {used : Nat} (h : StopW (LL (L.drop used)) m) : scanW L f m used = ([], used) := by
  cases hr : readF (LL (L.drop used)) with
  | none => exact scanW_none hr
  | some x => obtain ⟨s, n, k⟩ := x; exact scanW_stop hr (h s n k hr)
/-- Where a scan ends, it would end again; another area with the same sectors up to there is read alike. -/
theorem scan_prefix {A : List ByteArray} : ∀ (f : Nat) (m : Int) (u : Nat), A.length - u ≤ f → StopW (LL (A.drop (scanW A f m u).2)) (leastW A f m u) ∧ m ≤ leastW A f m u ∧
    ∀ T : List ByteArray, T.length = A.length → T.take (scanW A f m u).2 = A.take (scanW A f m u).2 → ∀ g, T.length - u ≤ g → scanW T g m u = ((scanW A f m u).1 ++ (scanW T g (leastW A f m u) (scanW A f m u).2).1, (scanW T g (leastW A f m u) (scanW A f m u).2).2)
  | 0, m, u, hf => by
    refine ⟨?_, Int.le_refl _, fun T _ _ g _ => rfl⟩
    have e : A.drop u = [] := List.drop_eq_nil_of_le (by omega)
    show StopW (LL (A.drop u)) m
    rw [e]
    intro s n k h
    cases h
  | f + 1, m, u, hf => by
    cases hr : readF (LL (A.drop u)) with
    | none =>
      have e1 : scanW A (f + 1) m u = ([], u) := scanW_none hr
      have e2 : leastW A (f + 1) m u = m := by simp only [leastW]; rw [hr]
      rw [e1, e2]
      exact ⟨fun s n k h => (by rw [hr] at h; cases h), Int.le_refl _, fun T _ _ g _ => rfl⟩
    | some x =>
      obtain ⟨s, n, k⟩ := x
      have hk := readF_pos hr
      rw [LL_length, List.length_drop] at hk
      by_cases hb : n < m ∨ 2147483648 < n
      · have e1 : scanW A (f + 1) m u = ([], u) := scanW_stop hr hb
        have e2 : leastW A (f + 1) m u = m := by simp only [leastW]; rw [hr]; dsimp only; rw [if_pos hb]
        rw [e1, e2]
        exact ⟨fun s' n' k' h => (by rw [hr] at h; cases h; exact hb), Int.le_refl _, fun T _ _ g _ => rfl⟩
      · have e1 : scanW A (f + 1) m u = (ofL s :: (scanW A f (n + 1) (u + k)).1, (scanW A f (n + 1) (u + k)).2) := by simp only [scanW]; rw [hr]; dsimp only; rw [if_neg hb]
        have e2 : leastW A (f + 1) m u = leastW A f (n + 1) (u + k) := by simp only [leastW]; rw [hr]; dsimp only; rw [if_neg hb]
        obtain ⟨i1, i2, i3⟩ := scan_prefix (A := A) f (n + 1) (u + k) (by omega)
        rw [e1, e2]
        refine ⟨i1, by omega, fun T hT ht g hg => ?_⟩
        have hle := scanW_le (L := A) f (n + 1) (u + k) (by omega)
        dsimp only at ht
        have hT2 : readF (LL (T.drop u)) = some (s, n, k) := by
          refine readF_local hr (by rw [LL_length, LL_length, List.length_drop, List.length_drop, hT]) ?_
          have e3 := congrArg (List.take (u + k)) ht
          rw [List.take_take, List.take_take, Nat.min_eq_left hle.2.1] at e3
          have e4 := congrArg (List.drop u) e3
          rw [List.drop_take, List.drop_take, Nat.add_sub_cancel_left] at e4
          rw [← LL_take, ← LL_take, e4]
        rw [scanW_step hT2 hb hg, i3 T hT ht g (by omega)]
        rfl
/-- Records one behind the other: their sectors. -/
noncomputable def layR (R : List (Int × List UInt8)) : List (List UInt8) := (R.map fun x => secsF x.1 x.2).flatten
theorem layR_cons (x : Int × List UInt8) (R : List (Int × List UInt8)) : layR (x :: R) = secsF x.1 x.2 ++ layR R := rfl
/-- Every sector is the old one, or has no number, or is the new one; where nothing new was written it is the old one. -/
structure TornR (q : Int) (T A B : List (List UInt8)) : Prop where
  ta : T.length = A.length
  tb : T.length = B.length
  low : ∀ i (h : i < A.length), numF A[i] < q
  each : ∀ i (h : i < T.length), T[i] = A[i]'(by omega) ∨ numF T[i] = 0 ∨ (T[i] = B[i]'(by omega) ∧ q ≤ numF T[i])
theorem TornR.drop {q : Int} {T A B : List (List UInt8)} (h : TornR q T A B) (k : Nat) : TornR q (T.drop k) (A.drop k) (B.drop k) := by
  refine ⟨by rw [List.length_drop, List.length_drop, h.ta], by rw [List.length_drop, List.length_drop, h.tb], fun i hi => ?_, fun i hi => ?_⟩
  · rw [List.getElem_drop]; exact h.low _ _
  · have := h.each (k + i) (by rw [List.length_drop] at hi; omega)
    simpa [List.getElem_drop] using this
/-- What is read with an old number stood there already. -/
theorem torn_low3 {q m : Int} {T A B : List (List UInt8)} {s' : List UInt8} {k : Nat} (h : TornR q T A B) (hr : readF T = some (s', m, k)) (hlow : m < q) : readF A = some (s', m, k) := by
  have hk := readF_pos hr
  have g2 : m ≠ 0 := by
    cases T with
    | nil => cases hr
    | cons x T' => have := readF_head hr; rw [this.1]; exact this.2.1
  refine readF_local hr h.ta ?_
  refine List.ext_getElem (by rw [List.length_take, List.length_take, h.ta]) fun j h1 h2 => ?_
  rw [List.getElem_take, List.getElem_take]
  have hj : j < k := by rw [List.length_take] at h1; omega
  have hpj := readF_pieces hr j hj
  rw [List.getD_eq_getElem?_getD, List.getElem?_eq_getElem (by omega), Option.getD_some] at hpj
  rcases h.each j (by omega) with e1 | e1 | e1
  · exact e1
  · rw [e1] at hpj; exact absurd hpj.symm g2
  · have := e1.2; omega
theorem torn_stop {q m : Int} {T A B : List (List UInt8)} (h : TornR q T A B) (hs : StopW A m ∨ q ≤ m) (hlow : ∀ s' m' k, readF T = some (s', m', k) → m' < q) : StopW T m := by
  intro s' m' k hr
  have h1 := hlow s' m' k hr
  rcases hs with hs | hs
  · exact hs s' m' k (torn_low3 h hr h1)
  · exact .inl (by omega)
/-- A record that is not whole is none, or an old one is read. -/
theorem torn_read {q n : Int} {T A B : List (List UInt8)} {s : List UInt8} {C : List (List UInt8)} (h : TornR q T A B) (hq : 0 < q) (hn : q ≤ n) (hn1 : n < 4294967296) (hs : s.length ≤ 2000) (hB : B = secsF n s ++ C) (hne : T.take (szN s.length) ≠ secsF n s) :
    ∀ s' m k, readF T = some (s', m, k) → m < q := by
  intro s' m k hr
  have hl := secsF_length n s
  have hp := sz_pos s.length
  have h9 := sz_le hs
  have hBl : szN s.length ≤ B.length := by rw [hB, List.length_append, hl]; omega
  have hTl : szN s.length ≤ T.length := by rw [h.tb]; exact hBl
  have hBi : ∀ i (hi : i < szN s.length), B[i]'(by omega) = secF n (allF s) (szN s.length) i := fun i hi => by
    subst hB
    rw [List.getElem_append_left (by rw [hl]; exact hi), secsF_get]
  -- a sector that is not the new one
  obtain ⟨i, hi, hbad⟩ : ∃ i, ∃ (hi : i < szN s.length), T[i]'(by omega) ≠ B[i]'(by omega) := by
    refine Classical.byContradiction fun hno => hne ?_
    refine List.ext_getElem (by rw [List.length_take, hl]; omega) fun i h1 h2 => ?_
    rw [List.getElem_take]
    rw [hl] at h2
    have := Classical.byContradiction fun hx : ¬ (T[i]'(by omega) = B[i]'(by omega)) => hno ⟨i, h2, hx⟩
    rw [this, hBi i h2, secsF_get]
  have hbn : numF (T[i]'(by omega)) ≠ n := by
    rcases h.each i (by omega) with e | e | e
    · rw [e]; have := h.low i (by rw [← h.ta]; omega); omega
    · rw [e]; omega
    · exact absurd e.1 hbad
  cases T with
  | nil => cases hr
  | cons x T' =>
    obtain ⟨g1, g2, g3⟩ := readF_head hr
    by_cases h0 : x = B[0]'(by omega)
    · have hx : x = secF n (allF s) (szN s.length) 0 := by rw [h0, hBi 0 (by omega)]
      have := read_other (L := x :: T') (x := x) (y := (x :: T')[i]'(by omega)) (k := szN s.length) (i := i) rfl (by rw [hx]; exact sec_many) (by omega) hi (List.getElem?_eq_getElem _) (by
        rw [hx, sec_num (by omega) hn1 (allF_length s) (by omega)]
        rw [hx] at hbn
        exact hbn)
      rw [this] at hr; cases hr
    · rcases h.each 0 (by simp) with e | e | e
      · have e : x = A[0]'(by rw [← h.ta]; simp) := e
        rw [g1, e]; exact h.low 0 _
      · exact absurd e g2
      · exact absurd e.1 h0
def risesW : Int → List (Int × List UInt8) → Prop
  | _, [] => True
  | m, x :: R => m ≤ x.1 ∧ x.1 ≤ 2147483648 ∧ x.2.length ≤ 2000 ∧ risesW (x.1 + 1) R
/-- What is read of new records behind the place where the elder scan ended: some of them, from the first on; at least those that are whole. -/
theorem torn_scan {q : Int} (hq : 0 < q) {T : List ByteArray} {f : Nat} : ∀ (R : List (Int × List UInt8)) (m n : Int) (u : Nat) (A B : List (List UInt8)), TornR q (LL (T.drop u)) A B → B = layR R ++ A.drop (layR R).length → risesW n R → q ≤ n → m ≤ n → (StopW A m ∨ q ≤ m) → T.length - u ≤ f →
    ∃ j u', j ≤ R.length ∧ scanW T f m u = ((R.take j).map (fun x => ofL x.2), u') ∧ (∀ i, i ≤ R.length → (LL (T.drop u)).take (layR (R.take i)).length = layR (R.take i) → i ≤ j) ∧ (LL (T.drop u)).take (layR (R.take j)).length = layR (R.take j)
  | [], m, n, u, A, B, h, hB, hR, hn, hm, hs, hf => by
    refine ⟨0, u, Nat.le_refl _, scan_stop (torn_stop h hs fun s' m' k hr => ?_), fun i hi _ => hi, rfl⟩
    have hB : B = A := by rw [hB]; rfl
    subst hB
    obtain ⟨x, T', hT⟩ : ∃ x T', LL (T.drop u) = x :: T' := by
      cases hx : LL (T.drop u) with
      | nil => rw [hx] at hr; cases hr
      | cons x T' => exact ⟨_, _, rfl⟩
    rw [hT] at hr h
    obtain ⟨g1, g2, g3⟩ := readF_head hr
    have hl := h.low 0 (by rw [← h.ta]; simp)
    rcases h.each 0 (by simp) with e | e | e
    · have e : x = B[0]'(by rw [← h.ta]; simp) := e
      rw [g1, e]; exact hl
    · exact absurd e g2
    · have e1 : x = B[0]'(by rw [← h.ta]; simp) := e.1
      rw [g1, e1]; exact hl
  | (n0, s) :: R, m, n, u, A, B, h, hB, hR, hn, hm, hs, hf => by
    obtain ⟨r1, r2, r3, r4⟩ := hR
    dsimp only at r1 r2 r3 r4
    rw [layR_cons, List.append_assoc] at hB
    dsimp only at hB
    have hl := secsF_length n0 s
    by_cases hw : (LL (T.drop u)).take (szN s.length) = secsF n0 s
    · -- the record is whole
      have hd : LL (T.drop (u + szN s.length)) = (LL (T.drop u)).drop (szN s.length) := by rw [← List.drop_drop, LL_drop]
      have hsp : LL (T.drop u) = secsF n0 s ++ LL (T.drop (u + szN s.length)) := by
        rw [hd, ← hw, List.take_append_drop]
      have hr : readF (LL (T.drop u)) = some (s, n0, szN s.length) := by rw [hsp]; exact read_made (by omega) (by omega) r3 _
      have hk := readF_pos hr
      rw [LL_length, List.length_drop] at hk
      have hT2 : TornR q (LL (T.drop (u + szN s.length))) (A.drop (szN s.length)) (B.drop (szN s.length)) := by
        rw [hd]; exact h.drop _
      obtain ⟨j, u', h1, h2, h3, h4⟩ := torn_scan hq R (n0 + 1) (n0 + 1) (u + szN s.length) _ _ hT2 (by
        rw [hB, List.drop_left' hl, List.drop_drop]
        congr 2
        rw [List.length_append, hl]) r4 (by omega) (Int.le_refl _) (.inr (by omega)) (Nat.le_trans (Nat.sub_le_sub_left (Nat.le_add_right _ _) _) hf)
      refine ⟨j + 1, u', by simp; omega, ?_, fun i hi ht => ?_, ?_⟩
      · rw [scanW_step hr (by omega) hf, h2]
        rfl
      · cases i with
        | zero => omega
        | succ i =>
          have : i ≤ j := by
            refine h3 i (by simpa using hi) ?_
            rw [List.take_succ_cons, layR_cons] at ht
            dsimp only at ht
            rw [List.length_append, hsp, List.take_length_add_append] at ht
            exact List.append_cancel_left ht
          omega
      · rw [List.take_succ_cons, layR_cons]
        dsimp only
        rw [List.length_append, hsp, List.take_length_add_append, h4]
    · refine ⟨0, u, Nat.zero_le _, scan_stop (torn_stop h hs (torn_read h hq (by omega) (by omega) r3 hB hw)), fun i hi ht => ?_, rfl⟩
      cases i with
      | zero => exact Nat.le_refl _
      | succ i =>
        refine absurd ?_ hw
        rw [List.take_succ_cons, layR_cons] at ht
        dsimp only at ht
        have e := congrArg (List.take (szN s.length)) ht
        rw [List.take_take, List.take_left' hl, Nat.min_eq_left (by rw [List.length_append, hl]; omega)] at e
        exact e
end Go.Proofs.YtdbiebnnogjccaaGreatDoor
