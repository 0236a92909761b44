/- The log (layer 21): a round's end: what is read behind a crash, and the next number. -/
import Derived.Test.YtdbiebnnogjccaaGreatDoorWv
namespace Go.Proofs.YtdbiebnnogjccaaGreatDoor
theorem nextW_le {N : Int} (hN : N ≤ 2147483649) : ∀ (L : List ByteArray) (m : Int), m ≤ N → (∀ b ∈ L, endA b < N ∧ endB b < N) → nextW m L ≤ N
  | [], m, h, _ => h
  | b :: L, m, h, hb => by
    show nextW (upB m b) L ≤ N
    obtain ⟨h1, h2⟩ := hb b (List.mem_cons_self ..)
    exact nextW_le hN L _ (by unfold upB upN; split <;> split <;> omega) fun x hx => hb x (List.mem_cons_of_mem _ hx)
theorem nextW_mono : ∀ (L : List ByteArray) (m m' : Int), m ≤ m' → nextW m L ≤ nextW m' L
  | [], _, _, h => h
  | b :: L, m, m', h => nextW_mono L _ _ (by unfold upB upN; split <;> split <;> omega)
theorem nextW_mem : ∀ (L : List ByteArray) (m : Int) (b : ByteArray), b ∈ L → (endA b ≤ 2147483648 → endA b < nextW m L) ∧ (endB b ≤ 2147483648 → endB b < nextW m L)
  | x :: L, m, b, h => by
    rcases List.mem_cons.1 h with rfl | h
    · have hg : upB m b ≤ nextW m (b :: L) := nextW_ge L _
      refine ⟨fun hb => ?_, fun hb => ?_⟩
      · refine Int.lt_of_lt_of_le ?_ hg
        have h1 := upN_ge (upN m (endA b)) (endB b)
        have h2 : endA b < upN m (endA b) := by unfold upN; rw [if_pos hb]; omega
        unfold upB; omega
      · refine Int.lt_of_lt_of_le ?_ hg
        unfold upB; generalize upN m (endA b) = y
        unfold upN; rw [if_pos hb]; omega
    · exact nextW_mem L (upB m x) b h
/-- Texts, numbered. -/
def numW : Int → List ByteArray → List (Int × List UInt8)
  | _, [] => []
  | q, s :: L => (q, s.data.toList) :: numW (q + 1) L
theorem numW_length : ∀ (q : Int) (L : List ByteArray), (numW q L).length = L.length
  | _, [] => rfl
  | q, s :: L => by rw [numW, List.length_cons, List.length_cons, numW_length]
theorem numW_texts : ∀ (q : Int) (L : List ByteArray), (numW q L).map (fun x => ofL x.2) = L
  | _, [] => rfl
  | q, s :: L => by rw [numW, List.map_cons, numW_texts, ofL_of]
theorem numW_take : ∀ (q : Int) (L : List ByteArray) (j : Nat), (numW q L).take j = numW q (L.take j)
  | _, [], j => by simp [numW]
  | q, s :: L, 0 => by simp [numW]
  | q, s :: L, j + 1 => by rw [numW, List.take_succ_cons, List.take_succ_cons, numW, numW_take]
theorem numW_snoc : ∀ (q : Int) (L : List ByteArray) (s : ByteArray), numW q (L ++ [s]) = numW q L ++ [(q + L.length, s.data.toList)]
  | q, [], s => by simp [numW]
  | q, x :: L, s => by
    rw [List.cons_append, numW, numW, numW_snoc, List.cons_append]
    congr 4
    simp; omega
theorem numW_rises : ∀ (q : Int) (L : List ByteArray), (∀ s ∈ L, s.size ≤ 2000) → q + L.length ≤ 2147483649 → risesW q (numW q L)
  | _, [], _, _ => trivial
  | q, s :: L, h, hq => by
    rw [List.length_cons] at hq
    exact ⟨Int.le_refl _, by dsimp only; omega, by dsimp only; rw [size_list]; exact h s (List.mem_cons_self ..), numW_rises _ L (fun x hx => h x (List.mem_cons_of_mem _ hx)) (by omega)⟩
theorem layR_snoc (R : List (Int × List UInt8)) (x : Int × List UInt8) : layR (R ++ [x]) = layR R ++ secsF x.1 x.2 := by unfold layR; simp
theorem layR_append (R S : List (Int × List UInt8)) : layR (R ++ S) = layR R ++ layR S := by unfold layR; simp
/-- The sectors of records: each has its number at both ends. -/
theorem layR_mem : ∀ (R : List (Int × List UInt8)) (b : List UInt8), b ∈ layR R → ∃ x ∈ R, b.length = 256 ∧ b.take 4 = mkL x.1 ∧ b.drop 252 = mkL x.1
  | x :: R, b, h => by
    rw [layR_cons] at h
    rcases List.mem_append.1 h with h | h
    · obtain ⟨i, hi, rfl⟩ := List.mem_iff_getElem.1 h
      rw [secsF_get]
      rw [secsF_length] at hi
      exact ⟨x, List.mem_cons_self .., sec_length (allF_length _) hi, sec_take4, sec_end (allF_length _) hi⟩
    · obtain ⟨y, hy, h1⟩ := layR_mem R b h
      exact ⟨y, List.mem_cons_of_mem _ hy, h1⟩
theorem numW_mem : ∀ (q : Int) (L : List ByteArray) (x : Int × List UInt8), x ∈ numW q L → q ≤ x.1 ∧ x.1 < q + L.length
  | q, s :: L, x, h => by
    rw [numW] at h
    rcases List.mem_cons.1 h with rfl | h
    · simp; omega
    · have := numW_mem (q + 1) L x h
      rw [List.length_cons]; omega
theorem endA_of {b : ByteArray} {n : Int} (h0 : 0 ≤ n) (h1 : n < 4294967296) (h : b.data.toList.take 4 = mkL n) : endA b = n := by unfold endA; rw [h]; exact valLE_mk h0 h1
theorem endB_of {b : ByteArray} {n : Int} (h0 : 0 ≤ n) (h1 : n < 4294967296) (h : b.data.toList.drop 252 = mkL n) : endB b = n := by unfold endB; rw [h]; exact valLE_mk h0 h1
theorem numF_lt {b : List UInt8} {q : Int} (hq : 0 < q) (h : valLE (b.take 4) < q) : numF b < q := by unfold numF; split <;> omega
theorem LL_get (L : List ByteArray) (i : Nat) (h : i < (LL L).length) : (LL L)[i] = (L[i]'(by rw [LL_length] at h; exact h)).data.toList := by simp [LL]
/-- What the area of a log is: sectors of 256 bytes, of small numbers. -/
structure AreaW (A : List ByteArray) (q : Int) : Prop where
  sz : ∀ b ∈ A, b.size = 256
  lo : ∀ b ∈ A, endA b < q ∧ endB b < q
/-- A round: the records are written behind the old ones; a crash leaves of each new sector so many bytes. -/
structure RoundW (A B T : List ByteArray) (q : Int) (u sr : Nat) (X : List ByteArray) : Prop where
  a : AreaW A q
  q0 : 0 < q
  q1 : q + X.length ≤ 256
  xs : ∀ s ∈ X, s.size ≤ 2000
  ba : B.length = A.length
  ta : T.length = A.length
  b : LL B = (LL A).take u ++ (layR (numW q X) ++ (LL A).drop (u + (layR (numW q X)).length))
  ul : u + (layR (numW q X)).length ≤ A.length
  t : ∀ i (h : i < T.length), T[i] = B[i]'(by omega) ∨ ∃ k, k ≤ 256 ∧ T[i].data.toList = tornL (A[i]'(by omega)).data.toList (B[i]'(by omega)).data.toList k
  s : T.take (u + (layR (numW q (X.take sr))).length) = B.take (u + (layR (numW q (X.take sr))).length)
section
variable {A B T : List ByteArray} {q : Int} {u sr : Nat} {X : List ByteArray}
/-- A sector of B is the old one, or a new one. -/
theorem RoundW.bi (h : RoundW A B T q u sr X) (i : Nat) (hi : i < A.length) : B[i]'(by rw [h.ba]; exact hi) = A[i] ∨ ∃ n, q ≤ n ∧ n < q + X.length ∧ (B[i]'(by rw [h.ba]; exact hi)).size = 256 ∧ (B[i]'(by rw [h.ba]; exact hi)).data.toList.take 4 = mkL n ∧ (B[i]'(by rw [h.ba]; exact hi)).data.toList.drop 252 = mkL n := by
  have hul := h.ul
  have hlt : (LL A).length = A.length := LL_length A
  have e : (LL B)[i]? = ((LL A).take u ++ (layR (numW q X) ++ (LL A).drop (u + (layR (numW q X)).length)))[i]? := by rw [h.b]
  have eB : (LL B)[i]? = some (B[i]'(by rw [h.ba]; exact hi)).data.toList := by
    rw [List.getElem?_eq_getElem (by rw [LL_length, h.ba]; exact hi), LL_get]
  rw [eB] at e
  have tl : ((LL A).take u).length = u := by rw [List.length_take, hlt]; omega
  have inj : ∀ x : ByteArray, x = A[i] → True := fun _ _ => trivial
  by_cases c1 : i < u
  · rw [List.getElem?_append_left (by rw [tl]; exact c1), List.getElem?_take_of_lt c1, List.getElem?_eq_getElem (by rw [hlt]; exact hi), LL_get] at e
    injection e with e
    exact .inl (bytes_ext e)
  · rw [List.getElem?_append_right (by rw [tl]; omega), tl] at e
    by_cases c2 : i - u < (layR (numW q X)).length
    · rw [List.getElem?_append_left c2, List.getElem?_eq_getElem c2] at e
      injection e with e
      have hm : (B[i]'(by rw [h.ba]; exact hi)).data.toList ∈ layR (numW q X) := by rw [e]; exact List.getElem_mem c2
      obtain ⟨x, hx, h1, h2, h3⟩ := layR_mem _ _ hm
      have := numW_mem _ _ _ hx
      exact .inr ⟨x.1, this.1, this.2, by rw [← size_list]; exact h1, h2, h3⟩
    · rw [List.getElem?_append_right (by omega), List.getElem?_drop, show u + (layR (numW q X)).length + (i - u - (layR (numW q X)).length) = i by omega, List.getElem?_eq_getElem (by rw [hlt]; exact hi), LL_get] at e
      injection e with e
      exact .inl (bytes_ext e)
theorem RoundW.ti (h : RoundW A B T q u sr X) (i : Nat) (hi : i < A.length) : T[i]'(by rw [h.ta]; exact hi) = A[i] ∨ (numF (T[i]'(by rw [h.ta]; exact hi)).data.toList = 0 ∧ ∃ n, q ≤ n ∧ n < q + X.length ∧ (T[i]'(by rw [h.ta]; exact hi)).size = 256 ∧ (T[i]'(by rw [h.ta]; exact hi)).data.toList.take 4 = mkL n ∧ (T[i]'(by rw [h.ta]; exact hi)).data.toList.drop 252 = A[i].data.toList.drop 252) ∨ (T[i]'(by rw [h.ta]; exact hi) = B[i]'(by rw [h.ba]; exact hi) ∧ ∃ n, q ≤ n ∧ n < q + X.length ∧ (B[i]'(by rw [h.ba]; exact hi)).size = 256 ∧ (B[i]'(by rw [h.ba]; exact hi)).data.toList.take 4 = mkL n ∧ (B[i]'(by rw [h.ba]; exact hi)).data.toList.drop 252 = mkL n) := by
  have hq0 := h.q0
  have hq1 := h.q1
  rcases h.bi i hi with hb | ⟨n, n0, n1, n2, n3, n4⟩
  · rcases h.t i (by rw [h.ta]; exact hi) with ht | ⟨k, _, ht⟩
    · exact .inl (ht.trans hb)
    · rw [hb, torn_self] at ht
      exact .inl (bytes_ext ht)
  · rcases h.t i (by rw [h.ta]; exact hi) with ht | ⟨k, hk, ht⟩
    · exact .inr (.inr ⟨ht, n, n0, n1, n2, n3, n4⟩)
    · have ha := h.a.sz A[i] (List.getElem_mem hi)
      obtain ⟨l1, l2⟩ := h.a.lo A[i] (List.getElem_mem hi)
      have hTs : (T[i]'(by rw [h.ta]; exact hi)).size = 256 := by
        rw [← size_list, ht]; exact tornL_length (by rw [size_list]; exact ha) (by rw [size_list]; exact n2) hk
      rcases torn3 (a := A[i].data.toList) (b := (B[i]'(by rw [h.ba]; exact hi)).data.toList) (n := n) (by rw [size_list]; exact ha) (by rw [size_list]; exact n2) (by omega) (by omega) (by unfold endA at l1; omega) (by unfold endB at l2; omega) n3 n4 hk with e | ⟨e1, e2, e3⟩ | e
      · exact .inl (bytes_ext (ht.trans e))
      · rw [← ht] at e1 e2 e3
        exact .inr (.inl ⟨e1, n, n0, n1, hTs, e2, e3⟩)
      · exact .inr (.inr ⟨bytes_ext (ht.trans e), n, n0, n1, n2, n3, n4⟩)
theorem RoundW.torn (h : RoundW A B T q u sr X) : TornR q (LL T) (LL A) (LL B) := by
  have hq0 := h.q0
  have hq1 := h.q1
  refine ⟨by rw [LL_length, LL_length, h.ta], by rw [LL_length, LL_length, h.ta, h.ba], fun i hi => ?_, fun i hi => ?_⟩
  · rw [LL_get]
    rw [LL_length] at hi
    exact numF_lt h.q0 (h.a.lo _ (List.getElem_mem hi)).1
  · rw [LL_length, h.ta] at hi
    rw [LL_get, LL_get, LL_get]
    rcases h.ti i hi with e | ⟨e, _⟩ | ⟨e, n, n0, n1, n2, n3, n4⟩
    · exact .inl (by rw [e])
    · exact .inr (.inl e)
    · refine .inr (.inr ⟨by rw [e], ?_⟩)
      rw [e]
      unfold numF
      rw [if_pos ⟨by rw [size_list]; exact n2, by rw [n3, n4]⟩, n3, valLE_mk (by omega) (by omega)]
      exact n0
theorem RoundW.area (h : RoundW A B T q u sr X) : AreaW T (q + X.length) := by
  have hq0 := h.q0
  have hq1 := h.q1
  constructor
  · intro b hb
    obtain ⟨i, hi, rfl⟩ := List.mem_iff_getElem.1 hb
    rcases h.ti i (by rw [← h.ta]; exact hi) with e | ⟨_, n, _, _, e, _⟩ | ⟨e, n, _, _, e2, _⟩
    · rw [e]; exact h.a.sz _ (List.getElem_mem _)
    · exact e
    · rw [e]; exact e2
  · intro b hb
    obtain ⟨i, hi, rfl⟩ := List.mem_iff_getElem.1 hb
    have hA := h.a.lo (A[i]'(by rw [← h.ta]; exact hi)) (List.getElem_mem _)
    rcases h.ti i (by rw [← h.ta]; exact hi) with e | ⟨_, n, n0, n1, _, e1, e2⟩ | ⟨e, n, n0, n1, _, e1, e2⟩
    · rw [e]; omega
    · refine ⟨by rw [endA_of (by omega) (by omega) e1]; omega, ?_⟩
      unfold endB at hA ⊢; rw [e2]; omega
    · rw [e]
      exact ⟨by rw [endA_of (by omega) (by omega) e1]; omega, by rw [endB_of (by omega) (by omega) e2]; omega⟩
theorem RoundW.bu (h : RoundW A B T q u sr X) : T.take u = A.take u := by
  have hul := h.ul
  have hlt : (LL A).length = A.length := LL_length A
  refine List.ext_getElem (by rw [List.length_take, List.length_take, h.ta]) fun i h1 h2 => ?_
  rw [List.length_take] at h1 h2
  rw [List.getElem_take, List.getElem_take]
  have hi : i < A.length := by omega
  have hb : B[i]'(by rw [h.ba]; exact hi) = A[i] := by
    have e : (LL B)[i]? = ((LL A).take u ++ (layR (numW q X) ++ (LL A).drop (u + (layR (numW q X)).length)))[i]? := by rw [h.b]
    rw [List.getElem?_eq_getElem (by rw [LL_length, h.ba]; exact hi), LL_get, List.getElem?_append_left (by rw [List.length_take, hlt]; omega), List.getElem?_take_of_lt (by omega), List.getElem?_eq_getElem (by rw [hlt]; exact hi), LL_get] at e
    injection e with e
    exact bytes_ext e
  rcases h.t i (by rw [h.ta]; exact hi) with e | ⟨k, _, e⟩
  · exact e.trans hb
  · rw [hb, torn_self] at e
    exact bytes_ext e
theorem RoundW.bd (h : RoundW A B T q u sr X) : LL (B.drop u) = layR (numW q X) ++ (LL (A.drop u)).drop (layR (numW q X)).length := by
  have hul := h.ul
  have tl : ((LL A).take u).length = u := by rw [List.length_take, LL_length]; omega
  rw [LL_drop, h.b, List.drop_left' tl, LL_drop, List.drop_drop]
end
theorem least_le {A : List ByteArray} {N : Int} (hN : ∀ b ∈ A, endA b ≤ 2147483648 → endA b < N) : ∀ (f : Nat) (m : Int) (u : Nat), m ≤ N → leastW A f m u ≤ N
  | 0, _, _, h => h
  | f + 1, m, u, h => by
    simp only [leastW]
    cases hr : readF (LL (A.drop u)) with
    | none => exact h
    | some x =>
      obtain ⟨s, n, k⟩ := x
      dsimp only
      split
      · exact h
      · rename_i hb
        refine least_le hN f (n + 1) (u + k) ?_
        cases hd : A.drop u with
        | nil => rw [hd] at hr; cases hr
        | cons y D =>
          rw [hd] at hr
          obtain ⟨g1, g2, _⟩ := readF_head (x := y.data.toList) (L := LL D) hr
          have hy : y ∈ A := List.mem_of_mem_drop (by rw [hd]; exact List.mem_cons_self ..)
          have e : n = endA y := by
            rw [g1]; unfold numF at g2 ⊢; split
            · rfl
            · rename_i hx; rw [if_neg hx] at g2; exact absurd rfl g2
          have := hN y hy (by omega)
          omega
/-- What an opening reads behind a round's crash. -/
theorem RoundW.ends {A B T : List ByteArray} {q m : Int} {u sr : Nat} {X : List ByteArray} (h : RoundW A B T q u sr X) (hu : u = (scanW A A.length m 0).2) (hq : q = nextW m A) (hsr : sr ≤ X.length) :
    ∃ j, sr ≤ j ∧ j ≤ X.length ∧ (scanW T T.length m 0).1 = (scanW A A.length m 0).1 ++ X.take j ∧ nextW m T ≤ q + X.length ∧ (j = X.length → q + X.length ≤ nextW m T) := by
  have hq0 := h.q0
  have hq1 := h.q1
  have hmq : m ≤ q := by rw [hq]; exact nextW_ge A m
  obtain ⟨p1, p2, p3⟩ := scan_prefix (A := A) A.length m 0 (by omega)
  have hlow : leastW A A.length m 0 ≤ q := least_le (fun b hb _ => (h.a.lo b hb).1) _ _ _ hmq
  have hT := p3 T h.ta (by rw [← hu]; exact h.bu) T.length (by omega)
  rw [← hu] at p1 hT
  have htr : TornR q (LL (T.drop u)) (LL (A.drop u)) (LL (B.drop u)) := by rw [LL_drop, LL_drop, LL_drop]; exact h.torn.drop u
  obtain ⟨j, u', h1, h2, h3, h4⟩ := torn_scan hq0 (f := T.length) (numW q X) (leastW A A.length m 0) q u _ _ htr h.bd (numW_rises q X h.xs (by omega)) (Int.le_refl _) hlow (.inl p1) (by omega)
  rw [numW_length] at h1
  have hX : (numW q X).map (fun x => ofL x.2) = X := numW_texts q X
  have htk : ∀ k, ((numW q X).take k).map (fun x => ofL x.2) = X.take k := fun k => by rw [numW_take, numW_texts]
  rw [htk] at h2
  refine ⟨j, h3 sr (by rw [numW_length]; exact hsr) ?_, h1, ?_, ?_, fun hj => ?_⟩
  · have e := congrArg (List.drop u) h.s
    rw [List.drop_take, List.drop_take, Nat.add_sub_cancel_left] at e
    rw [numW_take, ← LL_take, e, LL_take, h.bd]
    have hs : numW q X = numW q (X.take sr) ++ (numW q X).drop sr := by rw [← numW_take]; exact (List.take_append_drop _ _).symm
    rw [hs, layR_append, List.append_assoc]
    exact List.take_left' rfl
  · rw [hT, h2]
  · exact nextW_le (by omega) T m (by omega) h.area.lo
  · cases hX0 : X with
    | nil =>
      have e : T = A := by
        refine List.ext_getElem h.ta fun i i1 i2 => ?_
        have hl0 : X.length = 0 := by rw [hX0]; rfl
        rcases h.ti i i2 with e | ⟨_, n, n0, n1, _⟩ | ⟨_, n, n0, n1, _⟩
        · exact e
        · omega
        · omega
      rw [e, ← hq]; simp
    | cons x X' =>
      rw [← hX0]
      have hl : 1 ≤ X.length := by rw [hX0]; simp
      obtain ⟨Y, y, hY⟩ : ∃ Y y, X = Y ++ [y] := ⟨X.dropLast, X.getLast (by rw [hX0]; simp), (List.dropLast_concat_getLast _).symm⟩
      rw [hj, List.take_of_length_le (l := numW q X) (by rw [numW_length]; exact Nat.le_refl _)] at h4
      have hn : numW q X = numW q Y ++ [(q + Y.length, y.data.toList)] := by rw [hY]; exact numW_snoc q Y y
      have hm : secF (q + Y.length) (allF y.data.toList) (szN y.data.toList.length) 0 ∈ layR (numW q X) := by
        rw [hn, layR_snoc]
        refine List.mem_append_right _ ?_
        have hp := sz_pos y.data.toList.length
        have := List.getElem_mem (l := secsF (q + Y.length) y.data.toList) (n := 0) (by rw [secsF_length]; exact hp)
        rw [secsF_get] at this
        exact this
      rw [← h4] at hm
      have hm2 := List.mem_of_mem_take hm
      unfold LL at hm2
      obtain ⟨b, hb, he⟩ := List.mem_map.1 hm2
      have hb2 : b ∈ T := List.mem_of_mem_drop hb
      have hYl : X.length = Y.length + 1 := by rw [hY]; simp
      have ea : endA b = q + Y.length := endA_of (by omega) (by omega) (by rw [he]; exact sec_take4)
      have := (nextW_mem T m b hb2).1 (by omega)
      omega
end Go.Proofs.YtdbiebnnogjccaaGreatDoor
