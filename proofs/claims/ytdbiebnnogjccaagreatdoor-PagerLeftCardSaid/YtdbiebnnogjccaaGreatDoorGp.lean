/- Pages (layer 22): plain words: the kinds of pages, taken, given back, kept, dropped. -/
import Derived.Test.YtdbiebnnogjccaaGreatDoorDo
namespace Go.Proofs.YtdbiebnnogjccaaGreatDoor
open Go.RowKit
/-- The kind of a page: 0 free, 1 live, 2 fresh. -/
def kindL (l : List Int) (i : Int) : Int := if 0 ≤ i then l.getD i.toNat 0 else 0
/-- The pages of a kind, rising. -/
def ofK (l : List Int) (k : Int) : List Int := ((List.range l.length).map Int.ofNat).filter fun i => kindL l i == k
def setL (l : List Int) (i k : Int) : List Int := l.set i.toNat k
def keepL (n : Nat) (L : List Int) : List Int := L.foldl (fun l i => setL l i 1) (List.replicate n 0)
def dropL (l : List Int) : List Int := l.map fun x => if x = 2 then 0 else x
def takeL (l : List Int) : List Int × Int × Int := match ofK l 0 with | [] => (l, 0, 73) | i :: _ => (setL l i 2, i, 0)
def giveL (l : List Int) (i : Int) : List Int × Int := if kindL l i = 2 then (setL l i 0, 0) else (l, 1)
def inL (n : Nat) (L : List Int) : Bool := L.all fun i => decide (0 ≤ i ∧ i < (n : Int))
def keptL (l L : List Int) : List Int × Int := if inL l.length L = true then (keepL l.length L, 0) else (l, 1)
/-- Kinds that there are. -/
def GoodL (l : List Int) : Prop := ∀ x ∈ l, x = 0 ∨ x = 1 ∨ x = 2
theorem filter_parts {α : Type} (p : α → Bool) : ∀ l : List α, l.length = (l.filter p).length + (l.filter fun x => !p x).length
  | [] => rfl
  | x :: l => by
    have := filter_parts p l
    cases h : p x <;> simp [List.filter_cons, h] <;> omega
theorem kindL_nat (l : List Int) (i : Nat) : kindL l (i : Int) = l.getD i 0 := by unfold kindL; rw [if_pos (by omega), Int.toNat_natCast]
theorem kindL_get {l : List Int} {i : Nat} (h : i < l.length) : kindL l (i : Int) = l[i] := by rw [kindL_nat, List.getD_eq_getElem?_getD, List.getElem?_eq_getElem h]; rfl
theorem kindL_out {l : List Int} {i : Int} (h : ¬ (0 ≤ i ∧ i < (l.length : Int))) : kindL l i = 0 := by
  unfold kindL
  split
  · rw [List.getD_eq_getElem?_getD, List.getElem?_eq_none (by omega)]; rfl
  · rfl
theorem kindL_in {l : List Int} {i : Int} (h : kindL l i ≠ 0) : 0 ≤ i ∧ i < (l.length : Int) := Decidable.byContradiction fun hn => h (kindL_out hn)
theorem kindL_set {l : List Int} {i : Int} (hi : 0 ≤ i ∧ i < (l.length : Int)) (k j : Int) : kindL (setL l i k) j = if j = i then k else kindL l j := by
  unfold kindL setL
  by_cases h0 : 0 ≤ j
  · rw [if_pos h0, if_pos h0, List.getD_eq_getElem?_getD, List.getElem?_set]
    by_cases e : j = i
    · subst e; rw [if_pos rfl, if_pos rfl, if_pos (by omega)]; rfl
    · rw [if_neg (by omega), if_neg e, List.getD_eq_getElem?_getD]
  · rw [if_neg h0, if_neg h0, if_neg (by omega)]
theorem setL_length (l : List Int) (i k : Int) : (setL l i k).length = l.length := by unfold setL; rw [List.length_set]
theorem kindL_rep (n : Nat) (i : Int) : kindL (List.replicate n 0) i = 0 := by
  unfold kindL
  split
  · rw [List.getD_eq_getElem?_getD, List.getElem?_replicate]; split <;> rfl
  · rfl
theorem GoodL.kind {l : List Int} (h : GoodL l) (i : Int) : kindL l i = 0 ∨ kindL l i = 1 ∨ kindL l i = 2 := by
  by_cases c : kindL l i = 0
  · exact .inl c
  · obtain ⟨h0, h1⟩ := kindL_in c
    have e : kindL l i = l[i.toNat]'(by omega) := by
      have := kindL_get (l := l) (i := i.toNat) (by omega)
      rwa [Int.toNat_of_nonneg h0] at this
    rw [e]
    exact h _ (List.getElem_mem _)
theorem GoodL.set {l : List Int} (h : GoodL l) (i : Int) {k : Int} (hk : k = 0 ∨ k = 1 ∨ k = 2) : GoodL (setL l i k) := fun x hx => by
  rcases List.mem_or_eq_of_mem_set hx with h1 | h1
  · exact h x h1
  · rw [h1]; exact hk
theorem goodL_rep (n : Nat) : GoodL (List.replicate n 0) := fun x hx => .inl (List.eq_of_mem_replicate hx)
theorem mem_ofK {l : List Int} {k x : Int} : x ∈ ofK l k ↔ (0 ≤ x ∧ x < (l.length : Int)) ∧ kindL l x = k := by
  unfold ofK
  rw [List.mem_filter, List.mem_map]
  constructor
  · rintro ⟨⟨i, hi, rfl⟩, h⟩
    rw [List.mem_range] at hi
    exact ⟨⟨by show (0 : Int) ≤ (i : Int); omega, by show (i : Int) < _; omega⟩, by simpa using h⟩
  · rintro ⟨⟨h0, h1⟩, h2⟩
    exact ⟨⟨x.toNat, by rw [List.mem_range]; omega, by show ((x.toNat : Nat) : Int) = x; omega⟩, by simpa using h2⟩
theorem mem_ofK' {l : List Int} {k x : Int} (hk : k ≠ 0) : x ∈ ofK l k ↔ kindL l x = k :=
  ⟨fun h => (mem_ofK.1 h).2, fun h => mem_ofK.2 ⟨kindL_in (by rw [h]; exact hk), h⟩⟩
theorem ofK_lt (l : List Int) (k : Int) : (ofK l k).Pairwise (· < ·) := (rangeI_lt _).filter _
theorem ofK_nodup (l : List Int) (k : Int) : (ofK l k).Nodup := (ofK_lt l k).imp (fun h => by intro e; omega)
theorem ofK_le (l : List Int) (k : Int) : (ofK l k).length ≤ l.length := by
  unfold ofK
  refine Nat.le_trans (List.length_filter_le _ _) ?_
  simp
theorem ofK_sorted (l : List Int) (k : Int) : (ofK l k).mergeSort (fun x y => decide (x ≤ y)) = ofK l k := by
  refine List.mergeSort_of_pairwise ?_
  exact (ofK_lt l k).imp (fun h => by simp only [decide_eq_true_eq]; omega)
/-- Rows that rise and have the same members are one. -/
theorem lt_ext : ∀ {l m : List Int}, l.Pairwise (· < ·) → m.Pairwise (· < ·) → (∀ x, x ∈ l ↔ x ∈ m) → l = m
  | [], [], _, _, _ => rfl
  | [], y :: m, _, _, h => absurd ((h y).2 List.mem_cons_self) (by simp)
  | x :: l, [], _, _, h => absurd ((h x).1 List.mem_cons_self) (by simp)
  | x :: l, y :: m, hl, hm, h => by
    rw [List.pairwise_cons] at hl hm
    have e : x = y := by
      rcases List.mem_cons.1 ((h x).1 List.mem_cons_self) with h1 | h1
      · exact h1
      · rcases List.mem_cons.1 ((h y).2 List.mem_cons_self) with h2 | h2
        · exact h2.symm
        · have a := hm.1 x h1; have b := hl.1 y h2; omega
    subst e
    rw [lt_ext hl.2 hm.2 fun z => ⟨fun hz => ?_, fun hz => ?_⟩]
    · rcases List.mem_cons.1 ((h z).1 (List.mem_cons_of_mem _ hz)) with h1 | h1
      · have := hl.1 z hz; omega
      · exact h1
    · rcases List.mem_cons.1 ((h z).2 (List.mem_cons_of_mem _ hz)) with h1 | h1
      · have := hm.1 z hz; omega
      · exact h1
theorem ofK_ext {l : List Int} {k : Int} {m : List Int} (hm : m.Pairwise (· < ·)) (h : ∀ x, x ∈ m ↔ (0 ≤ x ∧ x < (l.length : Int)) ∧ kindL l x = k) : m = ofK l k :=
  lt_ext hm (ofK_lt l k) fun x => (h x).trans mem_ofK.symm
/-- The first free page. -/
theorem ofK_first {l : List Int} {k : Int} {i : Nat} (hi : i < l.length) (hk : kindL l (i : Int) = k) (hp : ∀ j : Nat, j < i → kindL l (j : Int) ≠ k) : ∃ m, ofK l k = (i : Int) :: m := by
  cases h : ofK l k with
  | nil => exact absurd (mem_ofK.2 ⟨⟨by omega, by omega⟩, hk⟩) (by rw [h]; simp)
  | cons y m =>
    have hy : y ∈ ofK l k := by rw [h]; exact List.mem_cons_self
    obtain ⟨⟨h0, h1⟩, h2⟩ := mem_ofK.1 hy
    have hlt := ofK_lt l k
    rw [h, List.pairwise_cons] at hlt
    have hi' : (i : Int) ∈ ofK l k := mem_ofK.2 ⟨⟨by omega, by omega⟩, hk⟩
    rw [h] at hi'
    have e : y = (i : Int) := by
      rcases List.mem_cons.1 hi' with e | e
      · exact e.symm
      · have h3 := hlt.1 _ e
        exact absurd (by rw [Int.toNat_of_nonneg h0]; exact h2) (hp y.toNat (by omega))
    exact ⟨m, by rw [e]⟩
theorem ofK_none {l : List Int} {k : Int} (hp : ∀ j : Nat, j < l.length → kindL l (j : Int) ≠ k) : ofK l k = [] := by
  cases h : ofK l k with
  | nil => rfl
  | cons y m =>
    have hy : y ∈ ofK l k := by rw [h]; exact List.mem_cons_self
    obtain ⟨⟨h0, h1⟩, h2⟩ := mem_ofK.1 hy
    exact absurd (by rw [Int.toNat_of_nonneg h0]; exact h2) (hp y.toNat (by omega))
theorem takeL_none {l : List Int} (h : ofK l 0 = []) : takeL l = (l, 0, 73) := by unfold takeL; rw [h]
theorem takeL_some {l : List Int} {i : Int} {m : List Int} (h : ofK l 0 = i :: m) : takeL l = (setL l i 2, i, 0) := by unfold takeL; rw [h]
/-- The pages that are not free. -/
def heldL (l : List Int) : List Int := ((List.range l.length).map Int.ofNat).filter fun i => kindL l i != 0
theorem mem_heldL {l : List Int} {x : Int} : x ∈ heldL l ↔ kindL l x ≠ 0 := by
  unfold heldL
  rw [List.mem_filter, List.mem_map]
  constructor
  · rintro ⟨_, h⟩; simpa using h
  · intro h
    obtain ⟨h0, h1⟩ := kindL_in h
    exact ⟨⟨x.toNat, by rw [List.mem_range]; omega, by show ((x.toNat : Nat) : Int) = x; omega⟩, by simpa using h⟩
theorem heldL_lt (l : List Int) : (heldL l).Pairwise (· < ·) := (rangeI_lt _).filter _
theorem heldL_nodup (l : List Int) : (heldL l).Nodup := (heldL_lt l).imp (fun h => by intro e; omega)
theorem heldL_free (l : List Int) : (ofK l 0).length + (heldL l).length = l.length := by
  unfold ofK heldL
  have h := filter_parts (fun i => kindL l i == 0) ((List.range l.length).map Int.ofNat)
  rw [List.length_map, List.length_range] at h
  have e : (fun i => !(kindL l i == 0)) = fun i => kindL l i != 0 := rfl
  rw [e] at h
  omega
theorem heldL_kinds {l : List Int} (h : GoodL l) : (heldL l).length = (ofK l 1).length + (ofK l 2).length := by
  have e1 : (heldL l).filter (fun i => kindL l i == 1) = ofK l 1 := by
    refine ofK_ext ((heldL_lt l).filter _) fun x => ?_
    rw [List.mem_filter, mem_heldL]
    exact ⟨fun ⟨a, b⟩ => ⟨kindL_in a, by simpa using b⟩, fun ⟨_, b⟩ => ⟨by rw [b]; decide, by simpa using b⟩⟩
  have e2 : (heldL l).filter (fun i => !(kindL l i == 1)) = ofK l 2 := by
    refine ofK_ext ((heldL_lt l).filter _) fun x => ?_
    rw [List.mem_filter, mem_heldL]
    constructor
    · rintro ⟨a, b⟩
      refine ⟨kindL_in a, ?_⟩
      rcases h.kind x with c | c | c
      · exact absurd c a
      · rw [c] at b; exact absurd b (by decide)
      · exact c
    · rintro ⟨_, b⟩
      exact ⟨by rw [b]; decide, by rw [b]; rfl⟩
  have := filter_parts (fun i => kindL l i == 1) (heldL l)
  rw [e1, e2] at this
  exact this
-- keeping
theorem keepL_length (n : Nat) (L : List Int) : (keepL n L).length = n := by
  unfold keepL
  have : ∀ (L l : List Int), (L.foldl (fun l i => setL l i 1) l).length = l.length := by
    intro L
    induction L with
    | nil => intro l; rfl
    | cons x L ih => intro l; rw [List.foldl_cons, ih, setL_length]
  rw [this, List.length_replicate]
theorem keepL_snoc (n : Nat) (L : List Int) (x : Int) : keepL n (L ++ [x]) = setL (keepL n L) x 1 := by unfold keepL; rw [List.foldl_append]; rfl
theorem goodL_keep (n : Nat) (L : List Int) : GoodL (keepL n L) := by
  unfold keepL
  have : ∀ (L l : List Int), GoodL l → GoodL (L.foldl (fun l i => setL l i 1) l) := by
    intro L
    induction L with
    | nil => intro l h; exact h
    | cons x L ih => intro l h; rw [List.foldl_cons]; exact ih _ (h.set _ (.inr (.inl rfl)))
  exact this L _ (goodL_rep n)
theorem inL_iff {n : Nat} {L : List Int} : inL n L = true ↔ ∀ x ∈ L, 0 ≤ x ∧ x < (n : Int) := by
  unfold inL; rw [List.all_eq_true]; exact ⟨fun h x hx => by simpa using h x hx, fun h x hx => by simpa using h x hx⟩
theorem kindL_keep {n : Nat} {L : List Int} (h : ∀ x ∈ L, 0 ≤ x ∧ x < (n : Int)) (i : Int) : kindL (keepL n L) i = if i ∈ L then 1 else 0 := by
  unfold keepL
  have : ∀ (L l : List Int), l.length = n → (∀ x ∈ L, 0 ≤ x ∧ x < (n : Int)) → kindL (L.foldl (fun l i => setL l i 1) l) i = if i ∈ L then 1 else kindL l i := by
    intro L
    induction L with
    | nil => intro l _ _; simp
    | cons x L ih =>
      intro l hl hx
      rw [List.foldl_cons, ih _ (by rw [setL_length]; exact hl) (fun y hy => hx y (List.mem_cons_of_mem _ hy)), kindL_set (by rw [hl]; exact hx x List.mem_cons_self)]
      by_cases e : i ∈ L
      · rw [if_pos e, if_pos (List.mem_cons_of_mem _ e)]
      · rw [if_neg e]
        by_cases e2 : i = x
        · rw [if_pos e2, if_pos (by rw [e2]; exact List.mem_cons_self)]
        · rw [if_neg e2, if_neg (by rw [List.mem_cons]; exact fun h => h.elim e2 e)]
  rw [this L _ List.length_replicate h, kindL_rep]
-- dropping
theorem dropL_length (l : List Int) : (dropL l).length = l.length := by unfold dropL; rw [List.length_map]
theorem kindL_drop (l : List Int) (i : Int) : kindL (dropL l) i = if kindL l i = 2 then 0 else kindL l i := by
  by_cases h : 0 ≤ i ∧ i < (l.length : Int)
  · have h1 := kindL_get (l := l) (i := i.toNat) (by omega)
    have h2 := kindL_get (l := dropL l) (i := i.toNat) (by rw [dropL_length]; omega)
    rw [Int.toNat_of_nonneg h.1] at h1 h2
    rw [h1, h2]
    unfold dropL
    rw [List.getElem_map]
  · rw [kindL_out h, kindL_out (by rw [dropL_length]; exact h)]; simp
theorem goodL_drop {l : List Int} (h : GoodL l) : GoodL (dropL l) := fun x hx => by
  unfold dropL at hx
  obtain ⟨y, hy, rfl⟩ := List.mem_map.1 hx
  rcases h y hy with e | e | e <;> rw [e] <;> decide
end Go.Proofs.YtdbiebnnogjccaaGreatDoor
