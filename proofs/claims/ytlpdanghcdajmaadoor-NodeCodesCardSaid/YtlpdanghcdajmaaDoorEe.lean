/- The walks of edit.Good and pannierref17.Good. -/
import Derived.Test.YtlpdanghcdajmaaDoorEd
namespace Go.Proofs.YtlpdanghcdajmaaDoor
open Go.RowKit

def zero4 (a b c d : Int) : Bool := a == 0 && b == 0 && c == 0 && d == 0
/-- Has an edit a form? -/
def goodE (k ar ac fr fc tr tc : Int) (s : ByteArray) : Bool :=
  if k = 1 then goodA ar ac && zero4 fr fc tr tc && decide ((s.size : Int) ≤ 300)
  else if k = 2 then goodA ar ac && zero4 fr fc tr tc && s.toList.isEmpty
  else if k = 3 then (ar == 0 && ac == 0) && fineR fr fc tr tc && s.toList.isEmpty else false

theorem edit_Good_1t (k ar ac fr fc tr tc : Int) (s : ByteArray) (hk : k = 1) (h1 : goodA ar ac = true) (w : World) :
    Calls Tryd.prog 38 #[.agg #[.int .i64 k, .int .i64 ar, .int .i64 ac, .int .i64 fr, .int .i64 fc, .int .i64 tr, .int .i64 tc, .string s]] w fun e w' => e = .returned (.bool (goodE k ar ac fr fc tr tc s)) ∧ Below w.heap.size w w' := by
  subst hk
  have hr : goodE 1 ar ac fr fc tr tc s = (zero4 fr fc tr tc && decide ((s.size : Int) ≤ 300)) := by simp [goodE, h1]
  have Hr := Lib.hid hr; clear hr
  go_enter Tryd.func38, Tryd.ntmps38
  go_wp2_with fail
  all_goals
    refine (addr_Good _ _ _).mono ?_; rintro e w1 ⟨rfl, hb1⟩
    obtain ⟨hc1, hf1⟩ := bcell hb1
    have hz : w.heap.size + 1 < w1.heap.size := by have := hb1.size; simp at this; omega
    go_wp2_with fail
  all_goals
    go_ret
    exact ⟨ret_bool (by rw [Hr.out]; simp [zero4] <;> omega), bstep (below_a2 _ _ _) hb1⟩
theorem edit_Good_1f (k ar ac fr fc tr tc : Int) (s : ByteArray) (hk : k = 1) (h1 : goodA ar ac = false) (w : World) :
    Calls Tryd.prog 38 #[.agg #[.int .i64 k, .int .i64 ar, .int .i64 ac, .int .i64 fr, .int .i64 fc, .int .i64 tr, .int .i64 tc, .string s]] w fun e w' => e = .returned (.bool (goodE k ar ac fr fc tr tc s)) ∧ Below w.heap.size w w' := by
  subst hk
  have hr : goodE 1 ar ac fr fc tr tc s = false := by simp [goodE, h1]
  have Hr := Lib.hid hr; clear hr
  go_enter Tryd.func38, Tryd.ntmps38
  go_wp2_with fail
  all_goals
    refine (addr_Good _ _ _).mono ?_; rintro e w1 ⟨rfl, hb1⟩
    obtain ⟨hc1, hf1⟩ := bcell hb1
    have hz : w.heap.size + 1 < w1.heap.size := by have := hb1.size; simp at this; omega
    go_wp2_with fail
  all_goals
    go_ret
    exact ⟨ret_bool (by rw [Hr.out]), bstep (below_a2 _ _ _) hb1⟩
theorem edit_Good_2t (k ar ac fr fc tr tc : Int) (s : ByteArray) (hk : k = 2) (h1 : goodA ar ac = true) (w : World) :
    Calls Tryd.prog 38 #[.agg #[.int .i64 k, .int .i64 ar, .int .i64 ac, .int .i64 fr, .int .i64 fc, .int .i64 tr, .int .i64 tc, .string s]] w fun e w' => e = .returned (.bool (goodE k ar ac fr fc tr tc s)) ∧ Below w.heap.size w w' := by
  subst hk
  have hr : goodE 2 ar ac fr fc tr tc s = (zero4 fr fc tr tc && s.toList.isEmpty) := by simp [goodE, h1]
  have Hr := Lib.hid hr; clear hr
  go_enter Tryd.func38, Tryd.ntmps38
  go_wp2_with fail
  all_goals
    refine (addr_Good _ _ _).mono ?_; rintro e w1 ⟨rfl, hb1⟩
    obtain ⟨hc1, hf1⟩ := bcell hb1
    have hz : w.heap.size + 1 < w1.heap.size := by have := hb1.size; simp at this; omega
    go_wp2_with fail
  all_goals
    go_ret
    exact ⟨ret_bool (by rw [Hr.out]; simp [zero4] <;> omega), bstep (below_a2 _ _ _) hb1⟩
theorem edit_Good_2f (k ar ac fr fc tr tc : Int) (s : ByteArray) (hk : k = 2) (h1 : goodA ar ac = false) (w : World) :
    Calls Tryd.prog 38 #[.agg #[.int .i64 k, .int .i64 ar, .int .i64 ac, .int .i64 fr, .int .i64 fc, .int .i64 tr, .int .i64 tc, .string s]] w fun e w' => e = .returned (.bool (goodE k ar ac fr fc tr tc s)) ∧ Below w.heap.size w w' := by
  subst hk
  have hr : goodE 2 ar ac fr fc tr tc s = false := by simp [goodE, h1]
  have Hr := Lib.hid hr; clear hr
  go_enter Tryd.func38, Tryd.ntmps38
  go_wp2_with fail
  all_goals
    refine (addr_Good _ _ _).mono ?_; rintro e w1 ⟨rfl, hb1⟩
    obtain ⟨hc1, hf1⟩ := bcell hb1
    have hz : w.heap.size + 1 < w1.heap.size := by have := hb1.size; simp at this; omega
    go_wp2_with fail
  all_goals
    go_ret
    exact ⟨ret_bool (by rw [Hr.out]), bstep (below_a2 _ _ _) hb1⟩
theorem edit_Good_3t (k ar ac fr fc tr tc : Int) (s : ByteArray) (hk : k = 3) (h1 : fineR fr fc tr tc = true) (w : World) :
    Calls Tryd.prog 38 #[.agg #[.int .i64 k, .int .i64 ar, .int .i64 ac, .int .i64 fr, .int .i64 fc, .int .i64 tr, .int .i64 tc, .string s]] w fun e w' => e = .returned (.bool (goodE k ar ac fr fc tr tc s)) ∧ Below w.heap.size w w' := by
  subst hk
  have hr : goodE 3 ar ac fr fc tr tc s = (ar == 0 && ac == 0 && s.toList.isEmpty) := by simp [goodE, h1]
  have Hr := Lib.hid hr; clear hr
  by_cases ha : ar = 0 ∧ ac = 0
  · obtain ⟨h2, h3⟩ := ha
    have b2 : (ar == 0) = true := by rw [h2]; rfl
    have b3 : (ac == 0) = true := by rw [h3]; rfl
    clear h2 h3
    go_enter Tryd.func38, Tryd.ntmps38
    go_wp2_with fail
    refine (addr_Fine _ _ _ _ _).mono ?_; rintro e w1 ⟨rfl, hb1⟩
    obtain ⟨hc1, hf1⟩ := bcell hb1
    have hz : w.heap.size + 1 < w1.heap.size := by have := hb1.size; simp at this; omega
    go_wp2_with fail
    all_goals
      go_ret
      exact ⟨ret_bool (by rw [Hr.out]; simp [b2, b3]), bstep (below_a2 _ _ _) hb1⟩
  · have b2 : (ar == 0 && ac == 0) = false := by simp; omega
    have Hb := Lib.hid b2
    by_cases h4 : ar = 0
    · have h5 : ¬ ac = 0 := fun h => ha ⟨h4, h⟩
      clear ha b2
      go_enter Tryd.func38, Tryd.ntmps38
      go_wp2_with fail
      all_goals
        go_ret
        exact ⟨ret_bool (by rw [Hr.out]; rw [Hb.out]; rfl), below_a2 _ _ _⟩
    · skip
      clear ha b2
      go_enter Tryd.func38, Tryd.ntmps38
      go_wp2_with fail
      all_goals
        go_ret
        exact ⟨ret_bool (by rw [Hr.out]; rw [Hb.out]; rfl), below_a2 _ _ _⟩
theorem edit_Good_3f (k ar ac fr fc tr tc : Int) (s : ByteArray) (hk : k = 3) (h1 : fineR fr fc tr tc = false) (w : World) :
    Calls Tryd.prog 38 #[.agg #[.int .i64 k, .int .i64 ar, .int .i64 ac, .int .i64 fr, .int .i64 fc, .int .i64 tr, .int .i64 tc, .string s]] w fun e w' => e = .returned (.bool (goodE k ar ac fr fc tr tc s)) ∧ Below w.heap.size w w' := by
  subst hk
  have hr : goodE 3 ar ac fr fc tr tc s = false := by simp [goodE, h1]
  have Hr := Lib.hid hr; clear hr
  by_cases ha : ar = 0 ∧ ac = 0
  · obtain ⟨h2, h3⟩ := ha
    have b2 : (ar == 0) = true := by rw [h2]; rfl
    have b3 : (ac == 0) = true := by rw [h3]; rfl
    clear h2 h3
    go_enter Tryd.func38, Tryd.ntmps38
    go_wp2_with fail
    refine (addr_Fine _ _ _ _ _).mono ?_; rintro e w1 ⟨rfl, hb1⟩
    obtain ⟨hc1, hf1⟩ := bcell hb1
    have hz : w.heap.size + 1 < w1.heap.size := by have := hb1.size; simp at this; omega
    go_wp2_with fail
    all_goals
      go_ret
      exact ⟨ret_bool (by rw [Hr.out]), bstep (below_a2 _ _ _) hb1⟩
  · have b2 : (ar == 0 && ac == 0) = false := by simp; omega
    have Hb := Lib.hid b2
    by_cases h4 : ar = 0
    · have h5 : ¬ ac = 0 := fun h => ha ⟨h4, h⟩
      clear ha b2
      go_enter Tryd.func38, Tryd.ntmps38
      go_wp2_with fail
      all_goals
        go_ret
        exact ⟨ret_bool (by rw [Hr.out]), below_a2 _ _ _⟩
    · skip
      clear ha b2
      go_enter Tryd.func38, Tryd.ntmps38
      go_wp2_with fail
      all_goals
        go_ret
        exact ⟨ret_bool (by rw [Hr.out]), below_a2 _ _ _⟩
theorem edit_Good_0 (k ar ac fr fc tr tc : Int) (s : ByteArray) (h1 : ¬ k = 1) (h2 : ¬ k = 2) (h3 : ¬ k = 3) (w : World) :
    Calls Tryd.prog 38 #[.agg #[.int .i64 k, .int .i64 ar, .int .i64 ac, .int .i64 fr, .int .i64 fc, .int .i64 tr, .int .i64 tc, .string s]] w fun e w' => e = .returned (.bool (goodE k ar ac fr fc tr tc s)) ∧ Below w.heap.size w w' := by
  have hr : goodE k ar ac fr fc tr tc s = false := by simp [goodE, h1, h2, h3]
  have Hr := Lib.hid hr; clear hr
  go_enter Tryd.func38, Tryd.ntmps38
  go_wp2_with fail
  all_goals
    go_ret
    exact ⟨ret_bool (by rw [Hr.out]), below_a2 _ _ _⟩
theorem edit_Good (k ar ac fr fc tr tc : Int) (s : ByteArray) (w : World) :
    Calls Tryd.prog 38 #[.agg #[.int .i64 k, .int .i64 ar, .int .i64 ac, .int .i64 fr, .int .i64 fc, .int .i64 tr, .int .i64 tc, .string s]] w fun e w' => e = .returned (.bool (goodE k ar ac fr fc tr tc s)) ∧ Below w.heap.size w w' := by
  by_cases h1 : k = 1
  · cases hg : goodA ar ac
    · exact edit_Good_1f k ar ac fr fc tr tc s h1 hg w
    · exact edit_Good_1t k ar ac fr fc tr tc s h1 hg w
  by_cases h2 : k = 2
  · cases hg : goodA ar ac
    · exact edit_Good_2f k ar ac fr fc tr tc s h2 hg w
    · exact edit_Good_2t k ar ac fr fc tr tc s h2 hg w
  by_cases h3 : k = 3
  · cases hg : fineR fr fc tr tc
    · exact edit_Good_3f k ar ac fr fc tr tc s h3 hg w
    · exact edit_Good_3t k ar ac fr fc tr tc s h3 hg w
  exact edit_Good_0 k ar ac fr fc tr tc s h1 h2 h3 w

theorem ref17_Good_1t (k ar ac fr fc tr tc : Int) (s : ByteArray) (hk : k = 1) (h1 : goodA ar ac = true) (w : World) :
    Calls Tryd.prog 39 #[.agg #[.int .i64 k, .int .i64 ar, .int .i64 ac, .int .i64 fr, .int .i64 fc, .int .i64 tr, .int .i64 tc, .string s]] w fun e w' => e = .returned (.bool (goodE k ar ac fr fc tr tc s)) ∧ Below w.heap.size w w' := by
  subst hk
  have hr : goodE 1 ar ac fr fc tr tc s = (zero4 fr fc tr tc && decide ((s.size : Int) ≤ 300)) := by simp [goodE, h1]
  have Hr := Lib.hid hr; clear hr
  go_enter Tryd.func39, Tryd.ntmps39
  go_wp2_with fail
  all_goals
    refine (ref02_Good _ _ _).mono ?_; rintro e w1 ⟨rfl, hb1⟩
    obtain ⟨hc1, hf1⟩ := bcell hb1
    have hz : w.heap.size < w1.heap.size := by have := hb1.size; simp at this; omega
    go_wp2_with fail
  all_goals
    go_ret
    exact ⟨ret_bool (by rw [Hr.out]; simp [zero4] <;> omega), bstep (below_a1 _ _) hb1⟩
theorem ref17_Good_1f (k ar ac fr fc tr tc : Int) (s : ByteArray) (hk : k = 1) (h1 : goodA ar ac = false) (w : World) :
    Calls Tryd.prog 39 #[.agg #[.int .i64 k, .int .i64 ar, .int .i64 ac, .int .i64 fr, .int .i64 fc, .int .i64 tr, .int .i64 tc, .string s]] w fun e w' => e = .returned (.bool (goodE k ar ac fr fc tr tc s)) ∧ Below w.heap.size w w' := by
  subst hk
  have hr : goodE 1 ar ac fr fc tr tc s = false := by simp [goodE, h1]
  have Hr := Lib.hid hr; clear hr
  go_enter Tryd.func39, Tryd.ntmps39
  go_wp2_with fail
  all_goals
    refine (ref02_Good _ _ _).mono ?_; rintro e w1 ⟨rfl, hb1⟩
    obtain ⟨hc1, hf1⟩ := bcell hb1
    have hz : w.heap.size < w1.heap.size := by have := hb1.size; simp at this; omega
    go_wp2_with fail
  all_goals
    go_ret
    exact ⟨ret_bool (by rw [Hr.out]), bstep (below_a1 _ _) hb1⟩
theorem ref17_Good_2t (k ar ac fr fc tr tc : Int) (s : ByteArray) (hk : k = 2) (h1 : goodA ar ac = true) (w : World) :
    Calls Tryd.prog 39 #[.agg #[.int .i64 k, .int .i64 ar, .int .i64 ac, .int .i64 fr, .int .i64 fc, .int .i64 tr, .int .i64 tc, .string s]] w fun e w' => e = .returned (.bool (goodE k ar ac fr fc tr tc s)) ∧ Below w.heap.size w w' := by
  subst hk
  have hr : goodE 2 ar ac fr fc tr tc s = (zero4 fr fc tr tc && s.toList.isEmpty) := by simp [goodE, h1]
  have Hr := Lib.hid hr; clear hr
  go_enter Tryd.func39, Tryd.ntmps39
  go_wp2_with fail
  all_goals
    refine (ref02_Good _ _ _).mono ?_; rintro e w1 ⟨rfl, hb1⟩
    obtain ⟨hc1, hf1⟩ := bcell hb1
    have hz : w.heap.size < w1.heap.size := by have := hb1.size; simp at this; omega
    go_wp2_with fail
  all_goals
    go_ret
    exact ⟨ret_bool (by rw [Hr.out]; simp [zero4] <;> omega), bstep (below_a1 _ _) hb1⟩
theorem ref17_Good_2f (k ar ac fr fc tr tc : Int) (s : ByteArray) (hk : k = 2) (h1 : goodA ar ac = false) (w : World) :
    Calls Tryd.prog 39 #[.agg #[.int .i64 k, .int .i64 ar, .int .i64 ac, .int .i64 fr, .int .i64 fc, .int .i64 tr, .int .i64 tc, .string s]] w fun e w' => e = .returned (.bool (goodE k ar ac fr fc tr tc s)) ∧ Below w.heap.size w w' := by
  subst hk
  have hr : goodE 2 ar ac fr fc tr tc s = false := by simp [goodE, h1]
  have Hr := Lib.hid hr; clear hr
  go_enter Tryd.func39, Tryd.ntmps39
  go_wp2_with fail
  all_goals
    refine (ref02_Good _ _ _).mono ?_; rintro e w1 ⟨rfl, hb1⟩
    obtain ⟨hc1, hf1⟩ := bcell hb1
    have hz : w.heap.size < w1.heap.size := by have := hb1.size; simp at this; omega
    go_wp2_with fail
  all_goals
    go_ret
    exact ⟨ret_bool (by rw [Hr.out]), bstep (below_a1 _ _) hb1⟩
theorem ref17_Good_3t (k ar ac fr fc tr tc : Int) (s : ByteArray) (hk : k = 3) (h1 : fineR fr fc tr tc = true) (w : World) :
    Calls Tryd.prog 39 #[.agg #[.int .i64 k, .int .i64 ar, .int .i64 ac, .int .i64 fr, .int .i64 fc, .int .i64 tr, .int .i64 tc, .string s]] w fun e w' => e = .returned (.bool (goodE k ar ac fr fc tr tc s)) ∧ Below w.heap.size w w' := by
  subst hk
  have hr : goodE 3 ar ac fr fc tr tc s = (ar == 0 && ac == 0 && s.toList.isEmpty) := by simp [goodE, h1]
  have Hr := Lib.hid hr; clear hr
  have hn : ¬ fr = 0 := by intro h; subst h; simp [fineR, goodA] at h1
  by_cases ha : ar = 0 ∧ ac = 0
  · obtain ⟨rfl, rfl⟩ := ha
    go_enter Tryd.func39, Tryd.ntmps39
    go_wp2_with fail
    refine (ref02_Fine _ _ _ _ _).mono ?_; rintro e w1 ⟨rfl, hb1⟩
    obtain ⟨hc1, hf1⟩ := bcell hb1
    have hz : w.heap.size < w1.heap.size := by have := hb1.size; simp at this; omega
    go_wp2_with fail
    all_goals
      go_ret
      exact ⟨ret_bool (by rw [Hr.out]; simp), bstep (below_a1 _ _) hb1⟩
  · have b2 : (ar == 0 && ac == 0) = false := by simp; omega
    have Hb := Lib.hid b2
    by_cases h4 : ar = 0
    · have h5 : ¬ ac = 0 := fun h => ha ⟨h4, h⟩
      clear ha b2
      go_enter Tryd.func39, Tryd.ntmps39
      go_wp2_with fail
      refine (ref02_Fine _ _ _ _ _).mono ?_; rintro e w1 ⟨rfl, hb1⟩
      obtain ⟨hc1, hf1⟩ := bcell hb1
      have hz : w.heap.size < w1.heap.size := by have := hb1.size; simp at this; omega
      go_wp2_with fail
      all_goals
        go_ret
        exact ⟨ret_bool (by rw [Hr.out]; rw [Hb.out]; rfl), bstep (below_a1 _ _) hb1⟩
    · skip
      clear ha b2
      go_enter Tryd.func39, Tryd.ntmps39
      go_wp2_with fail
      refine (ref02_Fine _ _ _ _ _).mono ?_; rintro e w1 ⟨rfl, hb1⟩
      obtain ⟨hc1, hf1⟩ := bcell hb1
      have hz : w.heap.size < w1.heap.size := by have := hb1.size; simp at this; omega
      go_wp2_with fail
      all_goals
        go_ret
        exact ⟨ret_bool (by rw [Hr.out]; rw [Hb.out]; rfl), bstep (below_a1 _ _) hb1⟩
theorem ref17_Good_3f (k ar ac fr fc tr tc : Int) (s : ByteArray) (hk : k = 3) (h1 : fineR fr fc tr tc = false) (w : World) :
    Calls Tryd.prog 39 #[.agg #[.int .i64 k, .int .i64 ar, .int .i64 ac, .int .i64 fr, .int .i64 fc, .int .i64 tr, .int .i64 tc, .string s]] w fun e w' => e = .returned (.bool (goodE k ar ac fr fc tr tc s)) ∧ Below w.heap.size w w' := by
  subst hk
  have hr : goodE 3 ar ac fr fc tr tc s = false := by simp [goodE, h1]
  have Hr := Lib.hid hr; clear hr
  by_cases cfr : fr = 0
  rotate_left
  · go_enter Tryd.func39, Tryd.ntmps39
    go_wp2_with fail
    refine (ref02_Fine _ _ _ _ _).mono ?_; rintro e w1 ⟨rfl, hb1⟩
    obtain ⟨hc1, hf1⟩ := bcell hb1
    have hz : w.heap.size < w1.heap.size := by have := hb1.size; simp at this; omega
    go_wp2_with fail
    all_goals
      go_ret
      exact ⟨ret_bool (by rw [Hr.out]), bstep (below_a1 _ _) hb1⟩
  subst cfr
  by_cases cfc : fc = 0
  rotate_left
  · go_enter Tryd.func39, Tryd.ntmps39
    go_wp2_with fail
    refine (ref02_Fine _ _ _ _ _).mono ?_; rintro e w1 ⟨rfl, hb1⟩
    obtain ⟨hc1, hf1⟩ := bcell hb1
    have hz : w.heap.size < w1.heap.size := by have := hb1.size; simp at this; omega
    go_wp2_with fail
    all_goals
      go_ret
      exact ⟨ret_bool (by rw [Hr.out]), bstep (below_a1 _ _) hb1⟩
  subst cfc
  by_cases ctr : tr = 0
  rotate_left
  · go_enter Tryd.func39, Tryd.ntmps39
    go_wp2_with fail
    refine (ref02_Fine _ _ _ _ _).mono ?_; rintro e w1 ⟨rfl, hb1⟩
    obtain ⟨hc1, hf1⟩ := bcell hb1
    have hz : w.heap.size < w1.heap.size := by have := hb1.size; simp at this; omega
    go_wp2_with fail
    all_goals
      go_ret
      exact ⟨ret_bool (by rw [Hr.out]), bstep (below_a1 _ _) hb1⟩
  subst ctr
  by_cases ctc : tc = 0
  rotate_left
  · go_enter Tryd.func39, Tryd.ntmps39
    go_wp2_with fail
    refine (ref02_Fine _ _ _ _ _).mono ?_; rintro e w1 ⟨rfl, hb1⟩
    obtain ⟨hc1, hf1⟩ := bcell hb1
    have hz : w.heap.size < w1.heap.size := by have := hb1.size; simp at this; omega
    go_wp2_with fail
    all_goals
      go_ret
      exact ⟨ret_bool (by rw [Hr.out]), bstep (below_a1 _ _) hb1⟩
  subst ctc
  go_enter Tryd.func39, Tryd.ntmps39
  go_wp2_with fail
  refine (ref02_Fine _ _ _ _ _).mono ?_; rintro e w1 ⟨rfl, hb1⟩
  obtain ⟨hc1, hf1⟩ := bcell hb1
  have hz : w.heap.size < w1.heap.size := by have := hb1.size; simp at this; omega
  go_wp2_with fail
  all_goals
    go_ret
    exact ⟨ret_bool (by rw [Hr.out]), bstep (below_a1 _ _) hb1⟩
theorem ref17_Good_0 (k ar ac fr fc tr tc : Int) (s : ByteArray) (h1 : ¬ k = 1) (h2 : ¬ k = 2) (h3 : ¬ k = 3) (w : World) :
    Calls Tryd.prog 39 #[.agg #[.int .i64 k, .int .i64 ar, .int .i64 ac, .int .i64 fr, .int .i64 fc, .int .i64 tr, .int .i64 tc, .string s]] w fun e w' => e = .returned (.bool (goodE k ar ac fr fc tr tc s)) ∧ Below w.heap.size w w' := by
  have hr : goodE k ar ac fr fc tr tc s = false := by simp [goodE, h1, h2, h3]
  have Hr := Lib.hid hr; clear hr
  go_enter Tryd.func39, Tryd.ntmps39
  go_wp2_with fail
  all_goals
    go_ret
    exact ⟨ret_bool (by rw [Hr.out]), below_a1 _ _⟩
theorem ref17_Good (k ar ac fr fc tr tc : Int) (s : ByteArray) (w : World) :
    Calls Tryd.prog 39 #[.agg #[.int .i64 k, .int .i64 ar, .int .i64 ac, .int .i64 fr, .int .i64 fc, .int .i64 tr, .int .i64 tc, .string s]] w fun e w' => e = .returned (.bool (goodE k ar ac fr fc tr tc s)) ∧ Below w.heap.size w w' := by
  by_cases h1 : k = 1
  · cases hg : goodA ar ac
    · exact ref17_Good_1f k ar ac fr fc tr tc s h1 hg w
    · exact ref17_Good_1t k ar ac fr fc tr tc s h1 hg w
  by_cases h2 : k = 2
  · cases hg : goodA ar ac
    · exact ref17_Good_2f k ar ac fr fc tr tc s h2 hg w
    · exact ref17_Good_2t k ar ac fr fc tr tc s h2 hg w
  by_cases h3 : k = 3
  · cases hg : fineR fr fc tr tc
    · exact ref17_Good_3f k ar ac fr fc tr tc s h3 hg w
    · exact ref17_Good_3t k ar ac fr fc tr tc s h3 hg w
  exact ref17_Good_0 k ar ac fr fc tr tc s h1 h2 h3 w

end Go.Proofs.YtlpdanghcdajmaaDoor
