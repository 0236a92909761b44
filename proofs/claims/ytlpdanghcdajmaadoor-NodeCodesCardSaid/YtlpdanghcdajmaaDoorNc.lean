/- Nodes (layer 23): rising. -/
import Derived.Test.YtlpdanghcdajmaaDoorNb
import Derived.Deep.RegionHeld3
import Derived.RegionTactic
import Derived.BigRegion
import Derived.IntWalk
namespace Go.Proofs.YtlpdanghcdajmaaDoor
open Go.RowKit
/-- The keys rise. -/
def risesB (l : List Int) : Bool := (List.range l.length).all fun i => i == 0 || decide (l.getD (i - 1) 0 < l.getD i 0)
theorem risesB_iff (l : List Int) : risesB l = true ↔ ∀ j, 0 < j → j < l.length → l.getD (j - 1) 0 < l.getD j 0 := by
  unfold risesB
  rw [List.all_eq_true]
  constructor
  · intro h j h0 hj
    have := h j (List.mem_range.2 hj)
    simp only [Bool.or_eq_true, beq_iff_eq, decide_eq_true_eq] at this
    rcases this with e | e
    · omega
    · exact e
  · intro h j hj
    have hj := List.mem_range.1 hj
    by_cases h0 : j = 0
    · simp [h0]
    · have := h j (by omega) hj
      simp only [Bool.or_eq_true, decide_eq_true_eq]
      exact .inr this
theorem risesB_not {l : List Int} {j : Nat} (h0 : 0 < j) (hj : j < l.length) (h : ¬ l.getD (j - 1) 0 < l.getD j 0) : risesB l = false := by
  cases hb : risesB l with
  | false => rfl
  | true => exact absurd ((risesB_iff l).1 hb j h0 hj) h
set_option maxRecDepth 20000 in
set_option maxHeartbeats 2000000 in
theorem rise_keys (b off cap : Nat) (l : List Int) (hl : l.length < 4294967296) (w : World) (hI : IntsAt .u32 w b off l) :
    Calls Tryd.prog 89 #[.slice (some ⟨b, off, none⟩) l.length cap, .func (.func 90) #[] #[]] w fun e w' => e = .returned (.bool (risesB l)) ∧ Below w.heap.size w w' := by
  have HI := Lib.hid hI
  clear hI
  go_enter Tryd.func89, Tryd.ntmps89
  go_wp2_with fail
  go_loopw [8] (fun iv wr => ∃ k : Nat, k ≤ l.length ∧ iv = .int .i64 k ∧ (∀ j, 0 < j → j < k → l.getD (j - 1) 0 < l.getD j 0) ∧ Below w.heap.size w wr) (fun iv _ => l.length - (intOf iv).toNat)
  case atStart => exact ⟨0, Nat.zero_le _, rfl, fun j _ h => absurd h (by omega), Below.refl _ _⟩
  case round =>
    obtain ⟨k, hk, rfl, hpre, hB⟩ := hrel
    have HP := Lib.hid hpre
    have HB := Lib.hid hB
    clear hpre hB
    by_cases hlt : k < l.length
    · have hi : (k : Int) < (l.length : Int) := by omega
      by_cases h0 : k = 0
      · subst h0
        go_wp2_with fail
        go_quiet (fail)
        go_wp2_with fail
        go_roundw
        case rel => exact ⟨1, by omega, by go_num, fun j h1 h2 => absurd h2 (by omega), ⟨HB.out.os, HB.out.tape, HB.out.output, HB.out.size, HB.out.block⟩⟩
        case measure => simp [intOf]; omega
      · have hk0 : (0 : Int) < (k : Int) := by omega
        have hI2 := HI.out.below HB.out
        have c0 := hI2.at' (k - 1) (by omega)
        have c1 := hI2.at' k hlt
        have e0 : l[k - 1] = l.getD (k - 1) 0 := by simp [List.getD, List.getElem?_eq_getElem (by omega : k - 1 < l.length)]
        have e1 : l[k] = l.getD k 0 := by simp [List.getD, List.getElem?_eq_getElem hlt]
        rw [e0] at c0
        rw [e1] at c1
        obtain ⟨x, hx⟩ : ∃ x, x = l.getD (k - 1) 0 := ⟨_, rfl⟩
        obtain ⟨y, hy⟩ : ∃ y, y = l.getD k 0 := ⟨_, rfl⟩
        rw [← hx] at c0
        rw [← hy] at c1
        have Hx := Lib.hid hx
        have Hy := Lib.hid hy
        have hk1 : 0 < k := by omega
        have hk2 : k ≠ 0 := h0
        have m0 : (0 : Int) ≤ (k : Int) - 1 := by omega
        have m1 : (k : Int) - 1 < (l.length : Int) := by omega
        have m4 : (1 : Int) ≤ (k : Int) := by omega
        have m5 : 1 ≤ k := by omega
        have m6 : (k : Int) < (l.length : Int) + 1 := by omega
        have m8 : k - 1 < l.length := by omega
        have m2 : ((k : Int) - 1).toNat = k - 1 := by omega
        have m3 : IntKind.i64.wrap ((k : Int) - 1) = (k : Int) - 1 := IntWalk.i64_in _ (by omega)
        have C1 := Lib.hid (good_4 x)
        have C2 := Lib.hid (good_4 y)
        have hB2 := HB.out.drew
        have HB2 := Lib.hid hB2
        clear hI2 e0 e1 hx hy hB2
        by_cases hxy : x < y
        · have hge : ¬ y ≤ x := by omega
          go_wp2_with fail
          go_region_held3 (fun w' => w'.cell? ⟨b, off + (k - 1), none⟩ = some (.int .u32 x) ∧ w'.cell? ⟨b, off + k, none⟩ = some (.int .u32 y)) (go_keep)
            (first
              | (go_at_call_of 90 (Value.int IntKind.u32 x); refine (C1.out _).mono ?_; rintro e w1 ⟨rfl, rfl⟩)
              | (go_at_call_of 90 (Value.int IntKind.u32 y); refine (C2.out _).mono ?_; rintro e w2 ⟨rfl, rfl⟩))
          go_wp2_with fail
          go_roundw
          case rel =>
            refine ⟨k + 1, by omega, by go_num, fun j h1 h2 => ?_, HB2.out⟩
            by_cases hjk : j = k
            · subst hjk; rw [← Hx.out, ← Hy.out]; exact hxy
            · exact HP.out j h1 (by omega)
          case measure => simp [intOf]; omega
        · have hge : y ≤ x := by omega
          have hr : Hid (risesB l = false) := risesB_not (by omega) hlt (by rw [← Hx.out, ← Hy.out]; exact hxy)
          go_wp2_with fail
          go_region_held3 (fun w' => w'.cell? ⟨b, off + (k - 1), none⟩ = some (.int .u32 x) ∧ w'.cell? ⟨b, off + k, none⟩ = some (.int .u32 y)) (go_keep)
            (first
              | (go_at_call_of 90 (Value.int IntKind.u32 x); refine (C1.out _).mono ?_; rintro e w1 ⟨rfl, rfl⟩)
              | (go_at_call_of 90 (Value.int IntKind.u32 y); refine (C2.out _).mono ?_; rintro e w2 ⟨rfl, rfl⟩))
          go_wp2_with fail
          go_ret
          exact ⟨by rw [hr.out]; rfl, HB2.out⟩
    · have hi : ¬ (k : Int) < (l.length : Int) := by omega
      have hr : Hid (risesB l = true) := (risesB_iff l).2 fun j h1 h2 => HP.out j h1 (by omega)
      go_wp2_with fail
      go_ret
      exact ⟨by rw [hr.out]; rfl, HB.out⟩
end Go.Proofs.YtlpdanghcdajmaaDoor
