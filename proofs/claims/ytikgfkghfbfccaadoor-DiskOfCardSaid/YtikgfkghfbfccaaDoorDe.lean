/- Disks (layer 19): IndexFunc over what is kept, by the closure of Crash. -/
import Derived.Test.YtikgfkghfbfccaaDoorDd
namespace Go.Proofs.YtikgfkghfbfccaaDoor
open Go.RowKit
/-- The place of the first item of which pr holds, or -1. -/
def firstI {α : Type} (pr : α → Bool) (l : List α) : Int := if l.findIdx pr < l.length then (l.findIdx pr : Int) else -1
theorem firstI_hit {α : Type} {pr : α → Bool} {l : List α} {k : Nat} (hk : k < l.length) (hp : pr l[k] = true) (hpre : ∀ j (h : j < l.length), j < k → pr l[j] = false) : firstI pr l = k := by
  have e : l.findIdx pr = k := (List.findIdx_eq hk).2 ⟨hp, fun j hj => hpre j (by omega) hj⟩
  unfold firstI; rw [e, if_pos hk]
theorem firstI_none {α : Type} {pr : α → Bool} {l : List α} (hpre : ∀ j (h : j < l.length), pr l[j] = false) : firstI pr l = -1 := by
  have e : ¬ l.findIdx pr < l.length := fun h => by
    have h1 := List.findIdx_getElem (w := h)
    rw [hpre _ h] at h1
    cases h1
  unfold firstI; rw [if_neg e]
theorem crash_1 (i : Int) (q : Nat) (x y : Int) (w : World) (hq : w.cell? ⟨q, 0, none⟩ = some (.int .i64 i)) : Calls Tryd.prog 65 #[.agg #[.int .i64 x, .int .i64 y], .pointer (some ⟨q, 0, none⟩)] w fun e w' => e = .returned (.bool (x == i)) ∧ Below w.heap.size w w' := by
  have B0 : Hid (∀ o : Obj, Below w.heap.size w (w.alloc o)) := fun o => below_alloc1 w o
  have hq0 : ∀ o : Obj, (w.alloc o).cell? ⟨q, 0, none⟩ = some (.int .i64 i) := fun o => dk_cell hq (B0.out o)
  go_enter Tryd.func65, Tryd.ntmps65
  go_wp2_with fail
  go_ret
  exact ⟨rfl, B0.out _⟩
set_option maxRecDepth 20000 in
set_option maxHeartbeats 1000000 in
theorem idx_kept (i : Int) (q : Nat) (v : Value) (l : List (Int × Int)) (hl : l.length < 4294967296) (w : World) (hI : SlKept w v l) (hq : w.cell? ⟨q, 0, none⟩ = some (.int .i64 i)) :
    Calls Tryd.prog 64 #[v, .func (.func 65) #[] #[.pointer (some ⟨q, 0, none⟩)]] w fun e w' => e = .returned (.int .i64 (firstI (fun x => x.1 == i) l)) ∧ Below w.heap.size w w' := by
  have HQ := Lib.hid (fun W (h : Below w.heap.size w W) => dk_cell hq h)
  clear hq
  rcases hI with ⟨rfl, p0, c0, rfl⟩ | ⟨b, off, cap, rfl, hcap, hI⟩
  · go_enter Tryd.func64, Tryd.ntmps64
    go_wp2_with fail
    refine wp_loop_rounds 1 ?_
    rw [rounds_succ]
    go_wp2_with fail
    go_ret
    exact ⟨rfl, Below.refl _ _⟩
  have HI := Lib.hid hI
  clear hI hcap
  go_enter Tryd.func64, Tryd.ntmps64
  go_wp2_with fail
  go_loopw [8] (fun iv wr => ∃ k : Nat, k ≤ l.length ∧ iv = .int .i64 k ∧ (∀ j (h : j < l.length), j < k → (fun x : Int × Int => x.1 == i) l[j] = false) ∧ Below w.heap.size w wr) (fun iv _ => l.length - (intOf iv).toNat)
  case atStart => exact ⟨0, Nat.zero_le _, rfl, fun j _ h => absurd h (by omega), Below.refl _ _⟩
  case round =>
    obtain ⟨k, hk, rfl, hpre, hB⟩ := hrel
    have HP := Lib.hid hpre
    have HB := Lib.hid hB
    clear hpre hB
    by_cases hlt : k < l.length
    · have hi : (k : Int) < (l.length : Int) := by omega
      have hI2 := HI.out.below HB.out
      have c0 := hI2.sec k hlt
      have c1 := hI2.byt k hlt
      clear hI2
      obtain ⟨x, hx⟩ : ∃ x, x = l[k] := ⟨_, rfl⟩
      rw [← hx] at c0 c1
      have Hx := Lib.hid hx
      clear hx
      obtain ⟨xs, xb⟩ := x
      have HC := Lib.hid (fun W h => crash_1 i q xs xb W h)
      simp only at c0 c1
      cases hpx : (xs == i) with
      | true =>
        have Hpx := Lib.hid hpx
        clear hpx
        go_wp2_with fail
        refine (HC.out _ (HQ.out _ HB.out)).mono ?_; rintro e w1 ⟨rfl, hb1⟩
        rw [Hpx.out]
        go_wp2_with fail
        go_ret
        exact ⟨by rw [firstI_hit hlt (by rw [← Hx.out]; exact Hpx.out) HP.out]; rfl, bstep HB.out (hb1)⟩
      | false =>
        have Hpx := Lib.hid hpx
        clear hpx
        go_wp2_with fail
        refine (HC.out _ (HQ.out _ HB.out)).mono ?_; rintro e w1 ⟨rfl, hb1⟩
        rw [Hpx.out]
        go_wp2_with fail
        go_roundw
        case rel =>
          refine ⟨k + 1, by omega, by go_num, fun j h hj => ?_, bstep HB.out (hb1)⟩
          by_cases hjk : j = k
          · subst hjk; rw [← Hx.out]; exact Hpx.out
          · exact HP.out j h (by omega)
        case measure => simp [intOf]; omega
    · have hi : ¬ (k : Int) < (l.length : Int) := by omega
      go_wp2_with fail
      go_ret
      exact ⟨by rw [firstI_none (fun j h => HP.out j h (by omega))]; rfl, HB.out⟩
end Go.Proofs.YtikgfkghfbfccaaDoor
