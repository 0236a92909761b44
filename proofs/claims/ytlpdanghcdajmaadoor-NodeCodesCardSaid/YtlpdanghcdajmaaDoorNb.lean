/- Nodes (layer 23): slices.IndexFunc, ContainsFunc over items, by what the function value answers. -/
import Derived.Test.YtlpdanghcdajmaaDoorNa
import Derived.LoopTactic
namespace Go.Proofs.YtlpdanghcdajmaaDoor
open Go.RowKit
/-- The items lie in memory, 4 cells each. -/
structure ItemsAt (w : World) (b off : Nat) (l : List It) : Prop where
  lt : l ≠ [] → b < w.heap.size
  key : ∀ i (h : i < l.length), w.cell? ⟨b, off + i * 4, none⟩ = some (.int .u32 l[i].key)
  size : ∀ i (h : i < l.length), w.cell? ⟨b, off + i * 4 + 1, none⟩ = some (.int .i64 l[i].size)
  text : ∀ i (h : i < l.length), w.cell? ⟨b, off + i * 4 + 2, none⟩ = some (.string l[i].text)
  page : ∀ i (h : i < l.length), w.cell? ⟨b, off + i * 4 + 3, none⟩ = some (.int .i64 l[i].page)
theorem ItemsAt.below {w w' : World} {b off : Nat} {l : List It} (h : ItemsAt w b off l) (hb : Below w.heap.size w w') : ItemsAt w' b off l := by
  by_cases hl : l = []
  · subst hl
    exact ⟨fun h => absurd rfl h, fun i h => absurd h (by simp), fun i h => absurd h (by simp), fun i h => absurd h (by simp), fun i h => absurd h (by simp)⟩
  · have hlt := h.lt hl
    exact ⟨fun _ => Nat.lt_of_lt_of_le hlt hb.size, fun i hi => by rw [hb.cell (p := ⟨b, off + i * 4, none⟩) hlt]; exact h.key i hi,
      fun i hi => by rw [hb.cell (p := ⟨b, off + i * 4 + 1, none⟩) hlt]; exact h.size i hi,
      fun i hi => by rw [hb.cell (p := ⟨b, off + i * 4 + 2, none⟩) hlt]; exact h.text i hi,
      fun i hi => by rw [hb.cell (p := ⟨b, off + i * 4 + 3, none⟩) hlt]; exact h.page i hi⟩
/-- Numbers lie in memory, a cell each. -/
structure IntsAt (kd : IntKind) (w : World) (b off : Nat) (l : List Int) : Prop where
  lt : l ≠ [] → b < w.heap.size
  at' : ∀ i (h : i < l.length), w.cell? ⟨b, off + i, none⟩ = some (.int kd l[i])
theorem IntsAt.below {kd : IntKind} {w w' : World} {b off : Nat} {l : List Int} (h : IntsAt kd w b off l) (hb : Below w.heap.size w w') : IntsAt kd w' b off l := by
  by_cases hl : l = []
  · subst hl
    exact ⟨fun h => absurd rfl h, fun i h => absurd h (by simp)⟩
  · have hlt := h.lt hl
    exact ⟨fun _ => Nat.lt_of_lt_of_le hlt hb.size, fun i hi => by rw [hb.cell (p := ⟨b, off + i, none⟩) hlt]; exact h.at' i hi⟩
/-- The place of the first item of which pr holds, or -1. -/
def firstI {α : Type} (pr : α → Bool) (l : List α) : Int := if l.findIdx pr < l.length then (l.findIdx pr : Int) else -1
theorem firstI_hit {α : Type} {pr : α → Bool} {l : List α} {k : Nat} (hk : k < l.length) (hp : pr l[k] = true) (hpre : ∀ j (h : j < l.length), j < k → pr l[j] = false) : firstI pr l = k := by
  have e : l.findIdx pr = k := (List.findIdx_eq hk).2 ⟨hp, fun j hj => hpre j (by omega) hj⟩
  unfold firstI; rw [e, if_pos hk]
theorem firstI_none {α : Type} {pr : α → Bool} {l : List α} (hpre : ∀ j (h : j < l.length), pr l[j] = false) : firstI pr l = -1 := by
  have e : ¬ l.findIdx pr < l.length := fun h => by
    have h1 := List.findIdx_getElem (w := h)
    rw [hpre _ h] at h1
    cases h1
  unfold firstI; rw [if_neg e]
theorem firstI_any {α : Type} (pr : α → Bool) (l : List α) : decide (0 ≤ firstI pr l) = l.any pr := by
  unfold firstI
  by_cases h : l.findIdx pr < l.length
  · rw [if_pos h]
    have : l.any pr = true := List.any_eq_true.2 ⟨l[l.findIdx pr], List.getElem_mem _, List.findIdx_getElem (w := h)⟩
    rw [this]; simp
  · rw [if_neg h]
    have : l.any pr = false := by
      rw [List.any_eq_false]
      intro x hx hp
      exact h (List.findIdx_lt_length_of_exists ⟨x, hx, hp⟩)
    rw [this]; rfl

set_option maxRecDepth 20000 in
set_option maxHeartbeats 1000000 in
theorem idx_good1  (b off cap : Nat) (l : List It) (hl : l.length < 4294967296) (w : World) (hI : ItemsAt w b off l) :
    Calls Tryd.prog 94 #[.slice (some ⟨b, off, none⟩) l.length cap, .func (.func 82) #[] #[]] w fun e w' => e = .returned (.int .i64 (firstI (fun x => !goodI x) l)) ∧ Below w.heap.size w w' := by
  have HI := Lib.hid hI
  clear hI
  go_enter Tryd.func94, Tryd.ntmps94
  go_wp2_with fail
  go_loopw [8] (fun iv wr => ∃ k : Nat, k ≤ l.length ∧ iv = .int .i64 k ∧ (∀ j (h : j < l.length), j < k → (fun x => !goodI x) l[j] = false) ∧ Below w.heap.size w wr) (fun iv _ => l.length - (intOf iv).toNat)
  case atStart => exact ⟨0, Nat.zero_le _, rfl, fun j _ h => absurd h (by omega), Below.refl _ _⟩
  case round =>
    obtain ⟨k, hk, rfl, hpre, hB⟩ := hrel
    have HP := Lib.hid hpre
    have HB := Lib.hid hB
    clear hpre hB
    by_cases hlt : k < l.length
    · have hi : (k : Int) < (l.length : Int) := by omega
      have hI2 := HI.out.below HB.out
      have c0 := hI2.key k hlt
      have c1 := hI2.size k hlt
      have c2 := hI2.text k hlt
      have c3 := hI2.page k hlt
      clear hI2
      obtain ⟨x, hx⟩ : ∃ x, x = l[k] := ⟨_, rfl⟩
      rw [← hx] at c0 c1 c2 c3
      have Hx := Lib.hid hx
      clear hx
      have HC := Lib.hid (good_1 x)
      obtain ⟨xk, xs, xt, xp⟩ := x
      simp only at c0 c1 c2 c3
      cases hpx : (fun x => !goodI x) ⟨xk, xs, xt, xp⟩ with
      | true =>
        have Hpx := Lib.hid hpx
        clear hpx
        go_wp2_with fail
        refine (HC.out _).mono ?_; rintro e w1 ⟨rfl, hb1⟩
        rw [Hpx.out]
        go_wp2_with fail
        go_ret
        exact ⟨by rw [firstI_hit hlt (by rw [← Hx.out]; exact Hpx.out) HP.out]; rfl, bstep HB.out (hb1)⟩
      | false =>
        have Hpx := Lib.hid hpx
        clear hpx
        go_wp2_with fail
        refine (HC.out _).mono ?_; rintro e w1 ⟨rfl, hb1⟩
        rw [Hpx.out]
        go_wp2_with fail
        go_roundw
        case rel =>
          refine ⟨k + 1, by omega, by go_num, fun j h hj => ?_, bstep HB.out (hb1)⟩
          by_cases hjk : j = k
          · subst hjk; rw [← Hx.out]; exact Hpx.out
          · exact HP.out j h (by omega)
        case measure => simp [intOf]; omega
    · have hi : ¬ (k : Int) < (l.length : Int) := by omega
      go_wp2_with fail
      go_ret
      exact ⟨by rw [firstI_none (fun j h => HP.out j h (by omega))]; rfl, HB.out⟩

set_option maxRecDepth 20000 in
set_option maxHeartbeats 1000000 in
theorem idx_good3  (b off cap : Nat) (l : List Int) (hl : l.length < 4294967296) (w : World) (hI : IntsAt .i64 w b off l) :
    Calls Tryd.prog 104 #[.slice (some ⟨b, off, none⟩) l.length cap, .func (.func 87) #[] #[]] w fun e w' => e = .returned (.int .i64 (firstI (fun x => !pageB x) l)) ∧ Below w.heap.size w w' := by
  have HI := Lib.hid hI
  clear hI
  go_enter Tryd.func104, Tryd.ntmps104
  go_wp2_with fail
  go_loopw [8] (fun iv wr => ∃ k : Nat, k ≤ l.length ∧ iv = .int .i64 k ∧ (∀ j (h : j < l.length), j < k → (fun x => !pageB x) l[j] = false) ∧ Below w.heap.size w wr) (fun iv _ => l.length - (intOf iv).toNat)
  case atStart => exact ⟨0, Nat.zero_le _, rfl, fun j _ h => absurd h (by omega), Below.refl _ _⟩
  case round =>
    obtain ⟨k, hk, rfl, hpre, hB⟩ := hrel
    have HP := Lib.hid hpre
    have HB := Lib.hid hB
    clear hpre hB
    by_cases hlt : k < l.length
    · have hi : (k : Int) < (l.length : Int) := by omega
      have hI2 := HI.out.below HB.out
      have c0 := hI2.at' k hlt
      clear hI2
      obtain ⟨x, hx⟩ : ∃ x, x = l[k] := ⟨_, rfl⟩
      rw [← hx] at c0
      have Hx := Lib.hid hx
      clear hx
      have HC := Lib.hid (good_3 x)
      cases hpx : (fun x => !pageB x) x with
      | true =>
        have Hpx := Lib.hid hpx
        clear hpx
        go_wp2_with fail
        refine (HC.out _).mono ?_; rintro e w1 ⟨rfl, hb1⟩
        rw [Hpx.out]
        go_wp2_with fail
        go_ret
        exact ⟨by rw [firstI_hit hlt (by rw [← Hx.out]; exact Hpx.out) HP.out]; rfl, bstep HB.out (by subst hb1; exact Below.refl _ _)⟩
      | false =>
        have Hpx := Lib.hid hpx
        clear hpx
        go_wp2_with fail
        refine (HC.out _).mono ?_; rintro e w1 ⟨rfl, hb1⟩
        rw [Hpx.out]
        go_wp2_with fail
        go_roundw
        case rel =>
          refine ⟨k + 1, by omega, by go_num, fun j h hj => ?_, bstep HB.out (by subst hb1; exact Below.refl _ _)⟩
          by_cases hjk : j = k
          · subst hjk; rw [← Hx.out]; exact Hpx.out
          · exact HP.out j h (by omega)
        case measure => simp [intOf]; omega
    · have hi : ¬ (k : Int) < (l.length : Int) := by omega
      go_wp2_with fail
      go_ret
      exact ⟨by rw [firstI_none (fun j h => HP.out j h (by omega))]; rfl, HB.out⟩

theorem con_good1  (b off cap : Nat) (l : List It) (hl : l.length < 4294967296) (w : World) (hI : ItemsAt w b off l) :
    Calls Tryd.prog 81 #[.slice (some ⟨b, off, none⟩) l.length cap, .func (.func 82) #[] #[]] w fun e w' => e = .returned (.bool (l.any (fun x => !goodI x))) ∧ Below w.heap.size w w' := by
  have H := Lib.hid (idx_good1 b off cap l hl w hI)
  have hr := firstI_any (fun x => !goodI x) l
  rw [← hr]
  generalize firstI (fun x => !goodI x) l = n at H ⊢
  clear hr
  go_enter Tryd.func81, Tryd.ntmps81
  go_wp2_with fail
  refine H.out.mono ?_; rintro e w1 ⟨rfl, hb⟩
  go_wp2_with fail
  go_ret
  exact ⟨ret_bool rfl, hb⟩

theorem con_good3  (b off cap : Nat) (l : List Int) (hl : l.length < 4294967296) (w : World) (hI : IntsAt .i64 w b off l) :
    Calls Tryd.prog 86 #[.slice (some ⟨b, off, none⟩) l.length cap, .func (.func 87) #[] #[]] w fun e w' => e = .returned (.bool (l.any (fun x => !pageB x))) ∧ Below w.heap.size w w' := by
  have H := Lib.hid (idx_good3 b off cap l hl w hI)
  have hr := firstI_any (fun x => !pageB x) l
  rw [← hr]
  generalize firstI (fun x => !pageB x) l = n at H ⊢
  clear hr
  go_enter Tryd.func86, Tryd.ntmps86
  go_wp2_with fail
  refine H.out.mono ?_; rintro e w1 ⟨rfl, hb⟩
  go_wp2_with fail
  go_ret
  exact ⟨ret_bool rfl, hb⟩

end Go.Proofs.YtlpdanghcdajmaaDoor
