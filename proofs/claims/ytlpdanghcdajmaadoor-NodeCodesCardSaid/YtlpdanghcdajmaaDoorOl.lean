/- Layer 23: the reference's reader. -/
import Derived.Test.YtlpdanghcdajmaaDoorOk
import Derived.Test.YtlpdanghcdajmaaDoorNza
namespace Go.Proofs.YtlpdanghcdajmaaDoor
open Go.RowKit
/-- The reference's reader at block p. -/
def IsRr (w : World) (p : Nat) (b : ByteArray) (a : Int) (bad : Bool) : Prop := w.heap[p]? = some (.cells #[.string b, .int .i64 a, .bool bad] 144 (0, 0))
set_option maxHeartbeats 1000000 in
theorem rr_num (p : Nat) (b : ByteArray) (a : Int) (bad : Bool) (n : Int) (hb : b.size ≤ 140737488351232) (hn : n ≤ 4) (w : World) (hp : IsRr w p b a bad) :
    Calls Tryd.prog 79 #[.pointer (some ⟨p, 0, none⟩), .int .i64 n] w fun e w' => e = .returned (.int .i64 (rdR b a bad n).1) ∧ IsRr w' p b (rdR b a bad n).2.1 (rdR b a bad n).2.2 ∧ Fr (· = p) w w' := by
  have hbd := takeR_bd (b := b) (a := a) hn
  have Ht := Lib.hid (fun W => (ref16_Take b a n hb W).mono (R' := fun e w' => e = .returned (.tuple #[.int .u64 (takeR b a n).1, .int .i64 (takeR b a n).2.1, .int .i64 (takeR b a n).2.2]) ∧ Below W.heap.size W w') (fun e w' ⟨h1, h2⟩ => ⟨h1, by subst h2; exact Below.refl _ _⟩))
  obtain ⟨v, t, c, ht⟩ : ∃ v t c, takeR b a n = (v, t, c) := ⟨_, _, _, rfl⟩
  have hr : rdR b a bad n = if bad || c != 0 then (0, a, true) else (v, t, false) := by unfold rdR; rw [ht]
  rw [ht] at hbd Ht
  rw [hr]
  simp only at hbd Ht
  have Hp := Lib.hid hp
  have hq := blk_cell Hp.out
  have hpl := blk_lt Hp.out
  have q0 : w.cell? ⟨p, 0, none⟩ = some (.string b) := hq 0
  have q1 : w.cell? ⟨p, 1, none⟩ = some (.int .i64 a) := hq 1
  obtain ⟨hv0, hv1⟩ := hbd
  clear hq ht hr hp
  go_enter Tryd.func79, Tryd.ntmps79
  go_wp2_with fail
  go_region_held3 (fun w' => w'.cell? ⟨p, 0, none⟩ = some (.string b) ∧ w'.cell? ⟨p, 1, none⟩ = some (.int .i64 a)) (go_keep)
    (first | (go_at_call 30; refine (Ht.out _).mono ?_; rintro e w1 ⟨rfl, hb1⟩; have k0 := hb1.cell (p := ⟨p, 0, none⟩) hpl; have k1 := hb1.cell (p := ⟨p, 1, none⟩) hpl))
  have Hq := Lib.hid (blk_below (w := w) Hp.out ⟨hb1.os, hb1.tape, hb1.output, hb1.size, hb1.block⟩)
  have hf1 : Fr (· = p) w w1 := Fr.of_below ⟨hb1.os, hb1.tape, hb1.output, hb1.size, hb1.block⟩
  have k2 : w1.cell? ⟨p, 2, none⟩ = some (.bool bad) := (blk_cell Hq.out) 2
  have kf := blk_frozen Hq.out
  have ft := hf1.setCell (p := ⟨p, 2, none⟩) (.inl rfl) (.bool true)
  have fa := hf1.setCell (p := ⟨p, 1, none⟩) (.inl rfl) (.int .i64 t)
  have bt := blk_set Hq.out 2 (.bool true)
  have ba := blk_set Hq.out 1 (.int .i64 t)
  have FT := Lib.hid ft
  have FA := Lib.hid fa
  have BT := Lib.hid bt
  have BA := Lib.hid ba
  clear hb1 ft fa bt ba
  cases bad with
  | true =>
    by_cases hc : c = 0
    · subst hc
      go_wp2_with fail
      go_ret
      exact ⟨rfl, by have := BT.out; simpa [IsRr] using this, FT.out⟩
    · have hc1 : (c != 0) = true := by rw [bne_iff_ne]; exact hc
      have hc2 : (c == 0) = false := by rw [beq_eq_false_iff_ne]; exact hc
      go_wp2_with fail
      go_ret
      exact ⟨rfl, by have := BT.out; simpa [IsRr] using this, FT.out⟩
  | false =>
    by_cases hc : c = 0
    · subst hc
      go_wp2_with fail
      go_ret
      exact ⟨rfl, by have := BA.out; simpa [IsRr] using this, FA.out⟩
    · have hc1 : (c != 0) = true := by rw [bne_iff_ne]; exact hc
      have hc2 : (c == 0) = false := by rw [beq_eq_false_iff_ne]; exact hc
      go_wp2_with fail
      go_ret
      exact ⟨by simp, by have := BT.out; simpa [IsRr, hc1] using this, FT.out⟩
set_option maxHeartbeats 1000000 in
theorem rr_text (p : Nat) (b : ByteArray) (a : Int) (bad : Bool) (n : Int) (hb : b.size ≤ 140737488351232) (ha0 : 0 ≤ a) (ha1 : a ≤ b.size) (hn0 : 0 ≤ n) (hn1 : n ≤ 40) (w : World) (hp : IsRr w p b a bad) :
    Calls Tryd.prog 80 #[.pointer (some ⟨p, 0, none⟩), .int .i64 n] w fun e w' => e = .returned (.string (rdT b a bad n).1) ∧ IsRr w' p b (rdT b a bad n).2.1 (rdT b a bad n).2.2 ∧ Fr (· = p) w w' := by
  have Hp := Lib.hid hp
  have hpl := blk_lt hp
  have q0 : w.cell? ⟨p, 0, none⟩ = some (.string b) := (blk_cell hp) 0
  have q1 : w.cell? ⟨p, 1, none⟩ = some (.int .i64 a) := (blk_cell hp) 1
  have q2 : w.cell? ⟨p, 2, none⟩ = some (.bool bad) := (blk_cell hp) 2
  have qf := blk_frozen hp
  have m0 : IntKind.i64.wrap ((b.size : Int) - a) = (b.size : Int) - a := IntWalk.i64_in _ (by omega)
  clear hp
  cases bad with
  | true =>
    have e : rdT b a true n = (⟨#[]⟩, a, true) := by unfold rdT; simp
    rw [e]
    clear e
    go_enter Tryd.func80, Tryd.ntmps80
    go_wp2_with fail
    go_quiet (fail)
    go_wp2_with fail
    go_ret
    have h1 := blk_set Hp.out 2 (.bool true)
    have hF : Fr (· = p) w ((w.drewN nq).setCell ⟨p, 2, none⟩ (.bool true)) := ((Fr.refl (· = p) w).drewN nq).setCell (p := ⟨p, 2, none⟩) (.inl rfl) (.bool true)
    simp only [List.setIfInBounds_toArray, List.set_cons_zero, List.set_cons_succ] at h1
    exact ⟨rfl, h1, hF⟩
  | false =>
    by_cases hc : (b.size : Int) - a < n
    · have e : rdT b a false n = (⟨#[]⟩, a, true) := by unfold rdT; simp [hc]
      rw [e]
      clear e
      go_enter Tryd.func80, Tryd.ntmps80
      go_wp2_with fail
      go_quiet (fail)
      go_wp2_with fail
      go_ret
      have h1 := blk_set Hp.out 2 (.bool true)
      have hF : Fr (· = p) w ((w.drewN nq).setCell ⟨p, 2, none⟩ (.bool true)) := ((Fr.refl (· = p) w).drewN nq).setCell (p := ⟨p, 2, none⟩) (.inl rfl) (.bool true)
      simp only [List.setIfInBounds_toArray, List.set_cons_zero, List.set_cons_succ] at h1
      exact ⟨rfl, h1, hF⟩
    · have e : rdT b a false n = (b.extract a.toNat (a + n).toNat, a + n, false) := by unfold rdT; simp [hc]
      rw [e]
      clear e
      have m1 : IntKind.i64.wrap (a + n) = a + n := IntWalk.i64_in _ (by omega)
      have m2 : a + n - n = a := by omega
      have m3 : IntKind.i64.wrap a = a := IntWalk.i64_in _ (by omega)
      have hsl : ∀ W : World, (Instr.slice 9 (.string b) (some (.int .i64 a)) (some (.int .i64 (a + n))) none).run Tryd.prog W = .ok (.string (b.extract a.toNat (a + n).toNat)) W := fun W =>
        run_slice_string W 9 b .i64 .i64 _ _ Tryd.underlying9 (by omega) (by omega) (by omega)
      go_enter Tryd.func80, Tryd.ntmps80
      go_wp2_with fail
      go_quiet (fail)
      rename Nat => n1
      go_wp2_with fail
      go_quiet (fail)
      go_wp2_with fail
      go_ret
      have h1 := blk_set Hp.out 1 (.int .i64 (a + n))
      have hF : Fr (· = p) w (((w.drewN n1).setCell ⟨p, 1, none⟩ (.int .i64 (a + n))).drewN nq) := (((Fr.refl (· = p) w).drewN n1).setCell (p := ⟨p, 1, none⟩) (.inl rfl) (.int .i64 (a + n))).drewN nq
      simp only [List.setIfInBounds_toArray, List.set_cons_zero, List.set_cons_succ] at h1
      exact ⟨rfl, h1, hF⟩
end Go.Proofs.YtlpdanghcdajmaaDoor
