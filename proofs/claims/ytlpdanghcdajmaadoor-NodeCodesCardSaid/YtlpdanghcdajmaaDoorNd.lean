/- Nodes (layer 23): rising over items. -/
import Derived.Test.YtlpdanghcdajmaaDoorNc
namespace Go.Proofs.YtlpdanghcdajmaaDoor
open Go.RowKit
theorem ItemsAt.two {a : World} {b off k : Nat} {l : List It} (h : ItemsAt a b off l) (h0 : k - 1 < l.length) (hk : k < l.length) {xk xs yk ys : Int} {xt yt : ByteArray} {xp yp : Int} (hx : (⟨xk, xs, xt, xp⟩ : It) = l[k - 1]) (hy : (⟨yk, ys, yt, yp⟩ : It) = l[k]) :
    a.cell? ⟨b, off + (k - 1) * 4, none⟩ = some (.int .u32 xk) ∧ a.cell? ⟨b, off + (k - 1) * 4 + 1, none⟩ = some (.int .i64 xs) ∧ a.cell? ⟨b, off + (k - 1) * 4 + 2, none⟩ = some (.string xt) ∧ a.cell? ⟨b, off + (k - 1) * 4 + 3, none⟩ = some (.int .i64 xp) ∧ a.cell? ⟨b, off + k * 4, none⟩ = some (.int .u32 yk) ∧ a.cell? ⟨b, off + k * 4 + 1, none⟩ = some (.int .i64 ys) ∧ a.cell? ⟨b, off + k * 4 + 2, none⟩ = some (.string yt) ∧ a.cell? ⟨b, off + k * 4 + 3, none⟩ = some (.int .i64 yp) :=
  ⟨by rw [h.key (k - 1) h0, ← hx], by rw [h.size (k - 1) h0, ← hx], by rw [h.text (k - 1) h0, ← hx], by rw [h.page (k - 1) h0, ← hx], by rw [h.key k hk, ← hy], by rw [h.size k hk, ← hy], by rw [h.text k hk, ← hy], by rw [h.page k hk, ← hy]⟩
theorem ItemsAt.drew {w : World} {b off : Nat} {l : List It} (h : ItemsAt w b off l) : ItemsAt w.drew b off l := ⟨h.lt, h.key, h.size, h.text, h.page⟩
theorem key_getD {l : List It} {j : Nat} (h : j < l.length) : (l.map It.key).getD j 0 = l[j].key := by
  simp [List.getD, List.getElem?_eq_getElem h]
set_option maxRecDepth 20000 in
set_option maxHeartbeats 4000000 in
theorem rise_items (b off cap : Nat) (l : List It) (hl : l.length < 4294967296) (w : World) (hI : ItemsAt w b off l) :
    Calls Tryd.prog 84 #[.slice (some ⟨b, off, none⟩) l.length cap, .func (.func 85) #[] #[]] w fun e w' => e = .returned (.bool (risesB (l.map It.key))) ∧ Below w.heap.size w w' := by
  have HI := Lib.hid hI
  clear hI
  have hml : (l.map It.key).length = l.length := List.length_map ..
  have Hml := Lib.hid hml
  clear hml
  go_enter Tryd.func84, Tryd.ntmps84
  go_wp2_with fail
  go_loopw [8] (fun iv wr => ∃ k : Nat, k ≤ l.length ∧ iv = .int .i64 k ∧ (∀ j, 0 < j → j < k → (l.map It.key).getD (j - 1) 0 < (l.map It.key).getD j 0) ∧ Below w.heap.size w wr) (fun iv _ => l.length - (intOf iv).toNat)
  case atStart => exact ⟨0, Nat.zero_le _, rfl, fun j _ h => absurd h (by omega), Below.refl _ _⟩
  case round =>
    obtain ⟨k, hk, rfl, hpre, hB⟩ := hrel
    have HP := Lib.hid hpre
    have HB := Lib.hid hB
    clear hpre hB
    by_cases hlt : k < l.length
    · have hi : (k : Int) < (l.length : Int) := by omega
      by_cases h0 : k = 0
      · subst h0
        go_wp2_with fail
        go_quiet (fail)
        go_wp2_with fail
        go_roundw
        case rel => exact ⟨1, by omega, by go_num, fun j h1 h2 => absurd h2 (by omega), ⟨HB.out.os, HB.out.tape, HB.out.output, HB.out.size, HB.out.block⟩⟩
        case measure => simp [intOf]; omega
      · have hk0 : (0 : Int) < (k : Int) := by omega
        have hk1 : 0 < k := by omega
        have hk2 : k ≠ 0 := h0
        have m0 : (0 : Int) ≤ (k : Int) - 1 := by omega
        have m1 : (k : Int) - 1 < (l.length : Int) := by omega
        have m4 : (1 : Int) ≤ (k : Int) := by omega
        have m5 : 1 ≤ k := by omega
        have m6 : (k : Int) < (l.length : Int) + 1 := by omega
        have m8 : k - 1 < l.length := by omega
        have m2 : ((k : Int) - 1).toNat = k - 1 := by omega
        have m3 : IntKind.i64.wrap ((k : Int) - 1) = (k : Int) - 1 := IntWalk.i64_in _ (by omega)
        have I0 := Lib.hid (HI.out.below HB.out).drew
        have HB2 : Hid (Below w.heap.size w wr.drew) := ⟨HB.out.os, HB.out.tape, HB.out.output, HB.out.size, HB.out.block⟩
        have kx := key_getD m8
        have ky := key_getD hlt
        obtain ⟨x, hx⟩ : ∃ x, x = l[k - 1] := ⟨_, rfl⟩
        obtain ⟨y, hy⟩ : ∃ y, y = l[k] := ⟨_, rfl⟩
        rw [← hx] at kx
        rw [← hy] at ky
        have Hx := Lib.hid hx
        have Hy := Lib.hid hy
        have C1 := Lib.hid (good_2 x)
        have C2 := Lib.hid (good_2 y)
        clear hx hy
        obtain ⟨xk, xs, xt, xp⟩ := x
        obtain ⟨yk, ys, yt, yp⟩ := y
        simp only at kx ky
        have Kx := Lib.hid kx
        have Ky := Lib.hid ky
        have S0 := ItemsAt.two I0.out m8 hlt Hx.out Hy.out
        clear kx ky
        by_cases hxy : xk < yk
        · have hge : ¬ yk ≤ xk := by omega
          go_wp2_with fail
          go_region_held3 (fun w' => w'.cell? ⟨b, off + (k - 1) * 4, none⟩ = some (.int .u32 xk) ∧ w'.cell? ⟨b, off + (k - 1) * 4 + 1, none⟩ = some (.int .i64 xs) ∧ w'.cell? ⟨b, off + (k - 1) * 4 + 2, none⟩ = some (.string xt) ∧ w'.cell? ⟨b, off + (k - 1) * 4 + 3, none⟩ = some (.int .i64 xp) ∧ w'.cell? ⟨b, off + k * 4, none⟩ = some (.int .u32 yk) ∧ w'.cell? ⟨b, off + k * 4 + 1, none⟩ = some (.int .i64 ys) ∧ w'.cell? ⟨b, off + k * 4 + 2, none⟩ = some (.string yt) ∧ w'.cell? ⟨b, off + k * 4 + 3, none⟩ = some (.int .i64 yp)) (first | assumption | exact S0)
            (first
              | (go_at_call_of 85 (Value.agg #[Value.int IntKind.u32 xk, Value.int IntKind.i64 xs, Value.string xt, Value.int IntKind.i64 xp]); refine (C1.out _).mono ?_; rintro e w1 ⟨rfl, hb1⟩; have I1 := Lib.hid (I0.out.below hb1); have B1 := Lib.hid (bstep HB2.out hb1); have S1 := ItemsAt.two I1.out (by omega) hlt Hx.out Hy.out; clear hb1)
              | (go_at_call_of 85 (Value.agg #[Value.int IntKind.u32 yk, Value.int IntKind.i64 ys, Value.string yt, Value.int IntKind.i64 yp]); refine (C2.out _).mono ?_; rintro e w2 ⟨rfl, hb2⟩; have I2 := Lib.hid (I1.out.below hb2); have B2 := Lib.hid (bstep B1.out hb2); have S2 := ItemsAt.two I2.out (by omega) hlt Hx.out Hy.out; clear hb2))
          go_wp2_with fail
          go_roundw
          case rel =>
            refine ⟨k + 1, by omega, by go_num, fun j h1 h2 => ?_, B2.out⟩
            by_cases hjk : j = k
            · subst hjk; rw [Kx.out, Ky.out]; exact hxy
            · exact HP.out j h1 (by omega)
          case measure => simp [intOf]; omega
        · have hge : yk ≤ xk := by omega
          have hr : Hid (risesB (l.map It.key) = false) := risesB_not (by omega) (by rw [Hml.out]; exact hlt) (by rw [Kx.out, Ky.out]; exact hxy)
          go_wp2_with fail
          go_region_held3 (fun w' => w'.cell? ⟨b, off + (k - 1) * 4, none⟩ = some (.int .u32 xk) ∧ w'.cell? ⟨b, off + (k - 1) * 4 + 1, none⟩ = some (.int .i64 xs) ∧ w'.cell? ⟨b, off + (k - 1) * 4 + 2, none⟩ = some (.string xt) ∧ w'.cell? ⟨b, off + (k - 1) * 4 + 3, none⟩ = some (.int .i64 xp) ∧ w'.cell? ⟨b, off + k * 4, none⟩ = some (.int .u32 yk) ∧ w'.cell? ⟨b, off + k * 4 + 1, none⟩ = some (.int .i64 ys) ∧ w'.cell? ⟨b, off + k * 4 + 2, none⟩ = some (.string yt) ∧ w'.cell? ⟨b, off + k * 4 + 3, none⟩ = some (.int .i64 yp)) (first | assumption | exact S0)
            (first
              | (go_at_call_of 85 (Value.agg #[Value.int IntKind.u32 xk, Value.int IntKind.i64 xs, Value.string xt, Value.int IntKind.i64 xp]); refine (C1.out _).mono ?_; rintro e w1 ⟨rfl, hb1⟩; have I1 := Lib.hid (I0.out.below hb1); have B1 := Lib.hid (bstep HB2.out hb1); have S1 := ItemsAt.two I1.out (by omega) hlt Hx.out Hy.out; clear hb1)
              | (go_at_call_of 85 (Value.agg #[Value.int IntKind.u32 yk, Value.int IntKind.i64 ys, Value.string yt, Value.int IntKind.i64 yp]); refine (C2.out _).mono ?_; rintro e w2 ⟨rfl, hb2⟩; have I2 := Lib.hid (I1.out.below hb2); have B2 := Lib.hid (bstep B1.out hb2); have S2 := ItemsAt.two I2.out (by omega) hlt Hx.out Hy.out; clear hb2))
          go_wp2_with fail
          go_ret
          exact ⟨by rw [hr.out]; rfl, B2.out⟩
    · have hi : ¬ (k : Int) < (l.length : Int) := by omega
      have hr : Hid (risesB (l.map It.key) = true) := (risesB_iff _).2 fun j h1 h2 => HP.out j h1 (by rw [Hml.out] at h2; omega)
      go_wp2_with fail
      go_ret
      exact ⟨by rw [hr.out]; rfl, HB.out⟩
end Go.Proofs.YtlpdanghcdajmaaDoor
