/- Heads (layer 20): nil disks; Own and same of the law; both disks' heads. -/
import Derived.Test.YtoebldemcgahnaaGreatDoorJk
import Derived.Test.YtoebldemcgahnaaGreatDoorJf
import Derived.Test.YtoebldemcgahnaaGreatDoorJl
import Derived.Test.YtoebldemcgahnaaGreatDoorDzg
import Derived.Deep.RegionHeld3
namespace Go.Proofs.YtoebldemcgahnaaGreatDoor
open Go.RowKit
set_option maxRecDepth 20000 in
set_option maxHeartbeats 1000000 in
theorem head_lay_nil (w : World) : Calls Tryz.prog 82 #[.pointer none] w fun e w' => e = .returned (.tuple #[.agg #[.int .i64 0, .int .i64 0, .int .i64 0, .int .i64 0], .int .i64 1]) ∧ Below w.heap.size w w' := by
  obtain ⟨w0, hw0⟩ : ∃ w0, w0 = w.alloc (.cells #[.int .i64 0, .int .i64 0, .int .i64 0, .int .i64 0] 56) := ⟨_, rfl⟩
  have B0 : Hid (Below w.heap.size w w0) := by show Below _ _ _; rw [hw0]; exact below_a1 _ _
  have X0 : Hid (w0.heap[w.heap.size]? = some (.cells #[.int .i64 0, .int .i64 0, .int .i64 0, .int .i64 0] 56 (0, 0))) := by show _ = _; rw [hw0]; exact blk_new _ _
  have HW0 := Lib.hid hw0
  have hc := blk_cell X0.out
  have hf := blk_frozen X0.out
  have HZ : Hid (∀ (a b c d : Value) o, ((((w0.setCell ⟨w.heap.size, 0, none⟩ a).setCell ⟨w.heap.size, 1, none⟩ b).setCell ⟨w.heap.size, 2, none⟩ c).setCell ⟨w.heap.size, 3, none⟩ d).cell? ⟨w.heap.size, o, none⟩ = (#[a, b, c, d] : Array Value)[o]?) := fun a b c d => blk_cell (st4 X0.out a b c d)
  have HB : Hid (∀ (a b c d : Value), Below w.heap.size w ((((w0.setCell ⟨w.heap.size, 0, none⟩ a).setCell ⟨w.heap.size, 1, none⟩ b).setCell ⟨w.heap.size, 2, none⟩ c).setCell ⟨w.heap.size, 3, none⟩ d)) := fun a b c d => bst4 B0.out (Nat.le_refl _) a b c d
  clear hw0
  go_enter Tryz.func82, Tryz.ntmps82
  go_upto_region 1 with (fail)
  rw [← HW0.out]
  go_wp2_with fail
  have hz := HZ.out (.int .i64 0) (.int .i64 0) (.int .i64 0) (.int .i64 0)
  exact bodyPost_ret (v := .tuple #[.agg #[.int .i64 0, .int .i64 0, .int .i64 0, .int .i64 0], .int .i64 1]) (by simp [results, Tryz.results82, go_sem, hz]) rfl ⟨rfl, HB.out _ _ _ _⟩
set_option maxRecDepth 20000 in
set_option maxHeartbeats 1000000 in
theorem head_Read_nil (w : World) : Calls Tryz.prog 38 #[.pointer none] w fun e w' => e = .returned (.tuple #[.slice none 0 0, .int .i64 1]) ∧ Below w.heap.size w w' := by
  have LY := Lib.hid (head_lay_nil w)
  go_enter Tryz.func38, Tryz.ntmps38
  go_wp2_with fail
  refine LY.out.mono ?_; rintro e w1 ⟨rfl, hb⟩
  have B1 := Lib.hid hb
  clear hb
  go_wp2_with fail
  go_ret2
  exact ⟨rfl, bstep B1.out (below_a1 _ _)⟩
set_option maxRecDepth 20000 in
set_option maxHeartbeats 1000000 in
theorem head_Write_nil (e r f : Int) (w : World) : Calls Tryz.prog 36 #[.pointer none, .agg #[.int .u32 e, .int .i64 r, .int .u32 f]] w fun e w' => e = .returned (.int .i64 1) ∧ Below w.heap.size w w' := by
  have LY := Lib.hid (fun W => head_lay_nil W)
  obtain ⟨w0, hw0⟩ : ∃ w0, w0 = w.alloc (.cells #[.int .u32 e, .int .i64 r, .int .u32 f] 54) := ⟨_, rfl⟩
  have B0 : Hid (Below w.heap.size w w0) := by show Below _ _ _; rw [hw0]; exact below_a1 _ _
  have HW0 := Lib.hid hw0
  clear hw0
  go_enter Tryz.func36, Tryz.ntmps36
  go_upto_region 1 with (fail)
  rw [← HW0.out]
  go_wp2_with fail
  refine (LY.out _).mono ?_; rintro e w1 ⟨rfl, hb⟩
  have B1 := Lib.hid (bstep B0.out hb)
  clear hb
  go_wp2_with fail
  go_ret
  exact ⟨rfl, bstep B1.out (below_a1 _ _)⟩
set_option maxHeartbeats 1000000 in
theorem law20_OwnR (e r f : Int) (w : World) : Calls Tryz.prog 33 #[.agg #[.int .u32 e, .int .i64 r, .int .u32 f]] w fun z w' => z = .returned (.agg #[.int .u32 e, .int .i64 r, .int .u32 f]) ∧ Below w.heap.size w w' := by
  have BX : Hid (∀ W : World, Below w.heap.size w W → True) := fun _ _ => trivial
  go_enter Tryz.func33, Tryz.ntmps33
  go_wp2_with fail
  exact bodyPost_ret (v := .agg #[.int .u32 e, .int .i64 r, .int .u32 f]) (by simp [results, Tryz.results33, go_sem]) rfl ⟨rfl, bstep (below_a1 _ _) (below_a1 _ _)⟩
theorem SlHds.form {w : World} {v : Value} {l : List Hd} (h : SlHds w v l) : ∃ p c, v = .slice p l.length c := by
  rcases h with ⟨h, e⟩ | ⟨b, off, cap, e, _, _⟩
  · subst e; exact ⟨none, 0, h⟩
  · exact ⟨_, _, e⟩
theorem SlHds.at {w : World} {p : Option Addr} {c k : Nat} {l : List Hd} (h : SlHds w (.slice p l.length c) l) (hk : k < l.length) : ∃ b off, p = some ⟨b, off, none⟩ ∧ HdsAt w b off l := by
  rcases h with ⟨_, h2⟩ | ⟨b, off, cap, e, _, h⟩
  · subst h2; exact absurd hk (by simp)
  · injection e with e1 e2 e3
    exact ⟨b, off, e1, h⟩
set_option maxRecDepth 20000 in
set_option maxHeartbeats 4000000 in
/-- Two lists of the same heads are the same. -/
theorem law20_same (v u : Value) (L : List Hd) (hL : L.length < 9223372036854775807) (w : World) (hv : SlHds w v L) (hu : SlHds w u L) :
    Calls Tryz.prog 57 #[v, u] w fun e w' => e = .returned (.bool true) ∧ Below w.heap.size w w' := by
  obtain ⟨p, c, rfl⟩ := hv.form
  obtain ⟨q, d, rfl⟩ := hu.form
  have OW := Lib.hid law20_OwnR
  have HV := Lib.hid hv
  have HU := Lib.hid hu
  have HL := Lib.hid hL
  clear hv hu hL
  obtain ⟨m, hm⟩ : ∃ m, m = L.length := ⟨_, rfl⟩
  have s0 : ((m : Int) != (m : Int)) = false := by simp
  have HM := Lib.hid hm
  rw [← hm]
  clear hm
  go_enter Tryz.func57, Tryz.ntmps57
  go_wp2_with fail
  go_loopw [5] (fun c wr => ∃ i : Nat, i ≤ m ∧ c = .int .i64 i ∧ Below w.heap.size w wr) (fun c _ => m - (intOf c).toNat)
  case atStart => exact ⟨0, Nat.zero_le _, rfl, Below.refl _ _⟩
  case round =>
    obtain ⟨i, hik, rfl, hB⟩ := hrel
    have BW := Lib.hid hB
    clear hB
    by_cases hlt : i < m
    · have hi : (i : Int) < (m : Int) := by omega
      have hi0 : (0 : Int) ≤ (i : Int) := by omega
      have hl : i < L.length := by have := HM.out; omega
      obtain ⟨b, off, rfl, A⟩ := HV.out.at hl
      obtain ⟨b2, off2, rfl, A2⟩ := HU.out.at hl
      have W1 : IntKind.i64.wrap ((i : Int) + 1) = (i : Int) + 1 := IntWalk.i64_in _ (by have := HL.out; have := HM.out; omega)
      obtain ⟨h, hh⟩ : ∃ h, h = L[i] := ⟨_, rfl⟩
      obtain ⟨e, r, f⟩ := h
      have d0 := A.ce i hl
      have d1 := A.cr i hl
      have d2 := A.cf i hl
      have g0 := A2.ce i hl
      have g1 := A2.cr i hl
      have g2 := A2.cf i hl
      rw [← hh] at d0 d1 d2 g0 g1 g2
      dsimp only at d0 d1 d2 g0 g1 g2
      have SOf : Hid (∀ W, Below w.heap.size w W → W.cell? ⟨b, off + i * 3, none⟩ = some (.int .u32 e) ∧ W.cell? ⟨b, off + i * 3 + 1, none⟩ = some (.int .i64 r) ∧ W.cell? ⟨b, off + i * 3 + 2, none⟩ = some (.int .u32 f) ∧ W.cell? ⟨b2, off2 + i * 3, none⟩ = some (.int .u32 e) ∧ W.cell? ⟨b2, off2 + i * 3 + 1, none⟩ = some (.int .i64 r) ∧ W.cell? ⟨b2, off2 + i * 3 + 2, none⟩ = some (.int .u32 f)) := fun W h => ⟨dk_cell d0 h, dk_cell d1 h, dk_cell d2 h, dk_cell g0 h, dk_cell g1 h, dk_cell g2 h⟩
      have e1 : (e != e) = false := by simp
      have e2 : (r != r) = false := by simp
      have e3 : (f != f) = false := by simp
      clear A A2 d0 d1 d2 g0 g1 g2 hh hl HV HU
      go_upto_region 6 with (fail)
      have BN := Lib.hid (bstep BW.out (show Below wr.heap.size wr wr.drew from ⟨rfl, rfl, rfl, Nat.le_refl _, fun _ _ => rfl⟩))
      have S0 := SOf.out _ BN.out
      go_region_held3 (fun w' => w'.cell? ⟨b, off + i * 3, none⟩ = some (.int .u32 e) ∧ w'.cell? ⟨b, off + i * 3 + 1, none⟩ = some (.int .i64 r) ∧ w'.cell? ⟨b, off + i * 3 + 2, none⟩ = some (.int .u32 f) ∧ w'.cell? ⟨b2, off2 + i * 3, none⟩ = some (.int .u32 e) ∧ w'.cell? ⟨b2, off2 + i * 3 + 1, none⟩ = some (.int .i64 r) ∧ w'.cell? ⟨b2, off2 + i * 3 + 2, none⟩ = some (.int .u32 f)) (first | exact S0 | assumption)
        (first
          | (go_at_call 33; refine (OW.out _ _ _ _).mono ?_; rintro z y ⟨rfl, hy⟩; have BN := Lib.hid (bstep BN.out hy); have S0 := SOf.out _ BN.out; clear hy))
      go_wp2_with fail
      go_roundw
      case rel => exact ⟨i + 1, by omega, by go_num, BN.out⟩
      case measure => simp [intOf]; omega
    · have hi : ¬ (i : Int) < (m : Int) := by omega
      go_wp2_with fail
      go_ret
      exact ⟨rfl, BW.out⟩
section
variable {w w0 : World} {g mb cb q sb rb c1 c2 n : Nat} {d : Dk} {a0 a1 a2 aD aA : Addr}
theorem pd_headRead (w : World) (hf : FrW w a0 a1 a2) (hw : DkW w aD aA) (h : DkP w g mb cb q sb rb d) : Calls Tryz.prog 38 #[.pointer (some ⟨g, 0, none⟩)] w (HeadsP d.heads w) := by
  obtain ⟨kv, h, _⟩ := h
  exact head_Read g mb cb kv d a0 a1 a2 aD aA w hf hw h
theorem pr_headRead (ok : d.Ok) (w : World) (h : RfP w g mb cb q sb rb c1 c2 n d) : Calls Tryz.prog 56 #[.pointer (some ⟨q, 0, none⟩)] w (HeadsP d.heads w) := by
  obtain ⟨kv, h, _⟩ := h
  exact ref20_Read q sb rb c1 c2 n kv d ok w h
theorem pd_headWrite (x : Hd) (b : (0 ≤ x.e ∧ x.e < 4294967296) ∧ (0 ≤ x.f ∧ x.f < 4294967296)) (ok : d.Ok) (w : World) (hw : HwW w a0 a1 a2 aD aA) (h : DkP w g mb cb q sb rb d) :
    Calls Tryz.prog 36 #[.pointer (some ⟨g, 0, none⟩), x.v] w fun e w' => e = .returned (.int .i64 (d.putH x).2) ∧ DkP w' g mb cb q sb rb (d.putH x).1 ∧ Fr (DkS g mb cb) w w' := by
  obtain ⟨kv, h, k⟩ := h
  exact (head_Write x b.1.1 b.1.2 b.2.1 b.2.2 g mb cb kv d aD aA w hw.f.et hw.f.tbl hw.d h ok).mono fun e w' ⟨h1, h2, h3⟩ => ⟨h1, ⟨kv, h2, k⟩, h3⟩
theorem pr_headWrite (x : Hd) (b : (0 ≤ x.e ∧ x.e < 4294967296) ∧ (0 ≤ x.f ∧ x.f < 4294967296)) (ok : d.Ok) (w : World) (h : RfP w g mb cb q sb rb c1 c2 n d) :
    Calls Tryz.prog 58 #[.pointer (some ⟨q, 0, none⟩), x.v] w fun e w' => e = .returned (.int .i64 (d.putH x).2) ∧ RfP w' g mb cb q sb rb c1 c2 n (d.putH x).1 ∧ Fr (RfS q sb rb) w w' := by
  obtain ⟨kv, h, k⟩ := h
  exact (ref20_Write x b.1.1 b.1.2 b.2.1 b.2.2 q sb rb c1 c2 n kv d ok w h).mono fun e w' ⟨h1, h2, h3⟩ => ⟨h1, ⟨kv, h2, k⟩, h3⟩
end
end Go.Proofs.YtoebldemcgahnaaGreatDoor
