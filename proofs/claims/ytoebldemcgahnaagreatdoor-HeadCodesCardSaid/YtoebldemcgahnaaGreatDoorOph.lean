/- How an argument of the type [2]uint64 is opened. -/
import Derived.Test.YtoebldemcgahnaaGreatDoorLaid
import Derived.ProofKit
import Derived.OpenShut
import Derived.Below
import Derived.Carry
namespace Go.Proofs.YtoebldemcgahnaaGreatDoor
open Go.ChangeShapes Go.WideShapes Go.RowKit
theorem laidOutB_ok : laidOutB Tryz.prog = true := by kernel_rfl
theorem arr2_under : Tryz.prog.underlying 116 = some (.array 2 113) := by kernel_rfl
theorem arr2_cells : Tryz.prog.cellsOf 116 = 2 := by kernel_rfl
theorem u64_cells : Tryz.prog.cellsOf 113 = 1 := by kernel_rfl
theorem u64_bd {x : Int} (h : (Lit.int .u64 x).wf = true) : 0 ≤ x ∧ x < 18446744073709551616 := by
  simp [Lit.wf, IntKind.min, IntKind.max, IntKind.signed, IntKind.bits] at h; omega
section
variable {H : Type} {enc : TypeId × Value → H} {W : World} {base : Nat} {sp : Nat → Bool} {held : Bool}
set_option maxRecDepth 100000 in
theorem open_a2u64 {r : Reach} {b0 : Nat} {v : Value} {d : DataW H} {p : List MemPlace} (hv : Value.okWide Tryz.prog W r b0 116 v) (h : DataW.Trod enc Tryz.prog W base sp held 116 v d p) :
    ∃ x y : Int, v = .agg #[.int .u64 x, .int .u64 y] ∧ (Lit.int .u64 x).wf = true ∧ (Lit.int .u64 y).wf = true := by
  unfold Value.okWide at hv
  rw [arr2_under] at hv
  obtain ⟨cs, rfl, hsz, _⟩ := hv
  rw [arr2_cells] at hsz
  obtain ⟨c0, c1, rfl⟩ : ∃ c0 c1, cs = #[c0, c1] := by
    obtain ⟨l⟩ := cs
    match l, hsz with
    | [c0, c1], _ => exact ⟨c0, c1, rfl⟩
  obtain ⟨fuel, hf⟩ := h
  obtain ⟨xs, m, _, _, _, hl, hi⟩ := DataW.trod_array arr2_under hf
  have h0 := hi 0 (by decide)
  have h1 := hi 1 (by decide)
  rw [u64_cells] at h0 h1
  simp only [Value.cells, Nat.zero_mul, Nat.one_mul, List.drop_zero, List.take_succ_cons, List.take_zero, List.drop_succ_cons] at h0 h1
  rw [List.getElem?_eq_getElem (by omega)] at h0 h1
  obtain ⟨x, e0, _, wx⟩ := DataW.trod_int Tryz.underlying113 h0
  obtain ⟨y, e1, _, wy⟩ := DataW.trod_int Tryz.underlying113 h1
  simp at e0 e1
  exact ⟨x, y, by rw [e0, e1], wx, wy⟩
end
end Go.Proofs.YtoebldemcgahnaaGreatDoor

/- How an argument of the type head.Head is opened. -/
namespace Go.Proofs.YtoebldemcgahnaaGreatDoor
open Go.ChangeShapes Go.WideShapes Go.RowKit
section
variable {H : Type} {enc : TypeId × Value → H} {W : World} {base : Nat} {sp : Nat → Bool} {held : Bool}
theorem oh_int : Tryz.prog.cellsOf 3 = 1 := by kernel_rfl
theorem oh_u32 : Tryz.prog.cellsOf 32 = 1 := by kernel_rfl
theorem oh_head : Tryz.prog.cellsOf 54 = 3 := by kernel_rfl
set_option maxRecDepth 100000 in
theorem open_head {r : Reach} {b0 : Nat} {v : Value} {d : DataW H} {p : List MemPlace} (hv : Value.okWide Tryz.prog W r b0 54 v) (h : DataW.Trod enc Tryz.prog W base sp held 54 v d p) :
    ∃ e r f : Int, v = .agg #[.int .u32 e, .int .i64 r, .int .u32 f] ∧ (0 ≤ e ∧ e < 4294967296) ∧ (0 ≤ f ∧ f < 4294967296) := by
  unfold Value.okWide at hv
  rw [Tryz.underlying54] at hv
  obtain ⟨cs, rfl, hsz, _⟩ := hv
  rw [oh_head] at hsz
  obtain ⟨c0, c1, c2, rfl⟩ : ∃ c0 c1 c2, cs = #[c0, c1, c2] := by
    obtain ⟨l⟩ := cs
    match l, hsz with
    | [c0, c1, c2], _ => exact ⟨c0, c1, c2, rfl⟩
  obtain ⟨fuel, hf⟩ := h
  obtain ⟨xs, m, _, _, _, hl, hi⟩ := DataW.trod_struct Tryz.underlying54 hf
  match xs, hl with
  | [y0, y1, y2], _ =>
    have h0 := hi 0 _ rfl
    have h1 := hi 1 _ rfl
    have h2 := hi 2 _ rfl
    simp [Value.cells, oh_int, oh_u32] at h0 h1 h2
    obtain ⟨e, e0, _, w0⟩ := DataW.trod_int Tryz.underlying32 h0
    obtain ⟨r, e1, _, _⟩ := DataW.trod_int Tryz.underlying3 h1
    obtain ⟨f, e2, _, w2⟩ := DataW.trod_int Tryz.underlying32 h2
    simp at e0 e1 e2
    subst e0 e1 e2
    refine ⟨e, r, f, rfl, ?_, ?_⟩
    · have h := w0; simp [Lit.wf, IntKind.min, IntKind.max, IntKind.signed, IntKind.bits] at h; omega
    · have h := w2; simp [Lit.wf, IntKind.min, IntKind.max, IntKind.signed, IntKind.bits] at h; omega
end
end Go.Proofs.YtoebldemcgahnaaGreatDoor
