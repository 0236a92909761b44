/- How an argument of the type [2]uint64 is opened. -/
import Derived.Test.YtlpdanghcdajmaaDoorLaid
import Derived.ProofKit
import Derived.OpenShut
import Derived.Below
import Derived.Carry
namespace Go.Proofs.YtlpdanghcdajmaaDoor
open Go.ChangeShapes Go.WideShapes Go.RowKit
theorem laidOutB_ok : laidOutB Tryd.prog = true := by kernel_rfl
theorem arr2_under : Tryd.prog.underlying 52 = some (.array 2 33) := by kernel_rfl
theorem arr2_cells : Tryd.prog.cellsOf 52 = 2 := by kernel_rfl
theorem u64_cells : Tryd.prog.cellsOf 33 = 1 := by kernel_rfl
theorem u64_bd {x : Int} (h : (Lit.int .u64 x).wf = true) : 0 ≤ x ∧ x < 18446744073709551616 := by
  simp [Lit.wf, IntKind.min, IntKind.max, IntKind.signed, IntKind.bits] at h; omega
section
variable {H : Type} {enc : TypeId × Value → H} {W : World} {base : Nat} {sp : Nat → Bool} {held : Bool}
set_option maxRecDepth 100000 in
theorem open_a2u64 {r : Reach} {b0 : Nat} {v : Value} {d : DataW H} {p : List MemPlace} (hv : Value.okWide Tryd.prog W r b0 52 v) (h : DataW.Trod enc Tryd.prog W base sp held 52 v d p) :
    ∃ x y : Int, v = .agg #[.int .u64 x, .int .u64 y] ∧ (Lit.int .u64 x).wf = true ∧ (Lit.int .u64 y).wf = true := by
  unfold Value.okWide at hv
  rw [arr2_under] at hv
  obtain ⟨cs, rfl, hsz, _⟩ := hv
  rw [arr2_cells] at hsz
  obtain ⟨c0, c1, rfl⟩ : ∃ c0 c1, cs = #[c0, c1] := by
    obtain ⟨l⟩ := cs
    match l, hsz with
    | [c0, c1], _ => exact ⟨c0, c1, rfl⟩
  obtain ⟨fuel, hf⟩ := h
  obtain ⟨xs, m, _, _, _, hl, hi⟩ := DataW.trod_array arr2_under hf
  have h0 := hi 0 (by decide)
  have h1 := hi 1 (by decide)
  rw [u64_cells] at h0 h1
  simp only [Value.cells, Nat.zero_mul, Nat.one_mul, List.drop_zero, List.take_succ_cons, List.take_zero, List.drop_succ_cons] at h0 h1
  rw [List.getElem?_eq_getElem (by omega)] at h0 h1
  obtain ⟨x, e0, _, wx⟩ := DataW.trod_int Tryd.underlying33 h0
  obtain ⟨y, e1, _, wy⟩ := DataW.trod_int Tryd.underlying33 h1
  simp at e0 e1
  exact ⟨x, y, by rw [e0, e1], wx, wy⟩
end
end Go.Proofs.YtlpdanghcdajmaaDoor
