/- How arguments of the types [2]uint32 and [2]int are opened. -/
import Derived.Test.YtbopppnlgicpeaaDoorLaid
import Derived.ProofKit
import Derived.OpenShut
import Derived.Below
import Derived.Carry
namespace Go.Proofs.YtbopppnlgicpeaaDoor
open Go.ChangeShapes Go.WideShapes Go.RowKit
theorem laidOutB_ok : laidOutB Tryd.prog = true := by kernel_rfl
theorem u32_bd {x : Int} (h : (Lit.int .u32 x).wf = true) : 0 ≤ x ∧ x < 4294967296 := by
  simp [Lit.wf, IntKind.min, IntKind.max, IntKind.signed, IntKind.bits] at h; omega
theorem i64_bd {x : Int} (h : (Lit.int .i64 x).wf = true) : -9223372036854775808 ≤ x ∧ x < 9223372036854775808 := by
  simp [Lit.wf, IntKind.min, IntKind.max, IntKind.signed, IntKind.bits] at h; omega
section
variable {H : Type} {enc : TypeId × Value → H} {W : World} {base : Nat} {sp : Nat → Bool} {held : Bool}
set_option maxRecDepth 100000 in
theorem open_a2 {T t : TypeId} {k : IntKind} (hu : Tryd.prog.underlying T = some (.array 2 t)) (hc2 : Tryd.prog.cellsOf T = 2) (hc1 : Tryd.prog.cellsOf t = 1) (ht : Tryd.prog.underlying t = some (.int k)) {r : Reach} {b0 : Nat} {v : Value} {d : DataW H} {p : List MemPlace} (hv : Value.okWide Tryd.prog W r b0 T v) (h : DataW.Trod enc Tryd.prog W base sp held T v d p) :
    ∃ x y : Int, v = .agg #[.int k x, .int k y] ∧ (Lit.int k x).wf = true ∧ (Lit.int k y).wf = true := by
  unfold Value.okWide at hv
  rw [hu] at hv
  obtain ⟨cs, rfl, hsz, _⟩ := hv
  rw [hc2] at hsz
  obtain ⟨c0, c1, rfl⟩ : ∃ c0 c1, cs = #[c0, c1] := by
    obtain ⟨l⟩ := cs
    match l, hsz with
    | [c0, c1], _ => exact ⟨c0, c1, rfl⟩
  obtain ⟨fuel, hf⟩ := h
  obtain ⟨xs, m, _, _, _, hl, hi⟩ := DataW.trod_array hu hf
  have h0 := hi 0 (by decide)
  have h1 := hi 1 (by decide)
  rw [hc1] at h0 h1
  simp only [Value.cells, Nat.zero_mul, Nat.one_mul, List.drop_zero, List.take_succ_cons, List.take_zero, List.drop_succ_cons] at h0 h1
  rw [List.getElem?_eq_getElem (by omega)] at h0 h1
  obtain ⟨x, e0, _, wx⟩ := DataW.trod_int ht h0
  obtain ⟨y, e1, _, wy⟩ := DataW.trod_int ht h1
  simp at e0 e1
  exact ⟨x, y, by rw [e0, e1], wx, wy⟩
end
theorem arr2u32_under : Tryd.prog.underlying 80 = some (.array 2 67) := by kernel_rfl
theorem arr2u32_cells : Tryd.prog.cellsOf 80 = 2 := by kernel_rfl
theorem oneu32_cells : Tryd.prog.cellsOf 67 = 1 := by kernel_rfl
section
variable {H : Type} {enc : TypeId × Value → H} {W : World} {base : Nat} {sp : Nat → Bool} {held : Bool} {r : Reach} {b0 : Nat} {v : Value} {d : DataW H} {p : List MemPlace}
set_option maxRecDepth 100000 in
theorem open_a2u32 (hv : Value.okWide Tryd.prog W r b0 80 v) (h : DataW.Trod enc Tryd.prog W base sp held 80 v d p) :
    ∃ x y : Int, v = .agg #[.int .u32 x, .int .u32 y] ∧ (Lit.int .u32 x).wf = true ∧ (Lit.int .u32 y).wf = true :=
  open_a2 arr2u32_under arr2u32_cells oneu32_cells Tryd.underlying67 hv h
end
end Go.Proofs.YtbopppnlgicpeaaDoor
