/- How arguments of the types [2]uint32 and [2]int are opened. -/
import Derived.Test.YtoebldemcgahnaaGreatDoorLaidF
import Derived.ProofKit
import Derived.OpenShut
import Derived.Below
import Derived.Carry
namespace Go.Proofs.YtoebldemcgahnaaGreatDoor
open Go.ChangeShapes Go.WideShapes Go.RowKit
theorem laidOutB_ok : laidOutB Tryz.prog = true := by kernel_rfl
theorem u32_bd {x : Int} (h : (Lit.int .u32 x).wf = true) : 0 ≤ x ∧ x < 4294967296 := by
  simp [Lit.wf, IntKind.min, IntKind.max, IntKind.signed, IntKind.bits] at h; omega
theorem i64_bd {x : Int} (h : (Lit.int .i64 x).wf = true) : -9223372036854775808 ≤ x ∧ x < 9223372036854775808 := by
  simp [Lit.wf, IntKind.min, IntKind.max, IntKind.signed, IntKind.bits] at h; omega
section
variable {H : Type} {enc : TypeId × Value → H} {W : World} {base : Nat} {sp : Nat → Bool} {held : Bool}
set_option maxRecDepth 100000 in
theorem open_a2 {T t : TypeId} {k : IntKind} (hu : Tryz.prog.underlying T = some (.array 2 t)) (hc2 : Tryz.prog.cellsOf T = 2) (hc1 : Tryz.prog.cellsOf t = 1) (ht : Tryz.prog.underlying t = some (.int k)) {r : Reach} {b0 : Nat} {v : Value} {d : DataW H} {p : List MemPlace} (hv : Value.okWide Tryz.prog W r b0 T v) (h : DataW.Trod enc Tryz.prog W base sp held T v d p) :
    ∃ x y : Int, v = .agg #[.int k x, .int k y] ∧ (Lit.int k x).wf = true ∧ (Lit.int k y).wf = true := by
  unfold Value.okWide at hv
  rw [hu] at hv
  obtain ⟨cs, rfl, hsz, _⟩ := hv
  rw [hc2] at hsz
  obtain ⟨c0, c1, rfl⟩ : ∃ c0 c1, cs = #[c0, c1] := by
    obtain ⟨l⟩ := cs
    match l, hsz with
    | [c0, c1], _ => exact ⟨c0, c1, rfl⟩
  obtain ⟨fuel, hf⟩ := h
  obtain ⟨xs, m, _, _, _, hl, hi⟩ := DataW.trod_array hu hf
  have h0 := hi 0 (by decide)
  have h1 := hi 1 (by decide)
  rw [hc1] at h0 h1
  simp only [Value.cells, Nat.zero_mul, Nat.one_mul, List.drop_zero, List.take_succ_cons, List.take_zero, List.drop_succ_cons] at h0 h1
  rw [List.getElem?_eq_getElem (by omega)] at h0 h1
  obtain ⟨x, e0, _, wx⟩ := DataW.trod_int ht h0
  obtain ⟨y, e1, _, wy⟩ := DataW.trod_int ht h1
  simp at e0 e1
  exact ⟨x, y, by rw [e0, e1], wx, wy⟩
end
theorem oneu32_cells : Tryz.prog.cellsOf 32 = 1 := by kernel_rfl
section
variable {H : Type} {enc : TypeId × Value → H} {W : World} {base : Nat} {sp : Nat → Bool} {held : Bool} {r : Reach} {b0 : Nat} {v : Value} {d : DataW H} {p : List MemPlace}
end
end Go.Proofs.YtoebldemcgahnaaGreatDoor

/- How arguments of the types [2]uint8 and [2]string are opened. -/
namespace Go.Proofs.YtoebldemcgahnaaGreatDoor
open Go.ChangeShapes Go.WideShapes Go.RowKit
theorem u8_bd {x : Int} (h : (Lit.int .u8 x).wf = true) : 0 ≤ x ∧ x < 256 := by
  simp [Lit.wf, IntKind.min, IntKind.max, IntKind.signed, IntKind.bits] at h; omega
theorem arr2u8_under : Tryz.prog.underlying 73 = some (.array 2 5) := by kernel_rfl
theorem arr2u8_cells : Tryz.prog.cellsOf 73 = 2 := by kernel_rfl
theorem oneu8_cells : Tryz.prog.cellsOf 5 = 1 := by kernel_rfl
theorem arr2s_under : Tryz.prog.underlying 102 = some (.array 2 9) := by kernel_rfl
theorem arr2s_cells : Tryz.prog.cellsOf 102 = 2 := by kernel_rfl
theorem ones_cells : Tryz.prog.cellsOf 9 = 1 := by kernel_rfl
section
variable {H : Type} {enc : TypeId × Value → H} {W : World} {base : Nat} {sp : Nat → Bool} {held : Bool} {r : Reach} {b0 : Nat} {v : Value} {d : DataW H} {p : List MemPlace}
set_option maxRecDepth 100000 in
theorem open_a2u8 (hv : Value.okWide Tryz.prog W r b0 73 v) (h : DataW.Trod enc Tryz.prog W base sp held 73 v d p) :
    ∃ x y : Int, v = .agg #[.int .u8 x, .int .u8 y] ∧ (Lit.int .u8 x).wf = true ∧ (Lit.int .u8 y).wf = true :=
  open_a2 arr2u8_under arr2u8_cells oneu8_cells Tryz.underlying5 hv h
set_option maxRecDepth 100000 in
theorem open_a2s (hv : Value.okWide Tryz.prog W r b0 102 v) (h : DataW.Trod enc Tryz.prog W base sp held 102 v d p) :
    ∃ x y : ByteArray, v = .agg #[.string x, .string y] := by
  unfold Value.okWide at hv
  rw [arr2s_under] at hv
  obtain ⟨cs, rfl, hsz, _⟩ := hv
  rw [arr2s_cells] at hsz
  obtain ⟨c0, c1, rfl⟩ : ∃ c0 c1, cs = #[c0, c1] := by
    obtain ⟨l⟩ := cs
    match l, hsz with
    | [c0, c1], _ => exact ⟨c0, c1, rfl⟩
  obtain ⟨fuel, hf⟩ := h
  obtain ⟨xs, m, _, _, _, hl, hi⟩ := DataW.trod_array arr2s_under hf
  have h0 := hi 0 (by decide)
  have h1 := hi 1 (by decide)
  rw [ones_cells] at h0 h1
  simp only [Value.cells, Nat.zero_mul, Nat.one_mul, List.drop_zero, List.take_succ_cons, List.take_zero, List.drop_succ_cons] at h0 h1
  rw [List.getElem?_eq_getElem (by omega)] at h0 h1
  obtain ⟨x, e0, _, _⟩ := DataW.trod_string Tryz.underlying9 h0
  obtain ⟨y, e1, _, _⟩ := DataW.trod_string Tryz.underlying9 h1
  simp at e0 e1
  exact ⟨x, y, by rw [e0, e1]⟩
end
end Go.Proofs.YtoebldemcgahnaaGreatDoor
