/- How an argument of the type [2]uint64 is opened. -/
import Derived.Test.YtoebldemcgahnaaGreatDoorLaidF
import Derived.ProofKit
import Derived.OpenShut
import Derived.Below
import Derived.Carry
import Derived.Test.YtoebldemcgahnaaGreatDoorAp
import Derived.Test.YtoebldemcgahnaaGreatDoorDu
namespace Go.Proofs.YtoebldemcgahnaaGreatDoor
open Go.ChangeShapes Go.WideShapes Go.RowKit
theorem laidOutB_ok : laidOutB Tryz.prog = true := by kernel_rfl
theorem arr2_under : Tryz.prog.underlying 116 = some (.array 2 113) := by kernel_rfl
theorem arr2_cells : Tryz.prog.cellsOf 116 = 2 := by kernel_rfl
theorem u64_cells : Tryz.prog.cellsOf 113 = 1 := by kernel_rfl
theorem u64_bd {x : Int} (h : (Lit.int .u64 x).wf = true) : 0 ≤ x ∧ x < 18446744073709551616 := by
  simp [Lit.wf, IntKind.min, IntKind.max, IntKind.signed, IntKind.bits] at h; omega
section
variable {H : Type} {enc : TypeId × Value → H} {W : World} {base : Nat} {sp : Nat → Bool} {held : Bool}
set_option maxRecDepth 100000 in
theorem open_a2u64 {r : Reach} {b0 : Nat} {v : Value} {d : DataW H} {p : List MemPlace} (hv : Value.okWide Tryz.prog W r b0 116 v) (h : DataW.Trod enc Tryz.prog W base sp held 116 v d p) :
    ∃ x y : Int, v = .agg #[.int .u64 x, .int .u64 y] ∧ (Lit.int .u64 x).wf = true ∧ (Lit.int .u64 y).wf = true := by
  unfold Value.okWide at hv
  rw [arr2_under] at hv
  obtain ⟨cs, rfl, hsz, _⟩ := hv
  rw [arr2_cells] at hsz
  obtain ⟨c0, c1, rfl⟩ : ∃ c0 c1, cs = #[c0, c1] := by
    obtain ⟨l⟩ := cs
    match l, hsz with
    | [c0, c1], _ => exact ⟨c0, c1, rfl⟩
  obtain ⟨fuel, hf⟩ := h
  obtain ⟨xs, m, _, _, _, hl, hi⟩ := DataW.trod_array arr2_under hf
  have h0 := hi 0 (by decide)
  have h1 := hi 1 (by decide)
  rw [u64_cells] at h0 h1
  simp only [Value.cells, Nat.zero_mul, Nat.one_mul, List.drop_zero, List.take_succ_cons, List.take_zero, List.drop_succ_cons] at h0 h1
  rw [List.getElem?_eq_getElem (by omega)] at h0 h1
  obtain ⟨x, e0, _, wx⟩ := DataW.trod_int Tryz.underlying113 h0
  obtain ⟨y, e1, _, wy⟩ := DataW.trod_int Tryz.underlying113 h1
  simp at e0 e1
  exact ⟨x, y, by rw [e0, e1], wx, wy⟩
end
end Go.Proofs.YtoebldemcgahnaaGreatDoor

/- How an argument of the type head.Head is opened. -/
namespace Go.Proofs.YtoebldemcgahnaaGreatDoor
open Go.ChangeShapes Go.WideShapes Go.RowKit
section
variable {H : Type} {enc : TypeId × Value → H} {W : World} {base : Nat} {sp : Nat → Bool} {held : Bool}
theorem oh_int : Tryz.prog.cellsOf 3 = 1 := by kernel_rfl
theorem oh_u32 : Tryz.prog.cellsOf 32 = 1 := by kernel_rfl
theorem oh_head : Tryz.prog.cellsOf 54 = 3 := by kernel_rfl
set_option maxRecDepth 100000 in
theorem open_head {r : Reach} {b0 : Nat} {v : Value} {d : DataW H} {p : List MemPlace} (hv : Value.okWide Tryz.prog W r b0 54 v) (h : DataW.Trod enc Tryz.prog W base sp held 54 v d p) :
    ∃ e r f : Int, v = .agg #[.int .u32 e, .int .i64 r, .int .u32 f] ∧ (0 ≤ e ∧ e < 4294967296) ∧ (0 ≤ f ∧ f < 4294967296) := by
  unfold Value.okWide at hv
  rw [Tryz.underlying54] at hv
  obtain ⟨cs, rfl, hsz, _⟩ := hv
  rw [oh_head] at hsz
  obtain ⟨c0, c1, c2, rfl⟩ : ∃ c0 c1 c2, cs = #[c0, c1, c2] := by
    obtain ⟨l⟩ := cs
    match l, hsz with
    | [c0, c1, c2], _ => exact ⟨c0, c1, c2, rfl⟩
  obtain ⟨fuel, hf⟩ := h
  obtain ⟨xs, m, _, _, _, hl, hi⟩ := DataW.trod_struct Tryz.underlying54 hf
  match xs, hl with
  | [y0, y1, y2], _ =>
    have h0 := hi 0 _ rfl
    have h1 := hi 1 _ rfl
    have h2 := hi 2 _ rfl
    simp [Value.cells, oh_int, oh_u32] at h0 h1 h2
    obtain ⟨e, e0, _, w0⟩ := DataW.trod_int Tryz.underlying32 h0
    obtain ⟨r, e1, _, _⟩ := DataW.trod_int Tryz.underlying3 h1
    obtain ⟨f, e2, _, w2⟩ := DataW.trod_int Tryz.underlying32 h2
    simp at e0 e1 e2
    subst e0 e1 e2
    refine ⟨e, r, f, rfl, ?_, ?_⟩
    · have h := w0; simp [Lit.wf, IntKind.min, IntKind.max, IntKind.signed, IntKind.bits] at h; omega
    · have h := w2; simp [Lit.wf, IntKind.min, IntKind.max, IntKind.signed, IntKind.bits] at h; omega
end
end Go.Proofs.YtoebldemcgahnaaGreatDoor

/- How an argument of the type []head.Head is opened. -/
namespace Go.Proofs.YtoebldemcgahnaaGreatDoor
open Go.ChangeShapes Go.WideShapes Go.RowKit
section
variable {H : Type} {enc : TypeId × Value → H} {W : World} {base : Nat} {sp : Nat → Bool} {held : Bool}
set_option maxRecDepth 100000 in
theorem open_head3 {m : Nat} {cs : List Value} (hlen : cs.length = 3) {y : DataW H × List MemPlace} (h : DataW.trod enc Tryz.prog W base sp held m 54 cs = some y) :
    ∃ x : Hd, cs = [.int .u32 x.e, .int .i64 x.r, .int .u32 x.f] ∧ (0 ≤ x.e ∧ x.e < 4294967296) ∧ (0 ≤ x.f ∧ x.f < 4294967296) := by
  obtain ⟨ys, n2, _, _, _, hl2, hj⟩ := DataW.trod_struct Tryz.underlying54 h
  match cs, hlen, ys, hl2 with
  | [d0, d1, d2], _, [z0, z1, z2], _ =>
    have g0 := hj 0 _ rfl
    have g1 := hj 1 _ rfl
    have g2 := hj 2 _ rfl
    simp [oh_int, oh_u32] at g0 g1 g2
    obtain ⟨e, e0, _, w0⟩ := DataW.trod_int Tryz.underlying32 g0
    obtain ⟨r, e1, _, _⟩ := DataW.trod_int Tryz.underlying3 g1
    obtain ⟨f, e2, _, w2⟩ := DataW.trod_int Tryz.underlying32 g2
    simp at e0 e1 e2
    subst e0 e1 e2
    refine ⟨⟨e, r, f⟩, rfl, ?_, ?_⟩
    · have h := w0; simp [Lit.wf, IntKind.min, IntKind.max, IntKind.signed, IntKind.bits] at h; show 0 ≤ e ∧ e < _; omega
    · have h := w2; simp [Lit.wf, IntKind.min, IntKind.max, IntKind.signed, IntKind.bits] at h; show 0 ≤ f ∧ f < _; omega
set_option maxRecDepth 100000 in
theorem open_heads {r : Reach} {b0 : Nat} {c : Value} {d : DataW H} {p : List MemPlace} (hv : Value.okWide Tryz.prog W r b0 77 c) (h : DataW.Trod enc Tryz.prog W base sp held 77 c d p) :
    ∃ L : List Hd, SlHds W c L ∧ L.length ≤ 9223372036854775807 ∧ ∀ x ∈ L, (0 ≤ x.e ∧ x.e < 4294967296) ∧ (0 ≤ x.f ∧ x.f < 4294967296) := by
  unfold Value.okWide at hv
  rw [Tryz.underlying77] at hv
  obtain ⟨fuel, h⟩ := h
  have e0 : c.cells.toList = [c] := by
    cases c with
    | agg cs => simp [Cell.okWide, Cell.ok, Tryz.underlying77] at hv
    | _ => rfl
  rw [e0] at h
  rcases DataW.trod_slice Tryz.underlying77 h with ⟨e1, _⟩ | ⟨a, len, cap, elems, rest, n, _, e1, _, _, hl, hm, hlen, hel, _, _⟩
  · have e1 : c = .slice none 0 0 := by simpa using e1
    exact ⟨[], .inl ⟨e1, rfl⟩, Nat.zero_le _, fun x hx => absurd hx (by simp)⟩
  · have e1 : c = .slice (some a) len cap := by simpa using e1
    subst e1
    have hs : a.spot = none := by
      have h' : Cell.ok Tryz.prog W r b0 77 (.slice (some a) len cap) := by
        have hv : Cell.okWide Tryz.prog W r b0 77 (.slice (some a) len cap) := hv
        unfold Cell.okWide at hv; rw [Tryz.underlying77] at hv; exact hv
      unfold Cell.ok at h'
      rw [Tryz.underlying77] at h'
      obtain ⟨_, _, _, hs, _⟩ := h'
      exact hs
    have each : ∀ i, i < len → ∃ x : Hd, (W.cell? ⟨a.block, a.off + i * 3, none⟩ = some (.int .u32 x.e) ∧ W.cell? ⟨a.block, a.off + i * 3 + 1, none⟩ = some (.int .i64 x.r) ∧ W.cell? ⟨a.block, a.off + i * 3 + 2, none⟩ = some (.int .u32 x.f)) ∧ (0 ≤ x.e ∧ x.e < 4294967296) ∧ (0 ≤ x.f ∧ x.f < 4294967296) := by
      intro i hi
      have hx := hel i hi
      rw [List.getElem?_eq_getElem (by omega), oh_head, Option.bind_eq_some_iff] at hx
      obtain ⟨cs, h1, h2⟩ := hx
      obtain ⟨_, hlen2, hcell⟩ := World.cells?_some h1
      obtain ⟨x, rfl, w0, w1⟩ := open_head3 hlen2 h2
      have k0 := hcell 0 (by decide)
      have k1 := hcell 1 (by decide)
      have k2 := hcell 2 (by decide)
      rw [od_form hs, od_add, od_add] at k0 k1 k2
      exact ⟨x, ⟨by simpa using k0, by simpa using k1, by simpa using k2⟩, w0, w1⟩
    obtain ⟨f, hf⟩ := Go.Deep.choose_lt each
    have hll : ((List.range len).map f).length = len := by simp
    have hget : ∀ i (h : i < ((List.range len).map f).length), ((List.range len).map f)[i] = f i := fun i h => by simp
    rw [od_form hs]
    refine ⟨(List.range len).map f, .inr ⟨a.block, a.off, cap, by rw [hll], by rw [hll]; exact hl, ⟨fun hne => ?_, fun i hi => ?_, fun i hi => ?_, fun i hi => ?_⟩⟩, by rw [hll]; have := hm; simp only [maxLen] at this; omega, fun x hx => ?_⟩
    · have h0 : 0 < len := by
        rcases Nat.eq_zero_or_pos len with h | h
        · subst h; simp at hne
        · exact h
      exact World.block_lt_of_cell? W ⟨a.block, a.off + 0 * 3, none⟩ (hf 0 h0).1.1
    · rw [hget]; exact (hf i (by omega)).1.1
    · rw [hget]; exact (hf i (by omega)).1.2.1
    · rw [hget]; exact (hf i (by omega)).1.2.2
    · obtain ⟨i, hi, rfl⟩ := List.mem_map.1 hx
      exact (hf i (List.mem_range.1 hi)).2
end
end Go.Proofs.YtoebldemcgahnaaGreatDoor

/- How arguments of the types [2]uint32 and [2]int are opened. -/
namespace Go.Proofs.YtoebldemcgahnaaGreatDoor
open Go.ChangeShapes Go.WideShapes Go.RowKit
theorem u32_bd {x : Int} (h : (Lit.int .u32 x).wf = true) : 0 ≤ x ∧ x < 4294967296 := by
  simp [Lit.wf, IntKind.min, IntKind.max, IntKind.signed, IntKind.bits] at h; omega
theorem i64_bd {x : Int} (h : (Lit.int .i64 x).wf = true) : -9223372036854775808 ≤ x ∧ x < 9223372036854775808 := by
  simp [Lit.wf, IntKind.min, IntKind.max, IntKind.signed, IntKind.bits] at h; omega
section
variable {H : Type} {enc : TypeId × Value → H} {W : World} {base : Nat} {sp : Nat → Bool} {held : Bool}
set_option maxRecDepth 100000 in
theorem open_a2 {T t : TypeId} {k : IntKind} (hu : Tryz.prog.underlying T = some (.array 2 t)) (hc2 : Tryz.prog.cellsOf T = 2) (hc1 : Tryz.prog.cellsOf t = 1) (ht : Tryz.prog.underlying t = some (.int k)) {r : Reach} {b0 : Nat} {v : Value} {d : DataW H} {p : List MemPlace} (hv : Value.okWide Tryz.prog W r b0 T v) (h : DataW.Trod enc Tryz.prog W base sp held T v d p) :
    ∃ x y : Int, v = .agg #[.int k x, .int k y] ∧ (Lit.int k x).wf = true ∧ (Lit.int k y).wf = true := by
  unfold Value.okWide at hv
  rw [hu] at hv
  obtain ⟨cs, rfl, hsz, _⟩ := hv
  rw [hc2] at hsz
  obtain ⟨c0, c1, rfl⟩ : ∃ c0 c1, cs = #[c0, c1] := by
    obtain ⟨l⟩ := cs
    match l, hsz with
    | [c0, c1], _ => exact ⟨c0, c1, rfl⟩
  obtain ⟨fuel, hf⟩ := h
  obtain ⟨xs, m, _, _, _, hl, hi⟩ := DataW.trod_array hu hf
  have h0 := hi 0 (by decide)
  have h1 := hi 1 (by decide)
  rw [hc1] at h0 h1
  simp only [Value.cells, Nat.zero_mul, Nat.one_mul, List.drop_zero, List.take_succ_cons, List.take_zero, List.drop_succ_cons] at h0 h1
  rw [List.getElem?_eq_getElem (by omega)] at h0 h1
  obtain ⟨x, e0, _, wx⟩ := DataW.trod_int ht h0
  obtain ⟨y, e1, _, wy⟩ := DataW.trod_int ht h1
  simp at e0 e1
  exact ⟨x, y, by rw [e0, e1], wx, wy⟩
end
theorem oneu32_cells : Tryz.prog.cellsOf 32 = 1 := by kernel_rfl
section
variable {H : Type} {enc : TypeId × Value → H} {W : World} {base : Nat} {sp : Nat → Bool} {held : Bool} {r : Reach} {b0 : Nat} {v : Value} {d : DataW H} {p : List MemPlace}
end
end Go.Proofs.YtoebldemcgahnaaGreatDoor

/- How arguments of the types [2]uint8 and [2]string are opened. -/
namespace Go.Proofs.YtoebldemcgahnaaGreatDoor
open Go.ChangeShapes Go.WideShapes Go.RowKit
theorem u8_bd {x : Int} (h : (Lit.int .u8 x).wf = true) : 0 ≤ x ∧ x < 256 := by
  simp [Lit.wf, IntKind.min, IntKind.max, IntKind.signed, IntKind.bits] at h; omega
theorem arr2u8_under : Tryz.prog.underlying 73 = some (.array 2 5) := by kernel_rfl
theorem arr2u8_cells : Tryz.prog.cellsOf 73 = 2 := by kernel_rfl
theorem oneu8_cells : Tryz.prog.cellsOf 5 = 1 := by kernel_rfl
theorem arr2s_under : Tryz.prog.underlying 102 = some (.array 2 9) := by kernel_rfl
theorem arr2s_cells : Tryz.prog.cellsOf 102 = 2 := by kernel_rfl
theorem ones_cells : Tryz.prog.cellsOf 9 = 1 := by kernel_rfl
section
variable {H : Type} {enc : TypeId × Value → H} {W : World} {base : Nat} {sp : Nat → Bool} {held : Bool} {r : Reach} {b0 : Nat} {v : Value} {d : DataW H} {p : List MemPlace}
set_option maxRecDepth 100000 in
theorem open_a2u8 (hv : Value.okWide Tryz.prog W r b0 73 v) (h : DataW.Trod enc Tryz.prog W base sp held 73 v d p) :
    ∃ x y : Int, v = .agg #[.int .u8 x, .int .u8 y] ∧ (Lit.int .u8 x).wf = true ∧ (Lit.int .u8 y).wf = true :=
  open_a2 arr2u8_under arr2u8_cells oneu8_cells Tryz.underlying5 hv h
set_option maxRecDepth 100000 in
theorem open_a2s (hv : Value.okWide Tryz.prog W r b0 102 v) (h : DataW.Trod enc Tryz.prog W base sp held 102 v d p) :
    ∃ x y : ByteArray, v = .agg #[.string x, .string y] := by
  unfold Value.okWide at hv
  rw [arr2s_under] at hv
  obtain ⟨cs, rfl, hsz, _⟩ := hv
  rw [arr2s_cells] at hsz
  obtain ⟨c0, c1, rfl⟩ : ∃ c0 c1, cs = #[c0, c1] := by
    obtain ⟨l⟩ := cs
    match l, hsz with
    | [c0, c1], _ => exact ⟨c0, c1, rfl⟩
  obtain ⟨fuel, hf⟩ := h
  obtain ⟨xs, m, _, _, _, hl, hi⟩ := DataW.trod_array arr2s_under hf
  have h0 := hi 0 (by decide)
  have h1 := hi 1 (by decide)
  rw [ones_cells] at h0 h1
  simp only [Value.cells, Nat.zero_mul, Nat.one_mul, List.drop_zero, List.take_succ_cons, List.take_zero, List.drop_succ_cons] at h0 h1
  rw [List.getElem?_eq_getElem (by omega)] at h0 h1
  obtain ⟨x, e0, _, _⟩ := DataW.trod_string Tryz.underlying9 h0
  obtain ⟨y, e1, _, _⟩ := DataW.trod_string Tryz.underlying9 h1
  simp at e0 e1
  exact ⟨x, y, by rw [e0, e1]⟩
end
end Go.Proofs.YtoebldemcgahnaaGreatDoor
