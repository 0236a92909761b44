/- How an argument of the type [2]uint64 is opened. -/
import Derived.Test.YtdbiebnnogjccaaGreatDoorLaidF
import Derived.ProofKit
import Derived.OpenShut
import Derived.Below
import Derived.Carry
import Derived.Test.YtdbiebnnogjccaaGreatDoorOpd
import Derived.Test.YtdbiebnnogjccaaGreatDoorFs
namespace Go.Proofs.YtdbiebnnogjccaaGreatDoor
open Go.ChangeShapes Go.WideShapes Go.RowKit
theorem laidOutB_ok : laidOutB Tryz.prog = true := by kernel_rfl
theorem arr2_under : Tryz.prog.underlying 117 = some (.array 2 114) := by kernel_rfl
theorem arr2_cells : Tryz.prog.cellsOf 117 = 2 := by kernel_rfl
theorem u64_cells : Tryz.prog.cellsOf 114 = 1 := by kernel_rfl
theorem u64_bd {x : Int} (h : (Lit.int .u64 x).wf = true) : 0 ≤ x ∧ x < 18446744073709551616 := by
  simp [Lit.wf, IntKind.min, IntKind.max, IntKind.signed, IntKind.bits] at h; omega
section
variable {H : Type} {enc : TypeId × Value → H} {W : World} {base : Nat} {sp : Nat → Bool} {held : Bool}
set_option maxRecDepth 100000 in
theorem open_a2u64 {r : Reach} {b0 : Nat} {v : Value} {d : DataW H} {p : List MemPlace} (hv : Value.okWide Tryz.prog W r b0 117 v) (h : DataW.Trod enc Tryz.prog W base sp held 117 v d p) :
    ∃ x y : Int, v = .agg #[.int .u64 x, .int .u64 y] ∧ (Lit.int .u64 x).wf = true ∧ (Lit.int .u64 y).wf = true := by
  unfold Value.okWide at hv
  rw [arr2_under] at hv
  obtain ⟨cs, rfl, hsz, _⟩ := hv
  rw [arr2_cells] at hsz
  obtain ⟨c0, c1, rfl⟩ : ∃ c0 c1, cs = #[c0, c1] := by
    obtain ⟨l⟩ := cs
    match l, hsz with
    | [c0, c1], _ => exact ⟨c0, c1, rfl⟩
  obtain ⟨fuel, hf⟩ := h
  obtain ⟨xs, m, _, _, _, hl, hi⟩ := DataW.trod_array arr2_under hf
  have h0 := hi 0 (by decide)
  have h1 := hi 1 (by decide)
  rw [u64_cells] at h0 h1
  simp only [Value.cells, Nat.zero_mul, Nat.one_mul, List.drop_zero, List.take_succ_cons, List.take_zero, List.drop_succ_cons] at h0 h1
  rw [List.getElem?_eq_getElem (by omega)] at h0 h1
  obtain ⟨x, e0, _, wx⟩ := DataW.trod_int Tryz.underlying114 h0
  obtain ⟨y, e1, _, wy⟩ := DataW.trod_int Tryz.underlying114 h1
  simp at e0 e1
  exact ⟨x, y, by rw [e0, e1], wx, wy⟩
end
end Go.Proofs.YtdbiebnnogjccaaGreatDoor

/- How arguments of the types []int, pannierlaw22.Step, []pannierlaw22.Step are opened. -/
namespace Go.Proofs.YtdbiebnnogjccaaGreatDoor
open Go.ChangeShapes Go.WideShapes Go.RowKit
instance : Inhabited Stg := ⟨⟨0, 0, 0, ⟨#[]⟩, []⟩⟩
section
variable {H : Type} {enc : TypeId × Value → H} {W : World} {base : Nat} {sp : Nat → Bool} {held : Bool}
theorem od_stepG : Tryz.prog.cellsOf 76 = 5 := by kernel_rfl
theorem od_u32 : Tryz.prog.cellsOf 32 = 1 := by kernel_rfl
theorem od_sli : Tryz.prog.cellsOf 70 = 1 := by kernel_rfl
set_option maxRecDepth 100000 in
theorem open_intsW {m : Nat} {c : Value} {y : DataW H × List MemPlace} (h : DataW.trod enc Tryz.prog W base sp held m 70 [c] = some y) :
    ∃ l : List Int, SlIw W c l ∧ l.length ≤ 9223372036854775807 ∧ (∀ x ∈ l, wf64 x) ∧ ∀ b, c.ownBlock = some b → l ≠ [] → b < W.heap.size := by
  rcases open_ints Tryz.underlying70 Tryz.underlying3 od_int h with ⟨e1, _⟩ | ⟨a, len, cap, zs, e1, _, hl, hm, hz, _, hcell, hwf⟩
  · have e1 : c = .slice none 0 0 := by simpa using e1
    exact ⟨[], .inl ⟨rfl, _, _, e1⟩, Nat.zero_le _, fun x hx => absurd hx (by simp), fun b _ h => absurd rfl h⟩
  · have e1 : c = .slice (some a) len cap := by simpa using e1
    subst e1
    rcases Nat.eq_zero_or_pos len with h0 | h0
    · subst h0
      exact ⟨[], .inl ⟨rfl, _, _, rfl⟩, Nat.zero_le _, fun x hx => absurd hx (by simp), fun b _ h => absurd rfl h⟩
    have hlz : len ≤ zs.length := by rw [hz]; split <;> omega
    have hs : a.spot = none := by
      have k0 := hcell 0 (by omega)
      rw [od_add0] at k0
      exact od_spot k0
    have hlen : (zs.take len).length = len := by rw [List.length_take]; omega
    have hlt : a.block < W.heap.size := by
      have := World.block_lt_of_cell? W _ (hcell 0 (by omega))
      rwa [od_add0] at this
    refine ⟨zs.take len, .inr ⟨a.block, a.off, cap, by rw [hlen, ← od_form hs], by rw [hlen]; exact hl, ⟨fun _ => hlt, fun i hi => ?_⟩⟩, by rw [hlen]; have := hm; simp only [maxLen] at this; omega, fun x hx => ?_, fun b hb _ => ?_⟩
    · rw [hlen] at hi
      have := hcell i (by omega)
      rw [od_form hs, od_add] at this
      rw [this]
      simp [List.getElem!_eq_getElem?_getD, List.getElem?_eq_getElem (show i < zs.length by omega)]
    · exact hwf x (List.mem_of_mem_take hx)
    · have hb : some a.block = some b := hb
      injection hb with hb
      subst hb; exact hlt
set_option maxRecDepth 100000 in
theorem open_intsA {r : Reach} {b0 : Nat} {c : Value} {d : DataW H} {p : List MemPlace} (hv : Value.okWide Tryz.prog W r b0 70 c) (h : DataW.Trod enc Tryz.prog W base sp held 70 c d p) :
    ∃ l : List Int, SlIw W c l ∧ l.length ≤ 9223372036854775807 ∧ ∀ x ∈ l, wf64 x := by
  unfold Value.okWide at hv
  rw [Tryz.underlying70] at hv
  obtain ⟨fuel, h⟩ := h
  have e0 : c.cells.toList = [c] := by
    cases c with
    | agg cs => simp [Cell.okWide, Cell.ok, Tryz.underlying70] at hv
    | _ => rfl
  rw [e0] at h
  obtain ⟨l, h1, h2, h3, _⟩ := open_intsW h
  exact ⟨l, h1, h2, h3⟩
set_option maxRecDepth 100000 in
/-- One step's cells. -/
theorem open_step5 {m : Nat} {cs : List Value} (hlen : cs.length = 5) {y : DataW H × List MemPlace} (h : DataW.trod enc Tryz.prog W base sp held m 76 cs = some y) :
    ∃ (x : Stg) (v : Value), cs = [.int .i64 x.k, .int .i64 x.n, .int .u32 x.num, .string x.s, v] ∧ SlIw W v x.l ∧ (wf64 x.k ∧ wf64 x.n ∧ (0 ≤ x.num ∧ x.num < 4294967296) ∧ x.s.size ≤ 9223372036854775807 ∧ x.l.length ≤ 9223372036854775807) := by
  obtain ⟨ys, n2, _, _, _, hl2, hj⟩ := DataW.trod_struct Tryz.underlying76 h
  match cs, hlen, ys, hl2 with
  | [d0, d1, d2, d3, d4], _, [z0, z1, z2, z3, z4], _ =>
    have g0 := hj 0 _ rfl
    have g1 := hj 1 _ rfl
    have g2 := hj 2 _ rfl
    have g3 := hj 3 _ rfl
    have g4 := hj 4 _ rfl
    simp [od_int, od_str, od_u32, od_sli] at g0 g1 g2 g3 g4
    obtain ⟨k, e0, _, w0⟩ := DataW.trod_int Tryz.underlying3 g0
    obtain ⟨n, e1, _, w1⟩ := DataW.trod_int Tryz.underlying3 g1
    obtain ⟨u, e2, _, w2⟩ := DataW.trod_int Tryz.underlying32 g2
    obtain ⟨s, e3, _, hs⟩ := DataW.trod_string Tryz.underlying9 g3
    obtain ⟨l, hl, hll, _, _⟩ := open_intsW g4
    simp at e0 e1 e2 e3
    subst e0 e1 e2 e3
    refine ⟨⟨k, n, u, s, l⟩, d4, rfl, hl, w0, w1, ?_, hs, hll⟩
    simp [Lit.wf, IntKind.min, IntKind.max, IntKind.signed, IntKind.bits] at w2
    show 0 ≤ u ∧ u < 4294967296
    omega
set_option maxRecDepth 100000 in
theorem open_stepG {r : Reach} {b0 : Nat} {v : Value} {d : DataW H} {p : List MemPlace} (hv : Value.okWide Tryz.prog W r b0 76 v) (h : DataW.Trod enc Tryz.prog W base sp held 76 v d p) :
    ∃ (x : Stg) (u : Value), v = .agg #[.int .i64 x.k, .int .i64 x.n, .int .u32 x.num, .string x.s, u] ∧ SlIw W u x.l ∧ (wf64 x.k ∧ wf64 x.n ∧ (0 ≤ x.num ∧ x.num < 4294967296) ∧ x.s.size ≤ 9223372036854775807 ∧ x.l.length ≤ 9223372036854775807) := by
  unfold Value.okWide at hv
  rw [Tryz.underlying76] at hv
  obtain ⟨cs, rfl, hsz, _⟩ := hv
  rw [od_stepG] at hsz
  obtain ⟨fuel, hf⟩ := h
  obtain ⟨x, u, e, hk, hw⟩ := open_step5 (cs := cs.toList) (by simpa using hsz) hf
  refine ⟨x, u, ?_, hk, hw⟩
  congr 1
  exact Array.toList_inj.1 e
set_option maxRecDepth 100000 in
theorem open_stepsG {r : Reach} {b0 : Nat} {c : Value} {d : DataW H} {p : List MemPlace} (hv : Value.okWide Tryz.prog W r b0 65 c) (h : DataW.Trod enc Tryz.prog W base sp held 65 c d p) :
    ∃ L : List Stg, SlStgs W c L ∧ L.length ≤ 9223372036854775807 ∧ ∀ x ∈ L, wf64 x.k ∧ wf64 x.n ∧ (0 ≤ x.num ∧ x.num < 4294967296) ∧ x.s.size ≤ 9223372036854775807 ∧ x.l.length ≤ 9223372036854775807 := by
  unfold Value.okWide at hv
  rw [Tryz.underlying65] at hv
  obtain ⟨fuel, h⟩ := h
  have e0 : c.cells.toList = [c] := by
    cases c with
    | agg cs => simp [Cell.okWide, Cell.ok, Tryz.underlying65] at hv
    | _ => rfl
  rw [e0] at h
  rcases DataW.trod_slice Tryz.underlying65 h with ⟨e1, _⟩ | ⟨a, len, cap, elems, rest, n, _, e1, _, _, hl, hm, hlen, hel, _, _⟩
  · have e1 : c = .slice none 0 0 := by simpa using e1
    exact ⟨[], .inl ⟨e1, rfl⟩, Nat.zero_le _, fun x hx => absurd hx (by simp)⟩
  · have e1 : c = .slice (some a) len cap := by simpa using e1
    subst e1
    have hs : a.spot = none := by
      have h' : Cell.ok Tryz.prog W r b0 65 (.slice (some a) len cap) := by
        have hv : Cell.okWide Tryz.prog W r b0 65 (.slice (some a) len cap) := hv
        unfold Cell.okWide at hv; rw [Tryz.underlying65] at hv; exact hv
      unfold Cell.ok at h'
      rw [Tryz.underlying65] at h'
      obtain ⟨_, _, _, hs, _⟩ := h'
      exact hs
    have each : ∀ i, i < len → ∃ x : Stg, (W.cell? ⟨a.block, a.off + i * 5, none⟩ = some (.int .i64 x.k) ∧ W.cell? ⟨a.block, a.off + i * 5 + 1, none⟩ = some (.int .i64 x.n) ∧ W.cell? ⟨a.block, a.off + i * 5 + 2, none⟩ = some (.int .u32 x.num) ∧ W.cell? ⟨a.block, a.off + i * 5 + 3, none⟩ = some (.string x.s) ∧ ∃ v, W.cell? ⟨a.block, a.off + i * 5 + 4, none⟩ = some v ∧ SlIw W v x.l) ∧ (wf64 x.k ∧ wf64 x.n ∧ (0 ≤ x.num ∧ x.num < 4294967296) ∧ x.s.size ≤ 9223372036854775807 ∧ x.l.length ≤ 9223372036854775807) := by
      intro i hi
      have hx := hel i hi
      rw [List.getElem?_eq_getElem (by omega), od_stepG, Option.bind_eq_some_iff] at hx
      obtain ⟨cs, h1, h2⟩ := hx
      obtain ⟨_, hlen2, hcell⟩ := World.cells?_some h1
      obtain ⟨x, v, rfl, hk, hw⟩ := open_step5 hlen2 h2
      have k0 := hcell 0 (by decide)
      have k1 := hcell 1 (by decide)
      have k2 := hcell 2 (by decide)
      have k3 := hcell 3 (by decide)
      have k4 := hcell 4 (by decide)
      rw [od_form hs, od_add, od_add] at k0 k1 k2 k3 k4
      exact ⟨x, ⟨by simpa using k0, by simpa using k1, by simpa using k2, by simpa using k3, v, by simpa using k4, hk⟩, hw⟩
    obtain ⟨f, hf⟩ := Go.Deep.choose_lt each
    have hll : ((List.range len).map f).length = len := by simp
    have hget : ∀ i (h : i < ((List.range len).map f).length), ((List.range len).map f)[i] = f i := fun i h => by simp
    rw [od_form hs]
    refine ⟨(List.range len).map f, .inr ⟨a.block, a.off, cap, by rw [hll], by rw [hll]; exact hl, ⟨fun hne => ?_, fun i hi => ?_, fun i hi => ?_, fun i hi => ?_, fun i hi => ?_, fun i hi => ?_⟩⟩, by rw [hll]; have := hm; simp only [maxLen] at this; omega, fun x hx => ?_⟩
    · have h0 : 0 < len := by
        rcases Nat.eq_zero_or_pos len with h | h
        · subst h; simp at hne
        · exact h
      exact World.block_lt_of_cell? W ⟨a.block, a.off + 0 * 5, none⟩ (hf 0 h0).1.1
    · rw [hget]; exact (hf i (by omega)).1.1
    · rw [hget]; exact (hf i (by omega)).1.2.1
    · rw [hget]; exact (hf i (by omega)).1.2.2.1
    · rw [hget]; exact (hf i (by omega)).1.2.2.2.1
    · rw [hget]; exact (hf i (by omega)).1.2.2.2.2
    · obtain ⟨i, hi, rfl⟩ := List.mem_map.1 hx
      exact (hf i (List.mem_range.1 hi)).2
end
end Go.Proofs.YtdbiebnnogjccaaGreatDoor
