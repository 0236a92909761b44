/- How an argument of the type node.Node is opened. -/
import Derived.Test.YtlpdanghcdajmaaDoorLaid
import Derived.Test.YtlpdanghcdajmaaDoorNs
import Derived.ProofKit
import Derived.OpenShut
import Derived.Below
import Derived.Carry
import Derived.Deep.Slices
import Derived.ChangeSlices
namespace Go.Proofs.YtlpdanghcdajmaaDoor
open Go.ChangeShapes Go.WideShapes Go.RowKit
instance : Inhabited It := ⟨⟨0, 0, ⟨#[]⟩, 0⟩⟩
/-- A node as an argument holds it. -/
structure NdIn (w : World) (v1 v2 v3 : Value) (n : Nd) : Prop where
  I : SlItems w v1 n.I
  K : SlInts .u32 w v2 n.K
  D : SlInts .i64 w v3 n.D
  lI : n.I.length ≤ 9223372036854775807
  lK : n.K.length ≤ 9223372036854775807
  lD : n.D.length ≤ 9223372036854775807
  typed : n.typed
section
variable {H : Type} {enc : TypeId × Value → H} {W : World} {base : Nat} {sp : Nat → Bool} {held : Bool}
theorem nd_cells : Tryd.prog.cellsOf 73 = 4 := by kernel_rfl
theorem it_cells : Tryd.prog.cellsOf 97 = 4 := by kernel_rfl
theorem c_int : Tryd.prog.cellsOf 3 = 1 := by kernel_rfl
theorem c_u32 : Tryd.prog.cellsOf 22 = 1 := by kernel_rfl
theorem c_str : Tryd.prog.cellsOf 9 = 1 := by kernel_rfl
theorem c_bool : Tryd.prog.cellsOf 4 = 1 := by kernel_rfl
theorem c_sl1 : Tryd.prog.cellsOf 69 = 1 := by kernel_rfl
theorem c_sl2 : Tryd.prog.cellsOf 70 = 1 := by kernel_rfl
theorem c_sl3 : Tryd.prog.cellsOf 71 = 1 := by kernel_rfl
theorem nd_types : Tryd.prog.cellTypes Tryd.prog.depth 73 = some [4, 69, 70, 71] := by kernel_rfl
theorem spot_none {a : Addr} {w : World} {v : Value} (h : w.cell? a = some v) : a.spot = none := by
  unfold World.cell? at h
  split at h
  · split at h
    · cases h
    · rename_i hs; cases hx : a.spot with | none => rfl | some x => simp [hx] at hs
  · cases h
theorem addr_form {a : Addr} (h : a.spot = none) : a = ⟨a.block, a.off, none⟩ := by cases a; simp_all
theorem add_form (b off n : Nat) : (⟨b, off, none⟩ : Addr).add n = ⟨b, off + n, none⟩ := by unfold Addr.add; split <;> simp_all
set_option maxRecDepth 100000 in
/-- The address of a slice within an argument has no spot. -/
theorem slice_ok {r : Reach} {b0 : Nat} {t e : TypeId} {a : Addr} {len cap : Nat} (ht : Tryd.prog.underlying t = some (.slice e)) (h : Cell.okWide Tryd.prog W r b0 t (.slice (some a) len cap)) : a.spot = none := by
  have h' : Cell.ok Tryd.prog W r b0 t (.slice (some a) len cap) := by unfold Cell.okWide at h; rw [ht] at h; exact h
  unfold Cell.ok at h'
  rw [ht] at h'
  obtain ⟨_, _, _, hs, _⟩ := h'
  exact hs
set_option maxRecDepth 100000 in
theorem open_ints1 {m : Nat} {kd : IntKind} {t e : TypeId} {c : Value} {y : DataW H × List MemPlace} (ht : Tryd.prog.underlying t = some (.slice e)) (he : Tryd.prog.underlying e = some (.int kd)) (hc : Tryd.prog.cellsOf e = 1) {r : Reach} {b0 : Nat} (hk : Cell.okWide Tryd.prog W r b0 t c)
    (h : DataW.trod enc Tryd.prog W base sp held m t [c] = some y) : ∃ l : List Int, SlInts kd W c l ∧ l.length ≤ 9223372036854775807 ∧ ∀ x ∈ l, (Lit.int kd x).wf = true := by
  rcases open_ints ht he hc h with ⟨e1, _⟩ | ⟨a, len, cap, zs, e1, _, hl, hm, hz, _, hcell, hwf⟩
  · have e1 : c = .slice none 0 0 := by simpa using e1
    exact ⟨[], .inl ⟨e1, rfl⟩, Nat.zero_le _, fun x hx => absurd hx (by simp)⟩
  · have e1 : c = .slice (some a) len cap := by simpa using e1
    subst e1
    have hs := slice_ok ht hk
    rw [addr_form hs]
    have hlz : len ≤ zs.length := by rw [hz]; split <;> omega
    have hlen : (zs.take len).length = len := by rw [List.length_take]; omega
    refine ⟨zs.take len, .inr ⟨a.block, a.off, cap, by rw [hlen], ⟨fun hne => ?_, fun i hi => ?_⟩⟩, by rw [hlen]; have := hm; simp only [maxLen] at this; omega, fun x hx => hwf x (List.mem_of_mem_take hx)⟩
    · have h0 : 0 < zs.length := by
        rcases Nat.eq_zero_or_pos zs.length with h | h
        · rw [List.eq_nil_of_length_eq_zero h] at hne; simp at hne
        · exact h
      have := World.block_lt_of_cell? W _ (hcell 0 h0)
      simpa [Addr.add] using this
    · rw [hlen] at hi
      have := hcell i (by omega)
      rw [addr_form hs, add_form] at this
      rw [this]; simp [List.getD, List.getElem?_eq_getElem (show i < zs.length by omega)]
set_option maxRecDepth 100000 in
theorem open_items {m : Nat} {c : Value} {y : DataW H × List MemPlace} {r : Reach} {b0 : Nat} (hk : Cell.okWide Tryd.prog W r b0 69 c)
    (h : DataW.trod enc Tryd.prog W base sp held m 69 [c] = some y) : ∃ l : List It, SlItems W c l ∧ l.length ≤ 9223372036854775807 ∧ ∀ x ∈ l, 0 ≤ x.key ∧ x.key < 4294967296 := by
  rcases DataW.trod_slice Tryd.underlying69 h with ⟨e1, _⟩ | ⟨a, len, cap, elems, rest, n, _, e1, _, _, hl, hm, hlen, hel, _, _⟩
  · have e1 : c = .slice none 0 0 := by simpa using e1
    exact ⟨[], .inl ⟨e1, rfl⟩, Nat.zero_le _, fun x hx => absurd hx (by simp)⟩
  · have e1 : c = .slice (some a) len cap := by simpa using e1
    subst e1
    have hs := slice_ok Tryd.underlying69 hk
    have each : ∀ i, i < len → ∃ x : It, (W.cell? ⟨a.block, a.off + i * 4, none⟩ = some (.int .u32 x.key) ∧ W.cell? ⟨a.block, a.off + i * 4 + 1, none⟩ = some (.int .i64 x.size) ∧ W.cell? ⟨a.block, a.off + i * 4 + 2, none⟩ = some (.string x.text) ∧ W.cell? ⟨a.block, a.off + i * 4 + 3, none⟩ = some (.int .i64 x.page)) ∧ 0 ≤ x.key ∧ x.key < 4294967296 := by
      intro i hi
      have hx := hel i hi
      rw [List.getElem?_eq_getElem (by omega), it_cells, Option.bind_eq_some_iff] at hx
      obtain ⟨cs, h1, h2⟩ := hx
      obtain ⟨_, hlen2, hcell⟩ := World.cells?_some h1
      obtain ⟨ys, n2, _, _, _, hl2, hj⟩ := DataW.trod_struct Tryd.underlying97 h2
      match cs, hlen2, ys, hl2 with
      | [d0, d1, d2, d3], _, [z0, z1, z2, z3], _ =>
        have g0 := hj 0 _ rfl
        have g1 := hj 1 _ rfl
        have g2 := hj 2 _ rfl
        have g3 := hj 3 _ rfl
        simp [c_int, c_u32, c_str] at g0 g1 g2 g3
        obtain ⟨k, e0, _, wk⟩ := DataW.trod_int Tryd.underlying22 g0
        obtain ⟨z, e2, _, _⟩ := DataW.trod_int Tryd.underlying3 g1
        obtain ⟨t, e3, _, _⟩ := DataW.trod_string Tryd.underlying9 g2
        obtain ⟨p, e4, _, _⟩ := DataW.trod_int Tryd.underlying3 g3
        simp at e0 e2 e3 e4
        subst e0 e2 e3 e4
        have k0 := hcell 0 (by decide)
        have k1 := hcell 1 (by decide)
        have k2 := hcell 2 (by decide)
        have k3 := hcell 3 (by decide)
        rw [addr_form hs, add_form, add_form] at k0 k1 k2 k3
        refine ⟨⟨k, z, t, p⟩, ⟨by simpa using k0, by simpa using k1, by simpa using k2, by simpa using k3⟩, ?_⟩
        simp [Lit.wf, IntKind.min, IntKind.max, IntKind.signed, IntKind.bits] at wk
        simp only; omega
    obtain ⟨f, hf⟩ := Go.Deep.choose_lt each
    have hll : ((List.range len).map f).length = len := by simp
    have hget : ∀ i (h : i < ((List.range len).map f).length), ((List.range len).map f)[i] = f i := fun i h => by simp
    rw [addr_form hs]
    refine ⟨(List.range len).map f, .inr ⟨a.block, a.off, cap, by rw [hll], ⟨fun hne => ?_, fun i hi => ?_, fun i hi => ?_, fun i hi => ?_, fun i hi => ?_⟩⟩, by rw [hll]; have := hm; simp only [maxLen] at this; omega, fun x hx => ?_⟩
    · have h0 : 0 < len := by
        rcases Nat.eq_zero_or_pos len with h | h
        · subst h; simp at hne
        · exact h
      exact World.block_lt_of_cell? W ⟨a.block, a.off + 0 * 4, none⟩ (hf 0 h0).1.1
    · rw [hget]; exact (hf i (by omega)).1.1
    · rw [hget]; exact (hf i (by omega)).1.2.1
    · rw [hget]; exact (hf i (by omega)).1.2.2.1
    · rw [hget]; exact (hf i (by omega)).1.2.2.2
    · obtain ⟨i, hi, rfl⟩ := List.mem_map.1 hx
      exact (hf i (List.mem_range.1 hi)).2
set_option maxRecDepth 100000 in
theorem open_node {r : Reach} {b0 : Nat} {v : Value} {d : DataW H} {p : List MemPlace} (hv : Value.okWide Tryd.prog W r b0 73 v) (h : DataW.Trod enc Tryd.prog W base sp held 73 v d p) :
    ∃ (n : Nd) (v1 v2 v3 : Value), v = .agg #[.bool n.lf, v1, v2, v3] ∧ NdIn W v1 v2 v3 n := by
  unfold Value.okWide at hv
  rw [Tryd.underlying73] at hv
  obtain ⟨cs, rfl, hsz, ts, hts, _, hrow⟩ := hv
  rw [nd_types] at hts
  obtain rfl := Option.some.inj hts
  rw [nd_cells] at hsz
  obtain ⟨c0, c1, c2, c3, rfl⟩ : ∃ c0 c1 c2 c3, cs = #[c0, c1, c2, c3] := by
    obtain ⟨l⟩ := cs
    match l, hsz with
    | [c0, c1, c2, c3], _ => exact ⟨c0, c1, c2, c3, rfl⟩
  obtain ⟨u1, hu1, k1⟩ := hrow 1 c1 rfl
  obtain ⟨u2, hu2, k2⟩ := hrow 2 c2 rfl
  obtain ⟨u3, hu3, k3⟩ := hrow 3 c3 rfl
  simp only [List.length_cons, List.length_nil, Nat.reduceMod, Nat.zero_add, Nat.reduceAdd, List.getElem?_cons_succ, List.getElem?_cons_zero, Option.some.injEq] at hu1 hu2 hu3
  subst hu1 hu2 hu3
  obtain ⟨fuel, hf⟩ := h
  obtain ⟨xs, m, _, _, _, hl, hi⟩ := DataW.trod_struct Tryd.underlying73 hf
  match xs, hl with
  | [y0, y1, y2, y3], _ =>
    have h0 := hi 0 _ rfl
    have h1 := hi 1 _ rfl
    have h2 := hi 2 _ rfl
    have h3 := hi 3 _ rfl
    simp [Value.cells, c_bool, c_sl1, c_sl2, c_sl3] at h0 h1 h2 h3
    obtain ⟨lf, e0, _⟩ := DataW.trod_bool Tryd.underlying4 h0
    simp at e0
    subst e0
    obtain ⟨I, sI, lI, tI⟩ := open_items k1 h1
    obtain ⟨K, sK, lK, tK⟩ := open_ints1 Tryd.underlying70 Tryd.underlying22 c_u32 k2 h2
    obtain ⟨D, sD, lD, _⟩ := open_ints1 Tryd.underlying71 Tryd.underlying3 c_int k3 h3
    refine ⟨⟨lf, I, K, D⟩, c1, c2, c3, rfl, sI, sK, sD, lI, lK, lD, tI, fun k hk => ?_⟩
    have := tK k hk
    simp [Lit.wf, IntKind.min, IntKind.max, IntKind.signed, IntKind.bits] at this
    omega
end
end Go.Proofs.YtlpdanghcdajmaaDoor
