/- Disks (layer 19): the law's wakes. -/
import Derived.Test.YtdbiebnnogjccaaGreatDoorWa
import Derived.ProofKit
import Derived.OpenShut
import Derived.Below
import Derived.Carry
import Derived.Deep.Slices
import Derived.ChangeSlices
namespace Go.Proofs.YtdbiebnnogjccaaGreatDoor
open Go.RowKit
theorem dirty01 (a b : ByteArray) : (((Dk.new 8).put 0 a).put 1 b).dirty = [0, 1] := by rfl
theorem wk_read0 (a b : ByteArray) (hb : a.size = 256) : (((((Dk.new 8).put 0 a).put 1 b).crash [(0, 1)]).start.read 0) = (a.extract 0 1 ++ nil256.extract 1 256, 0) := by
  rw [read_ok rfl ⟨by decide, by show (_ : Int) < 8; decide⟩]
  have _ := hb
  rfl
theorem wk_read1 (a b : ByteArray) : (((((Dk.new 8).put 0 a).put 1 b).crash [(0, 1)]).start.read 1) = (nil256, 0) := by
  rw [read_ok rfl ⟨by decide, by show (_ : Int) < 8; decide⟩]
  rfl
theorem wk_first : (blk 97).extract 0 1 ++ nil256.extract 1 256 = (⟨#[97]⟩ : ByteArray) ++ ofL (List.replicate 255 0) := by
  refine bytes_ext ?_
  rw [list_append, list_append, extract_list, extract_list, blk, nil256, ofL_list, ofL_list, ofL_list]
  decide +kernel
theorem wk_size (b : Int) : (⟨#[97]⟩ : ByteArray).size + (ofL (List.replicate 255 0)).size ≤ 256 + b.toNat * 0 := by rw [ofL_size, List.length_replicate]; show 1 + 255 ≤ _; omega
theorem self_eq (X : ByteArray) : (X.toList == X.toList) = true := by simp
end Go.Proofs.YtdbiebnnogjccaaGreatDoor

/- Disks (layer 19): steps; fair; a disk that nobody made. -/
namespace Go.Proofs.YtdbiebnnogjccaaGreatDoor
open Go.RowKit
/-- A step in plain words. -/
structure Stp where
  k : Int
  n : Int
  s : ByteArray
  l : List (Int × Int)
/-- Steps in memory, four cells each. -/
structure StpsAt (w : World) (b off : Nat) (L : List Stp) : Prop where
  lt : L ≠ [] → b < w.heap.size
  kind : ∀ i (h : i < L.length), w.cell? ⟨b, off + i * 4, none⟩ = some (.int .i64 L[i].k)
  num : ∀ i (h : i < L.length), w.cell? ⟨b, off + i * 4 + 1, none⟩ = some (.int .i64 L[i].n)
  str : ∀ i (h : i < L.length), w.cell? ⟨b, off + i * 4 + 2, none⟩ = some (.string L[i].s)
  kep : ∀ i (h : i < L.length), ∃ v, w.cell? ⟨b, off + i * 4 + 3, none⟩ = some v ∧ SlKept w v L[i].l
theorem StpsAt.below {w w' : World} {b off : Nat} {L : List Stp} (h : StpsAt w b off L) (hb : Below w.heap.size w w') : StpsAt w' b off L := by
  by_cases hl : L = []
  · subst hl
    exact ⟨fun h => absurd rfl h, fun i h => absurd h (by simp), fun i h => absurd h (by simp), fun i h => absurd h (by simp), fun i h => absurd h (by simp)⟩
  · have hlt := h.lt hl
    exact ⟨fun _ => Nat.lt_of_lt_of_le hlt hb.size, fun i hi => by rw [hb.cell (p := ⟨b, off + i * 4, none⟩) hlt]; exact h.kind i hi, fun i hi => by rw [hb.cell (p := ⟨b, off + i * 4 + 1, none⟩) hlt]; exact h.num i hi, fun i hi => by rw [hb.cell (p := ⟨b, off + i * 4 + 2, none⟩) hlt]; exact h.str i hi, fun i hi => by
      obtain ⟨v, h1, h2⟩ := h.kep i hi
      exact ⟨v, by rw [hb.cell (p := ⟨b, off + i * 4 + 3, none⟩) hlt]; exact h1, h2.below hb⟩⟩
def SlStps (w : World) (v : Value) (L : List Stp) : Prop := (v = .slice none 0 0 ∧ L = []) ∨ ∃ b off cap, v = .slice (some ⟨b, off, none⟩) L.length cap ∧ L.length ≤ cap ∧ StpsAt w b off L
theorem SlStps.below {w w' : World} {v : Value} {L : List Stp} (h : SlStps w v L) (hb : Below w.heap.size w w') : SlStps w' v L := by
  rcases h with h | ⟨b, off, cap, e, hc, h⟩
  · exact .inl h
  · exact .inr ⟨b, off, cap, e, hc, h.below hb⟩
theorem SlStps.form {w : World} {v : Value} {L : List Stp} (h : SlStps w v L) : ∃ p c, v = .slice p L.length c ∧ L.length ≤ c := by
  rcases h with ⟨h, e⟩ | ⟨b, off, cap, e, hc, h⟩
  · subst e; exact ⟨none, 0, h, Nat.le_refl _⟩
  · exact ⟨_, _, e, hc⟩
theorem SlStps.atN {w : World} {p : Option Addr} {n c k : Nat} {L : List Stp} (hn : n = L.length) (h : SlStps w (.slice p n c) L) (hk : k < L.length) : ∃ b off, p = some ⟨b, off, none⟩ ∧ StpsAt w b off L := by
  subst hn
  rcases h with ⟨_, h2⟩ | ⟨b, off, cap, e, _, h⟩
  · subst h2; exact absurd hk (by simp)
  · injection e with e1 e2 e3
    exact ⟨b, off, e1, h⟩
/-- Is a list of steps not too long? -/
def fairB (L : List Stp) : Bool := (L.all fun x => decide (x.s.size ≤ 1000) && decide (x.l.length ≤ 50)) && decide (L.length ≤ 150)
theorem fairB_true {L : List Stp} (h : fairB L = true) : L.length ≤ 150 ∧ ∀ i (h : i < L.length), L[i].s.size ≤ 1000 ∧ L[i].l.length ≤ 50 := by
  unfold fairB at h
  simp only [Bool.and_eq_true, List.all_eq_true, decide_eq_true_eq] at h
  exact ⟨h.2, fun i hi => h.1 _ (List.getElem_mem hi)⟩
theorem fairB_no {L : List Stp} {i : Nat} (hi : i < L.length) (h : 1000 < L[i].s.size ∨ 50 < L[i].l.length) : fairB L = false := by
  cases hf : fairB L with
  | false => rfl
  | true => have := (fairB_true hf).2 i hi; omega
theorem fairB_yes {L : List Stp} (h : ∀ i (h : i < L.length), ¬ (1000 < L[i].s.size ∨ 50 < L[i].l.length)) : fairB L = decide (L.length ≤ 150) := by
  unfold fairB
  have : (L.all fun x => decide (x.s.size ≤ 1000) && decide (x.l.length ≤ 50)) = true := by
    rw [List.all_eq_true]
    intro x hx
    obtain ⟨i, hi, rfl⟩ := List.getElem_of_mem hx
    have := h i hi
    simp only [Bool.and_eq_true, decide_eq_true_eq]; omega
  rw [this]; rfl
theorem SlKept.formC {w : World} {v : Value} {l : List (Int × Int)} (h : SlKept w v l) : ∃ p c, v = .slice p l.length c := h.form
end Go.Proofs.YtdbiebnnogjccaaGreatDoor

/- How arguments of the types []api.Kept, pannierlaw19.Step, []pannierlaw19.Step, []uint8 are opened. -/
namespace Go.Proofs.YtdbiebnnogjccaaGreatDoor
open Go.ChangeShapes Go.WideShapes Go.RowKit
theorem laidOutD_ok : laidOutB Tryz.prog = true := by kernel_rfl
instance : Inhabited Stp := ⟨⟨0, 0, ⟨#[]⟩, []⟩⟩
/-- Slices of bytes in memory. -/
def SlU8 (w : World) (v : Value) (l : List Int) : Prop := (l = [] ∧ ∃ p c, v = .slice p 0 c) ∨ ∃ b off cap, v = .slice (some ⟨b, off, none⟩) l.length cap ∧ (l ≠ [] → b < w.heap.size) ∧ ∀ i (h : i < l.length), w.cell? ⟨b, off + i, none⟩ = some (.int .u8 l[i])
section
variable {H : Type} {enc : TypeId × Value → H} {W : World} {base : Nat} {sp : Nat → Bool} {held : Bool}
theorem od_int : Tryz.prog.cellsOf 3 = 1 := by kernel_rfl
theorem od_u8 : Tryz.prog.cellsOf 5 = 1 := by kernel_rfl
theorem od_str : Tryz.prog.cellsOf 9 = 1 := by kernel_rfl
theorem od_kept : Tryz.prog.cellsOf 131 = 2 := by kernel_rfl
theorem od_slk : Tryz.prog.cellsOf 37 = 1 := by kernel_rfl
theorem od_spot {a : Addr} {w : World} {v : Value} (h : w.cell? a = some v) : a.spot = none := by
  unfold World.cell? at h
  split at h
  · split at h
    · cases h
    · rename_i hs; cases hx : a.spot with | none => rfl | some x => simp [hx] at hs
  · cases h
theorem od_form {a : Addr} (h : a.spot = none) : a = ⟨a.block, a.off, none⟩ := by cases a; simp_all
theorem od_add (b off n : Nat) : (⟨b, off, none⟩ : Addr).add n = ⟨b, off + n, none⟩ := by unfold Addr.add; split <;> simp_all
theorem od_add0 (a : Addr) : a.add 0 = a := by cases a; unfold Addr.add; split <;> simp_all
set_option maxRecDepth 100000 in
theorem open_kepts {m : Nat} {c : Value} {y : DataW H × List MemPlace} (h : DataW.trod enc Tryz.prog W base sp held m 37 [c] = some y) :
    ∃ l : List (Int × Int), SlKept W c l ∧ l.length ≤ 9223372036854775807 ∧ ∀ x ∈ l, wf64 x.1 ∧ wf64 x.2 := by
  rcases DataW.trod_slice Tryz.underlying37 h with ⟨e1, _⟩ | ⟨a, len, cap, elems, rest, n, _, e1, _, _, hl, hm, hlen, hel, _, _⟩
  · have e1 : c = .slice none 0 0 := by simpa using e1
    exact ⟨[], .inl ⟨rfl, _, _, e1⟩, Nat.zero_le _, fun x hx => absurd hx (by simp)⟩
  · have e1 : c = .slice (some a) len cap := by simpa using e1
    subst e1
    rcases Nat.eq_zero_or_pos len with h0 | h0
    · subst h0
      exact ⟨[], .inl ⟨rfl, _, _, rfl⟩, Nat.zero_le _, fun x hx => absurd hx (by simp)⟩
    have hs : a.spot = none := by
      have hx := hel 0 h0
      rw [List.getElem?_eq_getElem (by omega), od_kept, Option.bind_eq_some_iff] at hx
      obtain ⟨cs, h1, h2⟩ := hx
      obtain ⟨_, hlen2, hcell⟩ := World.cells?_some h1
      match cs, hlen2 with
      | [d0, d1], _ =>
        have k0 := hcell 0 (by decide)
        rw [Nat.zero_mul, od_add0, od_add0] at k0
        exact od_spot k0
    have each : ∀ i, i < len → ∃ x : Int × Int, (W.cell? ⟨a.block, a.off + i * 2, none⟩ = some (.int .i64 x.1) ∧ W.cell? ⟨a.block, a.off + i * 2 + 1, none⟩ = some (.int .i64 x.2)) ∧ wf64 x.1 ∧ wf64 x.2 := by
      intro i hi
      have hx := hel i hi
      rw [List.getElem?_eq_getElem (by omega), od_kept, Option.bind_eq_some_iff] at hx
      obtain ⟨cs, h1, h2⟩ := hx
      obtain ⟨_, hlen2, hcell⟩ := World.cells?_some h1
      obtain ⟨ys, n2, _, _, _, hl2, hj⟩ := DataW.trod_struct Tryz.underlying131 h2
      match cs, hlen2, ys, hl2 with
      | [d0, d1], _, [z0, z1], _ =>
        have g0 := hj 0 _ rfl
        have g1 := hj 1 _ rfl
        simp [od_int] at g0 g1
        obtain ⟨k, e0, _, w0⟩ := DataW.trod_int Tryz.underlying3 g0
        obtain ⟨z, e2, _, w1⟩ := DataW.trod_int Tryz.underlying3 g1
        simp at e0 e2
        subst e0 e2
        have k0 := hcell 0 (by decide)
        have k1 := hcell 1 (by decide)
        rw [od_form hs, od_add, od_add] at k0 k1
        exact ⟨(k, z), ⟨by simpa using k0, by simpa using k1⟩, w0, w1⟩
    obtain ⟨f, hf⟩ := Go.Deep.choose_lt each
    have hll : ((List.range len).map f).length = len := by simp
    have hget : ∀ i (h : i < ((List.range len).map f).length), ((List.range len).map f)[i] = f i := fun i h => by simp
    rw [od_form hs]
    refine ⟨(List.range len).map f, .inr ⟨a.block, a.off, cap, by rw [hll], by rw [hll]; exact hl, ⟨fun _ => ?_, fun i hi => ?_, fun i hi => ?_⟩⟩, by rw [hll]; have := hm; simp only [maxLen] at this; omega, fun x hx => ?_⟩
    · exact World.block_lt_of_cell? W ⟨a.block, a.off + 0 * 2, none⟩ (hf 0 h0).1.1
    · rw [hget]; exact (hf i (by omega)).1.1
    · rw [hget]; exact (hf i (by omega)).1.2
    · obtain ⟨i, hi, rfl⟩ := List.mem_map.1 hx
      exact (hf i (List.mem_range.1 hi)).2
set_option maxRecDepth 100000 in
theorem open_keptsA {r : Reach} {b0 : Nat} {c : Value} {d : DataW H} {p : List MemPlace} (hv : Value.okWide Tryz.prog W r b0 37 c) (h : DataW.Trod enc Tryz.prog W base sp held 37 c d p) :
    ∃ l : List (Int × Int), SlKept W c l ∧ l.length ≤ 9223372036854775807 ∧ ∀ x ∈ l, wf64 x.1 ∧ wf64 x.2 := by
  unfold Value.okWide at hv
  rw [Tryz.underlying37] at hv
  obtain ⟨fuel, h⟩ := h
  have e0 : c.cells.toList = [c] := by
    cases c with
    | agg cs => simp [Cell.okWide, Cell.ok, Tryz.underlying37] at hv
    | _ => rfl
  rw [e0] at h
  exact open_kepts h
set_option maxRecDepth 100000 in
theorem open_u8s {r : Reach} {b0 : Nat} {c : Value} {d : DataW H} {p : List MemPlace} (hv : Value.okWide Tryz.prog W r b0 23 c) (h : DataW.Trod enc Tryz.prog W base sp held 23 c d p) :
    ∃ l : List Int, SlU8 W c l ∧ l.length ≤ 9223372036854775807 ∧ ∀ x ∈ l, 0 ≤ x ∧ x < 256 := by
  unfold Value.okWide at hv
  rw [Tryz.underlying23] at hv
  obtain ⟨fuel, h⟩ := h
  have e0 : c.cells.toList = [c] := by
    cases c with
    | agg cs => simp [Cell.okWide, Cell.ok, Tryz.underlying23] at hv
    | _ => rfl
  rw [e0] at h
  rcases open_ints Tryz.underlying23 Tryz.underlying5 od_u8 h with ⟨e1, _⟩ | ⟨a, len, cap, zs, e1, _, hl, hm, hz, _, hcell, hwf⟩
  · have e1 : c = .slice none 0 0 := by simpa using e1
    exact ⟨[], .inl ⟨rfl, _, _, e1⟩, Nat.zero_le _, fun x hx => absurd hx (by simp)⟩
  · have e1 : c = .slice (some a) len cap := by simpa using e1
    subst e1
    rcases Nat.eq_zero_or_pos len with h0 | h0
    · subst h0
      exact ⟨[], .inl ⟨rfl, _, _, rfl⟩, Nat.zero_le _, fun x hx => absurd hx (by simp)⟩
    have hlz : len ≤ zs.length := by rw [hz]; split <;> omega
    have hs : a.spot = none := by
      have k0 := hcell 0 (by omega)
      rw [od_add0] at k0
      exact od_spot k0
    have hlen : (zs.take len).length = len := by rw [List.length_take]; omega
    rw [od_form hs]
    refine ⟨zs.take len, .inr ⟨a.block, a.off, cap, by rw [hlen], fun _ => ?_, fun i hi => ?_⟩, by rw [hlen]; have := hm; simp only [maxLen] at this; omega, fun x hx => ?_⟩
    · have := World.block_lt_of_cell? W _ (hcell 0 (by omega))
      rw [od_add0] at this; exact this
    · rw [hlen] at hi
      have := hcell i (by omega)
      rw [od_form hs, od_add] at this
      rw [this]; simp [List.getD, List.getElem?_eq_getElem (show i < zs.length by omega)]
    · have := hwf x (List.mem_of_mem_take hx)
      simp [Lit.wf, IntKind.min, IntKind.max, IntKind.signed, IntKind.bits] at this
      omega
end
end Go.Proofs.YtdbiebnnogjccaaGreatDoor
