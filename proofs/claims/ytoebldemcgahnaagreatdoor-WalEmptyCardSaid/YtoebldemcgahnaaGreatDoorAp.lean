/- append([]T{}, xs...) of whatever cells: the run, a plain operation, a step of a region that draws its order. -/
import Derived.Test.YtoebldemcgahnaaGreatDoorSl
import Derived.Deep.RegionHeld3
namespace Go.Proofs.YtoebldemcgahnaaGreatDoor
open Go.RowKit
/-- A slice's n elements read as these cells. -/
def SlCells (w : World) (v : Value) (n : Nat) (cs : List Value) : Prop := (n = 0 ∧ cs = [] ∧ ∃ p c, v = .slice p 0 c) ∨ ∃ b off cap, v = .slice (some ⟨b, off, none⟩) n cap ∧ ∀ j u, cs[j]? = some u → w.cell? ⟨b, off + j, none⟩ = some u
theorem run_append_new {P : Program} (w : World) (t ty e : TypeId) (i : TypeInfo) (z : Value) (ht : P.underlying t = some (.slice e)) (hi : P.info? e = some i) (hz : i.zero = some z) (size : Nat) (hsize : i.size = size) (hby : i.bytes ≤ 128)
    (H : Nat) (sv : Value) (n : Nat) (cs : List Value) (hcs : cs.length = n * size) (hsrc : SlCells w sv n cs) (hl : n ≤ 1000000) :
    ∃ g c w', (Builtin.append_ #[t, t] ty #[.slice (some ⟨H, 0, none⟩) 0 0, sv]).run P w = .ok (.slice (some ⟨g, 0, none⟩) n c) w' ∧ n ≤ c ∧ (∀ j u, cs[j]? = some u → w'.cell? ⟨g, j, none⟩ = some u) ∧ Below w.heap.size w w' ∧ (g = H ∨ g = w.heap.size) ∧ (0 < n → g = w.heap.size ∧ g < w'.heap.size) := by
  by_cases h0 : n = 0
  · subst h0
    obtain rfl : cs = [] := List.eq_nil_of_length_eq_zero (by simpa using hcs)
    refine ⟨H, 0, w, ?_, Nat.le_refl _, (fun j u h => by simp at h), Below.refl _ _, .inl rfl, fun h => absurd h (by omega)⟩
    rcases hsrc with ⟨_, _, p, c, rfl⟩ | ⟨b, off, cap, rfl, _⟩
    · cases p <;> simp [Builtin.append_, run_underlying ht, sizeOf, typeInfo, hi, Builtin.lenOf, Builtin.firstCells, loadCells, loadCellsFrom, storeCells]
    · simp [Builtin.append_, run_underlying ht, sizeOf, typeInfo, hi, Builtin.lenOf, Builtin.firstCells, loadCells, loadCellsFrom, storeCells]
  · rcases hsrc with ⟨h1, _⟩ | ⟨b, off, cap, rfl, hat⟩
    · exact absurd h1 h0
    · have hb8 : n * i.bytes ≤ 1000000 * 128 := Nat.mul_le_mul hl hby
      have hr := run_append_grow (P := P) w t ty e i z ht hi hz ⟨H, 0, none⟩ 0 0 [] (by simp) (fun j v h => by simp at h) ⟨b, off, none⟩ n cap cs (by rw [hcs, hsize])
        (fun j v hj => by
          have hadd : (⟨b, off, none⟩ : Addr).add j = ⟨b, off + j, none⟩ := by unfold Addr.add; split <;> simp_all
          rw [hadd]; exact hat j v hj)
        (by omega) (by omega) (growslice_fits (by omega) (by rw [Nat.zero_add]; omega))
      simp only [Nat.zero_add] at hr
      have hge := grownCap_ge w n 0 e
      refine ⟨_, _, _, hr, hge, fun j u hj => ?_, ?_, .inr rfl, fun _ => ⟨rfl, by simp⟩⟩
      · have := blk_cell (blk_new w.drew (.cells ((#[] : Array Value) ++ cs.toArray ++ Builtin.zeroCells z.cells (grownCap w n 0 e - n)) e)) j
        refine this.trans ?_
        have hjl : j < cs.length := (List.getElem?_eq_some_iff.1 hj).1
        rw [Array.getElem?_append_left (by simp; exact hjl), Array.getElem?_append_right (by simp)]
        simp [hj]
      · have hb := (Below.refl w.drew.heap.size w.drew).alloc (Nat.le_refl _) (.cells ((#[] : Array Value) ++ cs.toArray ++ Builtin.zeroCells z.cells (grownCap w n 0 e - n)) e)
        exact ⟨hb.os, hb.tape, hb.output, hb.size, hb.block⟩
theorem wpList_append_new {P : Program} {w : World} {ops : Array Oper} {rest : List Oper} {o : Oper} {a : Act} {Q : Exit → Act → World → Prop} (hgd : o.guard = none) (s x : Operand) (t : TypeId)
    (ho : o.op = .call { callee := .builtin .append, args := #[s, x], argTypes := #[t, t] })
    (e : TypeId) (i : TypeInfo) (z : Value) (ht : P.underlying t = some (.slice e)) (hi : P.info? e = some i) (hz : i.zero = some z) (size : Nat) (hsize : i.size = size) (hby : i.bytes ≤ 128)
    (H : Nat) (hs : a.eval s = .slice (some ⟨H, 0, none⟩) 0 0) (sv : Value) (hx : a.eval x = sv) (n : Nat) (cs : List Value) (hcs : cs.length = n * size) (hsrc : SlCells w sv n cs) (hl : n ≤ 1000000)
    (h : ∀ g c w', n ≤ c → (∀ j u, cs[j]? = some u → w'.cell? ⟨g, j, none⟩ = some u) → Below w.heap.size w w' → (g = H ∨ g = w.heap.size) → (0 < n → g = w.heap.size ∧ g < w'.heap.size) → wpList P ops Q rest (a.put o.dst (.slice (some ⟨g, 0, none⟩) n c)) w') :
    wpList P ops Q (o :: rest) a w := by
  refine wpList_plain hgd fun K hK => ?_
  obtain ⟨g, c, w', hr, h2, h3, h4, h5, h6⟩ := run_append_new (P := P) w t o.type e i z ht hi hz size hsize hby H sv n cs hcs hsrc hl
  unfold Oper.wp execOp
  simp only [ho, resolve, invoke, builtin, Sem.run_bind, Sem.run_pure, Result.andThen_ok, List.map_toArray, List.map_cons, List.map_nil, hs, hx, hr]
  exact hK _ _ (h g c w' h2 h3 h4 h5 h6)
theorem step_append_new {P : Program} {w : World} {ops : Array Oper} {o : Oper} {a : Act} {K : Act → World → Prop} {Q : Exit → Act → World → Prop} {E : Prop} (hgd : o.guard = none) (s x : Operand) (t : TypeId)
    (ho : o.op = .call { callee := .builtin .append, args := #[s, x], argTypes := #[t, t] })
    (e : TypeId) (i : TypeInfo) (z : Value) (ht : P.underlying t = some (.slice e)) (hi : P.info? e = some i) (hz : i.zero = some z) (size : Nat) (hsize : i.size = size) (hby : i.bytes ≤ 128)
    (H : Nat) (hs : a.eval s = .slice (some ⟨H, 0, none⟩) 0 0) (sv : Value) (hx : a.eval x = sv) (n : Nat) (cs : List Value) (hcs : cs.length = n * size) (hsrc : SlCells w sv n cs) (hl : n ≤ 1000000)
    (h : ∀ g c w', n ≤ c → (∀ j u, cs[j]? = some u → w'.cell? ⟨g, j, none⟩ = some u) → Below w.heap.size w w' → (g = H ∨ g = w.heap.size) → (0 < n → g = w.heap.size ∧ g < w'.heap.size) → K (a.put o.dst (.slice (some ⟨g, 0, none⟩) n c)) w') :
    if Region.wanted o (yielded ops a.tmps) = true then Oper.wp P o a w K Q else E := by
  have hw : Region.wanted o (yielded ops a.tmps) = true := by simp [Region.wanted, hgd]
  rw [if_pos hw]
  obtain ⟨g, c, w', hr, h2, h3, h4, h5, h6⟩ := run_append_new (P := P) w t o.type e i z ht hi hz size hsize hby H sv n cs hcs hsrc hl
  unfold Oper.wp execOp
  simp only [ho, resolve, invoke, builtin, Sem.run_bind, Sem.run_pure, Result.andThen_ok, List.map_toArray, List.map_cons, List.map_nil, hs, hx, hr]
  exact h g c w' h2 h3 h4 h5 h6
end Go.Proofs.YtoebldemcgahnaaGreatDoor
