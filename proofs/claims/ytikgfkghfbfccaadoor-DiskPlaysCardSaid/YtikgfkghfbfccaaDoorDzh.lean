/- Disks (layer 19): the law DiskPlays. append([]T{}, xs...) with the new row's block. -/
import Derived.Test.YtikgfkghfbfccaaDoorDzg
import Derived.Test.YtikgfkghfbfccaaDoorDu
namespace Go.Proofs.YtikgfkghfbfccaaDoor
open Go.RowKit
theorem run_append_newB {P : Program} (w : World) (t ty e : TypeId) (i : TypeInfo) (z : Value) (ht : P.underlying t = some (.slice e)) (hi : P.info? e = some i) (hz : i.zero = some z) (size : Nat) (hsize : i.size = size) (hby : i.bytes ≤ 128)
    (H : Nat) (sv : Value) (n : Nat) (cs : List Value) (hcs : cs.length = n * size) (hsrc : SlCells w sv n cs) (hl : n ≤ 1000000) :
    ∃ g c w', (Builtin.append_ #[t, t] ty #[.slice (some ⟨H, 0, none⟩) 0 0, sv]).run P w = .ok (.slice (some ⟨g, 0, none⟩) n c) w' ∧ n ≤ c ∧ (∀ j u, cs[j]? = some u → w'.cell? ⟨g, j, none⟩ = some u) ∧ Below w.heap.size w w' ∧ (g = H ∨ g = w.heap.size) ∧ (0 < n → g = w.heap.size ∧ ∃ cs', w'.heap[g]? = some (.cells cs' e (0, 0)) ∧ n * size ≤ cs'.size) := by
  by_cases h0 : n = 0
  · obtain ⟨g, c, w', h1, h2, h3, h4, h5, h6⟩ := run_append_new (P := P) w t ty e i z ht hi hz size hsize hby H sv n cs hcs hsrc hl
    exact ⟨g, c, w', h1, h2, h3, h4, h5, fun h => absurd h (by omega)⟩
  · rcases hsrc with ⟨h1, _⟩ | ⟨b, off, cap, rfl, hat⟩
    · exact absurd h1 h0
    · have hb8 : n * i.bytes ≤ 1000000 * 128 := Nat.mul_le_mul hl hby
      have hr := run_append_grow (P := P) w t ty e i z ht hi hz ⟨H, 0, none⟩ 0 0 [] (by simp) (fun j v h => by simp at h) ⟨b, off, none⟩ n cap cs (by rw [hcs, hsize])
        (fun j v hj => by
          have hadd : (⟨b, off, none⟩ : Addr).add j = ⟨b, off + j, none⟩ := by unfold Addr.add; split <;> simp_all
          rw [hadd]; exact hat j v hj)
        (by omega) (by omega) (growslice_fits (by omega) (by rw [Nat.zero_add]; omega))
      simp only [Nat.zero_add] at hr
      have hge := grownCap_ge w n 0 e
      have hbk := blk_new w.drew (.cells ((#[] : Array Value) ++ cs.toArray ++ Builtin.zeroCells z.cells (grownCap w n 0 e - n)) e)
      refine ⟨_, _, _, hr, hge, fun j u hj => ?_, ?_, .inr rfl, fun _ => ⟨rfl, _, hbk, by rw [← hcs]; simp⟩⟩
      · refine (blk_cell hbk j).trans ?_
        have hjl : j < cs.length := (List.getElem?_eq_some_iff.1 hj).1
        rw [Array.getElem?_append_left (by simp; exact hjl), Array.getElem?_append_right (by simp)]
        simp [hj]
      · have hb := (Below.refl w.drew.heap.size w.drew).alloc (Nat.le_refl _) (.cells ((#[] : Array Value) ++ cs.toArray ++ Builtin.zeroCells z.cells (grownCap w n 0 e - n)) e)
        exact ⟨hb.os, hb.tape, hb.output, hb.size, hb.block⟩
theorem wpList_append_newB {P : Program} {w : World} {ops : Array Oper} {rest : List Oper} {o : Oper} {a : Act} {Q : Exit → Act → World → Prop} (hgd : o.guard = none) (s x : Operand) (t : TypeId)
    (ho : o.op = .call { callee := .builtin .append, args := #[s, x], argTypes := #[t, t] })
    (e : TypeId) (i : TypeInfo) (z : Value) (ht : P.underlying t = some (.slice e)) (hi : P.info? e = some i) (hz : i.zero = some z) (size : Nat) (hsize : i.size = size) (hby : i.bytes ≤ 128)
    (H : Nat) (hs : a.eval s = .slice (some ⟨H, 0, none⟩) 0 0) (sv : Value) (hx : a.eval x = sv) (n : Nat) (cs : List Value) (hcs : cs.length = n * size) (hsrc : SlCells w sv n cs) (hl : n ≤ 1000000)
    (h : ∀ g c w', n ≤ c → (∀ j u, cs[j]? = some u → w'.cell? ⟨g, j, none⟩ = some u) → Below w.heap.size w w' → (g = H ∨ g = w.heap.size) → (0 < n → g = w.heap.size ∧ ∃ cs', w'.heap[g]? = some (.cells cs' e (0, 0)) ∧ n * size ≤ cs'.size) → wpList P ops Q rest (a.put o.dst (.slice (some ⟨g, 0, none⟩) n c)) w') :
    wpList P ops Q (o :: rest) a w := by
  refine wpList_plain hgd fun K hK => ?_
  obtain ⟨g, c, w', hr, h2, h3, h4, h5, h6⟩ := run_append_newB (P := P) w t o.type e i z ht hi hz size hsize hby H sv n cs hcs hsrc hl
  unfold Oper.wp execOp
  simp only [ho, resolve, invoke, builtin, Sem.run_bind, Sem.run_pure, Result.andThen_ok, List.map_toArray, List.map_cons, List.map_nil, hs, hx, hr]
  exact hK _ _ (h g c w' h2 h3 h4 h5 h6)
end Go.Proofs.YtikgfkghfbfccaaDoor
