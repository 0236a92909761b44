/- append([]T{}, xs...): a step of a region that draws its order. -/
import Derived.Test.YtlpdanghcdajmaaDoorNze
namespace Go.Proofs.YtlpdanghcdajmaaDoor
open Go.RowKit
theorem run_append_fresh {P : Program} (w : World) (t ty e : TypeId) (i : TypeInfo) (z : Value) (ht : P.underlying t = some (.slice e)) (hi : P.info? e = some i) (hz : i.zero = some z) (hsize : i.size = 1) (hby : i.bytes ≤ 8)
    (H : Nat) (sv : Value) (kd : IntKind) (l : List Int) (hsrc : SlInts kd w sv l) (hl : l.length ≤ 4096) :
    ∃ g c w', (Builtin.append_ #[t, t] ty #[.slice (some ⟨H, 0, none⟩) 0 0, sv]).run P w = .ok (.slice (some ⟨g, 0, none⟩) l.length c) w' ∧ SlInts kd w' (.slice (some ⟨g, 0, none⟩) l.length c) l ∧ Below w.heap.size w w' := by
  by_cases h0 : l = []
  · subst h0
    refine ⟨H, 0, w, ?_, (.inr ⟨H, 0, 0, rfl, ⟨fun h => absurd rfl h, fun i h => absurd h (by simp)⟩⟩), Below.refl _ _⟩
    rcases hsrc with ⟨rfl, _⟩ | ⟨b, off, cap, rfl, _⟩
    · simp [Builtin.append_, run_underlying ht, sizeOf, typeInfo, hi, Builtin.lenOf, Builtin.firstCells, loadCells, loadCellsFrom, storeCells]
    · simp [Builtin.append_, run_underlying ht, sizeOf, typeInfo, hi, Builtin.lenOf, Builtin.firstCells, loadCells, loadCellsFrom, storeCells]
  · rcases hsrc with ⟨_, h1⟩ | ⟨b, off, cap, rfl, hat⟩
    · exact absurd h1 h0
    · have hpos : 0 < l.length := List.length_pos_iff.2 h0
      have hb8 : l.length * i.bytes ≤ 4096 * 8 := Nat.mul_le_mul hl hby
      have hr := run_append_grow (P := P) w t ty e i z ht hi hz ⟨H, 0, none⟩ 0 0 [] (by simp) (fun j v h => by simp at h) ⟨b, off, none⟩ l.length cap (l.map (Value.int kd)) (by simp [hsize])
        (fun j v hj => by
          rw [List.getElem?_map] at hj
          cases hlj : l[j]? with
          | none => rw [hlj] at hj; cases hj
          | some x =>
            rw [hlj] at hj
            simp only [Option.map_some, Option.some.injEq] at hj
            subst hj
            obtain ⟨hjl, hx⟩ := List.getElem?_eq_some_iff.1 hlj
            have hadd : (⟨b, off, none⟩ : Addr).add j = ⟨b, off + j, none⟩ := by unfold Addr.add; split <;> simp_all
            rw [hadd, hat.at' j hjl, hx])
        (by omega) (by omega) (growslice_fits (by omega) (by rw [Nat.zero_add]; omega))
      simp only [Nat.zero_add] at hr
      refine ⟨_, _, _, hr, .inr ⟨_, 0, _, rfl, ⟨fun _ => by simp, fun j hj => ?_⟩⟩, ?_⟩
      · have := blk_cell (blk_new w.drew (.cells ((#[] : Array Value) ++ (l.map (Value.int kd)).toArray ++ Builtin.zeroCells z.cells (grownCap w l.length 0 e - l.length)) e)) j
        rw [Nat.zero_add]
        refine this.trans ?_
        rw [Array.getElem?_append_left (by simp; exact hj), Array.getElem?_append_right (by simp)]
        simp [hj]
      · have hb := below_a1 w.drew (.cells ((#[] : Array Value) ++ (l.map (Value.int kd)).toArray ++ Builtin.zeroCells z.cells (grownCap w l.length 0 e - l.length)) e)
        exact ⟨hb.os, hb.tape, hb.output, hb.size, hb.block⟩
theorem step_append_fresh {P : Program} {w : World} {ops : Array Oper} {o : Oper} {a : Act} {K : Act → World → Prop} {Q : Exit → Act → World → Prop} {E : Prop} (hgd : o.guard = none) (s x : Operand) (t : TypeId)
    (ho : o.op = .call { callee := .builtin .append, args := #[s, x], argTypes := #[t, t] })
    (e : TypeId) (i : TypeInfo) (z : Value) (ht : P.underlying t = some (.slice e)) (hi : P.info? e = some i) (hz : i.zero = some z) (hsize : i.size = 1) (hby : i.bytes ≤ 8)
    (hs : ∃ H : Nat, a.eval s = .slice (some ⟨H, 0, none⟩) 0 0) (sv : Value) (hx : a.eval x = sv) (kd : IntKind) (l : List Int) (hsrc : SlInts kd w sv l) (hl : l.length ≤ 4096)
    (h : ∀ g c w', SlInts kd w' (.slice (some ⟨g, 0, none⟩) l.length c) l → Below w.heap.size w w' → K (a.put o.dst (.slice (some ⟨g, 0, none⟩) l.length c)) w') :
    if Region.wanted o (yielded ops a.tmps) = true then Oper.wp P o a w K Q else E := by
  have hw : Region.wanted o (yielded ops a.tmps) = true := by simp [Region.wanted, hgd]
  rw [if_pos hw]
  obtain ⟨H, hs⟩ := hs
  obtain ⟨g, c, w', hr, h2, h3⟩ := run_append_fresh (P := P) w t o.type e i z ht hi hz hsize hby H sv kd l hsrc hl
  unfold Oper.wp execOp
  simp only [ho, resolve, invoke, builtin, Sem.run_bind, Sem.run_pure, Result.andThen_ok, List.map_toArray, List.map_cons, List.map_nil, hs, hx, hr]
  exact h g c w' h2 h3
theorem bal {B : Nat} {a W : World} (h : Below B a W ∧ B ≤ W.heap.size) (o : Obj) : Below B a (W.alloc o) ∧ B ≤ (W.alloc o).heap.size := ⟨h.1.alloc h.2 o, by simp; omega⟩
theorem bdr {B : Nat} {a W : World} (h : Below B a W ∧ B ≤ W.heap.size) : Below B a W.drew ∧ B ≤ W.drew.heap.size := ⟨⟨h.1.os, h.1.tape, h.1.output, h.1.size, h.1.block⟩, h.2⟩
theorem bbl {B : Nat} {a W X : World} (h : Below B a W ∧ B ≤ W.heap.size) (k : Below W.heap.size W X) : Below B a X ∧ B ≤ X.heap.size := ⟨h.1.trans (k.mono h.2), Nat.le_trans h.2 k.size⟩
theorem SlInts.bb {kd : IntKind} {w X : World} {v : Value} {l : List Int} (h : SlInts kd w v l) (hb : Below w.heap.size w X ∧ w.heap.size ≤ X.heap.size) : SlInts kd X v l := h.below hb.1
theorem bsc {B : Nat} {a W : World} (h : Below B a W ∧ B ≤ W.heap.size) {p : Addr} (hp : B ≤ p.block) (v : Value) : Below B a (W.setCell p v) ∧ B ≤ (W.setCell p v).heap.size := ⟨h.1.setCell hp v, by simpa [World.setCell] using h.2⟩
theorem bel1 {B : Nat} {a W : World} (h : Below B a W ∧ B ≤ W.heap.size) : Below B a W := h.1
theorem kA {W : World} {k : Nat} {v : Option Obj} (h : W.heap[k]? = v) (hk : k < W.heap.size) (o : Obj) : (W.alloc o).heap[k]? = v := by rw [Below.heap_alloc _ _ _ hk]; exact h
theorem kS {W : World} {k : Nat} {v : Option Obj} (h : W.heap[k]? = v) {p : Addr} (hk : k ≠ p.block) (u : Value) : (W.setCell p u).heap[k]? = v := by rw [Below.heap_setCell _ _ _ _ hk]; exact h
theorem kB {W X : World} {k : Nat} {v : Option Obj} (hb : Below W.heap.size W X) (h : W.heap[k]? = v) (hk : k < W.heap.size) : X.heap[k]? = v := (hb.block k hk).trans h
theorem kD {W : World} {k : Nat} {v : Option Obj} (h : W.heap[k]? = v) : W.drew.heap[k]? = v := h
theorem kN {W : World} {k : Nat} (o : Obj) (hk : k = W.heap.size) : (W.alloc o).heap[k]? = some o := by rw [hk]; exact blk_new _ _
theorem SlInts.set4 {kd : IntKind} {w : World} {v : Value} {l : List Int} (h : SlInts kd w v l) {B : Nat} {c : Bool} {p1 p2 p3 : Option Addr} {n1 n2 n3 m1 m2 m3 : Nat} {t : TypeId}
    (hB : w.heap[B]? = some (.cells #[.bool c, .slice p1 n1 m1, .slice p2 n2 m2, .slice p3 n3 m3] t (0, 0))) (v0 v1 v2 v3 : Value) : SlInts kd (Proofs.YtlpdanghcdajmaaDoor.set4 w B v0 v1 v2 v3) v l := by
  rcases h with h | ⟨b, off, cap, e, h⟩
  · exact .inl h
  · refine .inr ⟨b, off, cap, e, ⟨fun hne => by have := h.lt hne; simp [Proofs.YtlpdanghcdajmaaDoor.set4, World.setCell]; exact this, fun i hi => ?_⟩⟩
    have hx := h.at' i hi
    have hne : b ≠ B := by
      rintro rfl
      rw [blk_cell hB] at hx
      rcases Nat.lt_or_ge (off + i) 4 with h4 | h4
      · have : off + i = 0 ∨ off + i = 1 ∨ off + i = 2 ∨ off + i = 3 := by omega
        rcases this with e | e | e | e <;> rw [e] at hx <;> simp at hx
      · rw [Array.getElem?_eq_none (by simpa using h4)] at hx; cases hx
    have hlt : b < w.heap.size := World.block_lt_of_cell? w ⟨b, off + i, none⟩ hx
    rw [World.cell?_of_block (w := w) (a := ⟨b, off + i, none⟩)]
    · exact hx
    · unfold Proofs.YtlpdanghcdajmaaDoor.set4
      show _ = _
      rw [Below.heap_setCell _ _ _ _ hne, Below.heap_setCell _ _ _ _ hne, Below.heap_setCell _ _ _ _ hne, Below.heap_setCell _ _ _ _ hne]
theorem not_struct {kd : IntKind} {w : World} {b o B : Nat} {x : Int} (hx : w.cell? ⟨b, o, none⟩ = some (.int kd x)) {c : Bool} {p1 p2 p3 : Option Addr} {n1 n2 n3 m1 m2 m3 : Nat} {t : TypeId}
    (hB : w.heap[B]? = some (.cells #[.bool c, .slice p1 n1 m1, .slice p2 n2 m2, .slice p3 n3 m3] t (0, 0))) : b ≠ B := by
  rintro rfl
  rw [blk_cell hB] at hx
  rcases Nat.lt_or_ge o 4 with h4 | h4
  · have : o = 0 ∨ o = 1 ∨ o = 2 ∨ o = 3 := by omega
    rcases this with e | e | e | e <;> rw [e] at hx <;> simp at hx
  · rw [Array.getElem?_eq_none (by simpa using h4)] at hx; cases hx
/-- Numbers lie in neither of two blocks of structs: they stay, whatever is done to those. -/
theorem SlInts.far {kd : IntKind} {w : World} {v : Value} {l : List Int} (h : SlInts kd w v l) {B B' : Nat} {c c' : Bool} {p1 p2 p3 q1 q2 q3 : Option Addr} {n1 n2 n3 m1 m2 m3 i1 i2 i3 j1 j2 j3 : Nat} {t t' : TypeId}
    (hB : w.heap[B]? = some (.cells #[.bool c, .slice p1 n1 m1, .slice p2 n2 m2, .slice p3 n3 m3] t (0, 0))) (hB' : w.heap[B']? = some (.cells #[.bool c', .slice q1 i1 j1, .slice q2 i2 j2, .slice q3 i3 j3] t' (0, 0)))
    {W' : World} (hW : ∀ k, k < w.heap.size → k ≠ B → k ≠ B' → W'.heap[k]? = w.heap[k]?) : SlInts kd W' v l := by
  rcases h with h | ⟨b, off, cap, e, h⟩
  · exact .inl h
  · have hat : ∀ i (hi : i < l.length), W'.heap[b]? = w.heap[b]? := fun i hi => hW b (World.block_lt_of_cell? w ⟨b, off + i, none⟩ (h.at' i hi)) (not_struct (h.at' i hi) hB) (not_struct (h.at' i hi) hB')
    refine .inr ⟨b, off, cap, e, ⟨fun hne => ?_, fun i hi => ?_⟩⟩
    · have h0 : 0 < l.length := List.length_pos_iff.2 hne
      have hc := h.at' 0 h0
      rw [← World.cell?_of_block (w := w) (w' := W') (a := ⟨b, off + 0, none⟩) (hat 0 h0)] at hc
      exact World.block_lt_of_cell? W' ⟨b, off + 0, none⟩ hc
    · rw [World.cell?_of_block (w := w) (a := ⟨b, off + i, none⟩) (hat i hi)]; exact h.at' i hi
theorem Fr.grow {S : Nat → Prop} {a w w' : World} {row : Option Nat} (h : Fr S a w) (hg : w.grownBy w' row) (hr : ∀ k, row = some k → a.heap.size ≤ k) : Fr S a w' :=
  ⟨hg.os.trans h.os, hg.tape.trans h.tape, hg.output.trans h.output, Nat.le_trans h.size hg.size, fun k hk hs => (hg.block k (Nat.lt_of_lt_of_le hk h.size) (fun e => by have := hr k e.symm; omega)).trans (h.block k hk hs)⟩
end Go.Proofs.YtlpdanghcdajmaaDoor
