/- Nodes (layer 23): what the reader of a node holds; rows that grow. -/
import Derived.Test.YtlpdanghcdajmaaDoorNy
import Derived.Laws.OwnMore
import Derived.Deep.AppendLies
import Derived.OwnWalk
namespace Go.Proofs.YtlpdanghcdajmaaDoor
open Go.RowKit
/-- The cells of items, one behind the other. -/
def itCells (l : List It) : List Value := (l.map fun x => x.cells.toList).flatten
theorem itCells_append (l m : List It) : itCells (l ++ m) = itCells l ++ itCells m := by unfold itCells; rw [List.map_append, List.flatten_append]
theorem itCells_one (x : It) : itCells [x] = [.int .u32 x.key, .int .i64 x.size, .string x.text, .int .i64 x.page] := by simp [itCells, It.cells]
theorem itCells_get : ∀ (l : List It) (i j : Nat) (h : i < l.length), j < 4 → (itCells l)[i * 4 + j]? = l[i].cells.toList[j]?
  | [], i, j, h, _ => absurd h (by simp)
  | x :: l, 0, j, _, hj => by
    have e : itCells (x :: l) = x.cells.toList ++ itCells l := by simp [itCells]
    rw [e, Nat.zero_mul, Nat.zero_add, List.getElem?_append_left (by simp [It.cells]; omega)]; rfl
  | x :: l, i + 1, j, h, hj => by
    have e : itCells (x :: l) = x.cells.toList ++ itCells l := by simp [itCells]
    have hl : x.cells.toList.length = 4 := by simp [It.cells]
    rw [e, List.getElem?_append_right (by rw [hl]; omega), hl]
    have e2 : (i + 1) * 4 + j - 4 = i * 4 + j := by omega
    rw [e2, itCells_get l i j (by simpa using h) hj]; rfl
theorem row_cell {w : World} {base : Nat} {e : TypeId} {size n : Nat} {v : Value} {xs : List Value} (h : w.ownsRow base e size v n xs) {g c : Nat} {m : Nat} (hv : v = .slice (some ⟨g, 0, none⟩) m c) {j : Nat} {u : Value} (hu : xs[j]? = some u) : w.cell? ⟨g, j, none⟩ = some u := by
  have := h.cells (g := g) (by rw [hv]; rfl) j u hu
  have hadd : (⟨g, 0, none⟩ : Addr).add j = ⟨g, j, none⟩ := by unfold Addr.add; split <;> simp_all
  rw [hadd] at this; exact this
theorem SlItems.of_own {w : World} {base : Nat} {v : Value} {l : List It} (h : w.ownsRow base 97 4 v l.length (itCells l)) : SlItems w v l := by
  rcases h.2 with ⟨h1, h2⟩ | ⟨g, cap, cur, hv, hb, hg, _⟩
  · exact .inl ⟨h1, List.eq_nil_of_length_eq_zero h2⟩
  · have hget := itCells_get l
    refine .inr ⟨g, 0, cap, hv, ⟨fun _ => blk_lt hg, fun i hi => ?_, fun i hi => ?_, fun i hi => ?_, fun i hi => ?_⟩⟩
    · rw [Nat.zero_add]; exact row_cell h hv (j := i * 4) (by have := hget i 0 hi (by decide); rw [Nat.add_zero] at this; rw [this]; rfl)
    · rw [Nat.zero_add]; exact row_cell h hv (by rw [hget i 1 hi (by decide)]; rfl)
    · rw [Nat.zero_add]; exact row_cell h hv (by rw [hget i 2 hi (by decide)]; rfl)
    · rw [Nat.zero_add]; exact row_cell h hv (by rw [hget i 3 hi (by decide)]; rfl)
theorem SlInts.of_own {kd : IntKind} {w : World} {base : Nat} {e : TypeId} {v : Value} {l : List Int} (h : w.ownsRow base e 1 v l.length (l.map (Value.int kd))) : SlInts kd w v l := by
  rcases h.2 with ⟨h1, h2⟩ | ⟨g, cap, cur, hv, hb, hg, _⟩
  · exact .inl ⟨h1, List.eq_nil_of_length_eq_zero h2⟩
  · refine .inr ⟨g, 0, cap, hv, ⟨fun _ => blk_lt hg, fun i hi => ?_⟩⟩
    rw [Nat.zero_add]
    exact row_cell h hv (by rw [List.getElem?_map, List.getElem?_eq_getElem hi]; rfl)
/-- Rows of unlike elements are unlike rows. -/
theorem row_ne {w : World} {B B' : Nat} {e e' : TypeId} {s s' n n' : Nat} {v v' : Value} {xs xs' : List Value} (h : w.ownsRow B e s v n xs) (h' : w.ownsRow B' e' s' v' n' xs') (hne : e ≠ e') : v.ownBlock = none ∨ v.ownBlock ≠ v'.ownBlock := by
  rcases h.2 with ⟨h1, _⟩ | ⟨g, cap, cur, hv, hb, hg, _⟩
  · left; rw [h1]; rfl
  · right
    rcases h'.2 with ⟨h1, _⟩ | ⟨g', cap', cur', hv', hb', hg', _⟩
    · rw [hv, h1]; simp [Value.ownBlock]
    · rw [hv, hv']
      simp only [Value.ownBlock, ne_eq, Option.some.injEq]
      rintro rfl
      rw [hg] at hg'
      simp only [Option.some.injEq, Obj.cells.injEq] at hg'
      exact hne hg'.2.1
theorem row_below {w : World} {B : Nat} {e : TypeId} {s n : Nat} {v : Value} {xs : List Value} (h : w.ownsRow B e s v n xs) {k : Nat} (hk : k < B) : v.ownBlock = none ∨ v.ownBlock ≠ some k := by
  cases hv : v.ownBlock with
  | none => exact .inl rfl
  | some g =>
    right
    have := (h.lt g hv).1
    simp; omega
theorem Fr.grown {p : Nat} {w w' : World} (h : Fr (· = p) w w') : w.grownBy w' (some p) := ⟨h.os, h.tape, h.output, h.size, fun k hk hne => h.block k hk fun e => hne (by rw [e])⟩
theorem row_fr {w w' : World} {p B : Nat} {e : TypeId} {s n : Nat} {v : Value} {xs : List Value} (h : w.ownsRow B e s v n xs) (hf : Fr (· = p) w w') (hp : p < B) : w'.ownsRow B e s v n xs := h.kept hf.grown (row_below h hp)
/-- What the reader of a node holds: the reader's state, the node so far. -/
structure NodeW (w w1 : World) (p : Nat) (b : ByteArray) (a : Int) (bad : Bool) (lf : Bool) (vI vK vD : Value) (n : Nd) : Prop where
  rd : IsRn w1 p b a bad
  nb : w1.heap[w.heap.size + 1]? = some (.cells #[.bool lf, vI, vK, vD] 73 (0, 0))
  res : w1.heap[w.heap.size]? = some (.cells #[.bool false, .slice none 0 0, .slice none 0 0, .slice none 0 0] 73 (0, 0))
  oI : w1.ownsRow (w.heap.size + 2) 97 4 vI n.I.length (itCells n.I)
  oK : w1.ownsRow (w.heap.size + 2) 22 1 vK n.K.length (n.K.map (Value.int .u32))
  oD : w1.ownsRow (w.heap.size + 2) 3 1 vD n.D.length (n.D.map (Value.int .i64))
  et : EtIs w1
  fr : Fr (· = p) w w1
  sz : w.heap.size + 2 ≤ w1.heap.size
section
variable {w w1 w2 : World} {p : Nat} {b : ByteArray} {a a' : Int} {bad bad' lf : Bool} {vI vK vD : Value} {n : Nd}
theorem NodeW.drew (h : NodeW w w1 p b a bad lf vI vK vD n) : NodeW w w1.drew p b a bad lf vI vK vD n :=
  ⟨h.rd, h.nb, h.res, h.oI, h.oK, h.oD, h.et, h.fr.drew, h.sz⟩
/-- Behind a call of the reader. -/
theorem NodeW.call (h : NodeW w w1 p b a bad lf vI vK vD n) (hp : IsRn w2 p b a' bad') (hf : Fr (· = p) w1 w2) (he : EtIs w2) (hpw : p < w.heap.size) : NodeW w w2 p b a' bad' lf vI vK vD n :=
  ⟨hp, blk_fr h.nb hf (by omega), blk_fr h.res hf (by omega), row_fr h.oI hf (by omega), row_fr h.oK hf (by omega), row_fr h.oD hf (by omega), he, h.fr.trans hf, Nat.le_trans h.sz hf.size⟩
theorem row_set {B : Nat} {e : TypeId} {s m : Nat} {v : Value} {xs : List Value} (h : w1.ownsRow B e s v m xs) {q : Nat} (hq : q < B) (o : Nat) (u : Value) : (w1.setCell ⟨q, o, none⟩ u).ownsRow B e s v m xs :=
  h.kept (row := some q) ⟨rfl, rfl, rfl, by simp [World.setCell], fun k _ hne => Below.heap_setCell _ _ _ _ (fun e => hne (by rw [e]))⟩ (row_below h hq)
theorem NodeW.alloc (h : NodeW w w1 p b a bad lf vI vK vD n) (o : Obj) : NodeW w (w1.alloc o) p b a bad lf vI vK vD n :=
  ⟨h.rd.alloc _, blk_alloc h.nb, blk_alloc h.res, h.oI.alloc _, h.oK.alloc _, h.oD.alloc _, h.et.alloc _, h.fr.alloc _, by simp; have := h.sz; omega⟩
/-- Behind an append that changed one row among the new ones, or made one. -/
structure Kept (w w1 w2 : World) (p : Nat) (b : ByteArray) (a : Int) (bad lf : Bool) (vI vK vD : Value) : Prop where
  rd : IsRn w2 p b a bad
  nb : w2.heap[w.heap.size + 1]? = some (.cells #[.bool lf, vI, vK, vD] 73 (0, 0))
  res : w2.heap[w.heap.size]? = some (.cells #[.bool false, .slice none 0 0, .slice none 0 0, .slice none 0 0] 73 (0, 0))
  et : EtIs w2
  fr : Fr (· = p) w w2
  sz : w.heap.size + 2 ≤ w2.heap.size
theorem NodeW.kept {row : Option Nat} (h : NodeW w w1 p b a bad lf vI vK vD n) (hg : w1.grownBy w2 row) (hr : ∀ k, row = some k → w.heap.size + 2 ≤ k) (hpw : p < w.heap.size) (hw0 : 1 < w.heap.size) : Kept w w1 w2 p b a bad lf vI vK vD := by
  have hblk : ∀ k, k < w.heap.size + 2 → w2.heap[k]? = w1.heap[k]? := fun k hk => hg.block k (Nat.lt_of_lt_of_le hk h.sz) (fun e => by have := hr k e.symm; omega)
  refine ⟨h.rd.far fun x hx => by rw [hblk p (by omega)]; exact hx, by rw [hblk _ (by omega)]; exact h.nb, by rw [hblk _ (by omega)]; exact h.res, ?_, ?_, Nat.le_trans h.sz hg.size⟩
  · have hl := h.et
    unfold EtIs at hl ⊢
    rw [World.cell?_of_block (w := w1) (a := ⟨1, 0, none⟩) (hblk _ (Nat.lt_of_lt_of_le hw0 (Nat.le_add_right _ _)))]
    exact hl
  · exact ⟨hg.os.trans h.fr.os, hg.tape.trans h.fr.tape, hg.output.trans h.fr.output, Nat.le_trans h.fr.size hg.size, fun k hk hs => (hblk k (by omega)).trans (h.fr.block k hk hs)⟩
end
end Go.Proofs.YtlpdanghcdajmaaDoor
