/- Frames: what a call leaves as it was, but for some blocks. -/
import Derived.WalkKit
import Derived.OneCell
import Derived.Deep.Draws
import Derived.Deep.AppendLies
import Derived.Deep.RegionHeld3
import Derived.Lib.Hide
namespace Go.Proofs.YtdbiebnnogjccaaGreatDoor
open Go.RowKit

/-- But for the blocks of S all that was there is as it was. -/
structure Fr (S : Nat → Prop) (w w' : World) : Prop where
  os : w'.os = w.os
  tape : w'.tape = w.tape
  output : w'.output = w.output
  size : w.heap.size ≤ w'.heap.size
  block : ∀ k, k < w.heap.size → ¬ S k → w'.heap[k]? = w.heap[k]?
theorem Fr.refl (S : Nat → Prop) (w : World) : Fr S w w := ⟨rfl, rfl, rfl, Nat.le_refl _, fun _ _ _ => rfl⟩
theorem Fr.trans {S : Nat → Prop} {a b c : World} (h : Fr S a b) (k : Fr S b c) : Fr S a c :=
  ⟨k.os.trans h.os, k.tape.trans h.tape, k.output.trans h.output, Nat.le_trans h.size k.size, fun i hi hs => (k.block i (Nat.lt_of_lt_of_le hi h.size) hs).trans (h.block i hi hs)⟩
theorem Fr.of_below {S : Nat → Prop} {w w' : World} (h : Below w.heap.size w w') : Fr S w w' := ⟨h.os, h.tape, h.output, h.size, fun k hk _ => h.block k hk⟩
theorem Fr.below {w w' : World} (h : Fr (fun _ => False) w w') : Below w.heap.size w w' := ⟨h.os, h.tape, h.output, h.size, fun k hk => h.block k hk id⟩
theorem Fr.mono {S T : Nat → Prop} {w w' : World} (h : Fr S w w') (hst : ∀ k, S k → T k) : Fr T w w' := ⟨h.os, h.tape, h.output, h.size, fun k hk ht => h.block k hk fun hs => ht (hst k hs)⟩
/-- What lies at or above B, where B was the heap's size when the call began, counts for nothing there. -/
theorem Fr.shrink {S T : Nat → Prop} {w w1 w' : World} (h1 : Fr T w w1) (h : Fr S w1 w') (hst : ∀ k, k < w.heap.size → S k → T k) : Fr T w w' :=
  ⟨h.os.trans h1.os, h.tape.trans h1.tape, h.output.trans h1.output, Nat.le_trans h1.size h.size, fun k hk ht => (h.block k (Nat.lt_of_lt_of_le hk h1.size) fun hs => ht (hst k hk hs)).trans (h1.block k hk ht)⟩
theorem Fr.cell {S : Nat → Prop} {w w' : World} (h : Fr S w w') {b o : Nat} (hb : b < w.heap.size) (hs : ¬ S b) : w'.cell? ⟨b, o, none⟩ = w.cell? ⟨b, o, none⟩ := World.cell?_of_block (w := w) (h.block b hb hs)
theorem Fr.frozen {S : Nat → Prop} {w w' : World} (h : Fr S w w') {b o : Nat} (hb : b < w.heap.size) (hs : ¬ S b) : w'.frozen? ⟨b, o, none⟩ = w.frozen? ⟨b, o, none⟩ := World.frozen?_of_block (w := w) (h.block b hb hs)
theorem Fr.alloc {S : Nat → Prop} {a w : World} (h : Fr S a w) (o : Obj) : Fr S a (w.alloc o) := h.trans (Fr.of_below ((Below.refl _ _).alloc (Nat.le_refl _) _))
theorem Fr.drew {S : Nat → Prop} {a w : World} (h : Fr S a w) : Fr S a w.drew := ⟨h.os, h.tape, h.output, h.size, h.block⟩
theorem Fr.drewN {S : Nat → Prop} {a w : World} (h : Fr S a w) (n : Nat) : Fr S a (w.drewN n) := ⟨h.os, h.tape, h.output, h.size, h.block⟩
theorem Fr.setCell {S : Nat → Prop} {a w : World} (h : Fr S a w) {p : Addr} (hp : S p.block ∨ a.heap.size ≤ p.block) (u : Value) : Fr S a (w.setCell p u) :=
  ⟨h.os, h.tape, h.output, by simpa [World.setCell] using h.size, fun k hk hs => (Below.heap_setCell w p u k (by
    rintro rfl
    rcases hp with hp | hp
    · exact hs hp
    · omega)).trans (h.block k hk hs)⟩
/-- A block whose whole content is known. -/
theorem blk_lt {w : World} {b : Nat} {o : Obj} (h : w.heap[b]? = some o) : b < w.heap.size := (Array.getElem?_eq_some_iff.1 h).1
theorem blk_cell {w : World} {b : Nat} {c : Array Value} {t : TypeId} (h : w.heap[b]? = some (.cells c t (0, 0))) (o : Nat) : w.cell? ⟨b, o, none⟩ = c[o]? := by simp [World.cell?, h]
theorem blk_frozen {w : World} {b : Nat} {c : Array Value} {t : TypeId} (h : w.heap[b]? = some (.cells c t (0, 0))) (o : Nat) : w.frozen? ⟨b, o, none⟩ = false := by simp [World.frozen?, h]
theorem blk_set {w : World} {b : Nat} {c : Array Value} {t : TypeId} (h : w.heap[b]? = some (.cells c t (0, 0))) (o : Nat) (v : Value) : (w.setCell ⟨b, o, none⟩ v).heap[b]? = some (.cells (c.setIfInBounds o v) t (0, 0)) := by
  simp only [World.setCell, Array.getElem?_modify, if_true, h, Option.map_some, Option.isSome_none, Bool.false_eq_true, if_false]
theorem blk_set_far {w : World} {b : Nat} {x : Obj} (h : w.heap[b]? = some x) {a : Addr} (hne : b ≠ a.block) (v : Value) : (w.setCell a v).heap[b]? = some x := by
  rw [Below.heap_setCell _ _ _ _ hne]; exact h
theorem blk_alloc {w : World} {b : Nat} {x o : Obj} (h : w.heap[b]? = some x) : (w.alloc o).heap[b]? = some x := by
  rw [Below.heap_alloc _ _ _ (blk_lt h)]; exact h
theorem blk_new (w : World) (o : Obj) : (w.alloc o).heap[w.heap.size]? = some o := by
  show (w.heap.push o)[w.heap.size]? = _
  simp
theorem blk_fr {S : Nat → Prop} {w w' : World} {b : Nat} {x : Obj} (h : w.heap[b]? = some x) (hf : Fr S w w') (hs : ¬ S b) : w'.heap[b]? = some x := (hf.block b (blk_lt h) hs).trans h
theorem blk_below {w w' : World} {b : Nat} {x : Obj} (h : w.heap[b]? = some x) (hf : Below w.heap.size w w') : w'.heap[b]? = some x := (hf.block b (blk_lt h)).trans h
end Go.Proofs.YtdbiebnnogjccaaGreatDoor

/- Slices of strings in memory; append of a string onto a row that the call owns. -/
namespace Go.Proofs.YtdbiebnnogjccaaGreatDoor
open Go.RowKit
theorem grown_bel {w w' : World} (h : Below w.heap.size w w') : w.grownBy w' none := ⟨h.os, h.tape, h.output, h.size, fun i hi _ => h.block i hi⟩
theorem row_bel {w w' : World} {B : Nat} {e : TypeId} {s n : Nat} {v : Value} {xs : List Value} (h : w.ownsRow B e s v n xs) (hb : Below w.heap.size w w') : w'.ownsRow B e s v n xs := by
  refine h.kept (grown_bel hb) ?_
  cases v.ownBlock with
  | none => exact .inl rfl
  | some k => exact .inr (by simp)
theorem bel_row {a w w' : World} {B : Nat} {e : TypeId} {s n : Nat} {v : Value} {xs : List Value} (hb : Below B a w) (hB : B ≤ w.heap.size) (h : w.ownsRow B e s v n xs) (hg : w.grownBy w' v.ownBlock) : Below B a w' :=
  ⟨hg.os.trans hb.os, hg.tape.trans hb.tape, hg.output.trans hb.output, Nat.le_trans hb.size hg.size, fun k hk => (hg.block k (by omega) (fun e => by have := (h.lt k e.symm).1; omega)).trans (hb.block k hk)⟩
theorem row_cellS {w : World} {base : Nat} {e : TypeId} {n : Nat} {v : Value} {xs : List Value} (h : w.ownsRow base e 1 v n xs) {g c m : Nat} (hv : v = .slice (some ⟨g, 0, none⟩) m c) {j : Nat} {u : Value} (hu : xs[j]? = some u) : w.cell? ⟨g, j, none⟩ = some u := by
  subst hv
  have := h.cells (g := g) rfl j u hu
  have hadd : (⟨g, 0, none⟩ : Addr).add j = ⟨g, j, none⟩ := by unfold Addr.add; split <;> simp_all
  rw [hadd] at this; exact this
/-- The strings lie in memory, a cell each. -/
structure StrsAt (w : World) (b off : Nat) (l : List ByteArray) : Prop where
  lt : l ≠ [] → b < w.heap.size
  at' : ∀ i (h : i < l.length), w.cell? ⟨b, off + i, none⟩ = some (.string l[i])
theorem StrsAt.below {w w' : World} {b off : Nat} {l : List ByteArray} (h : StrsAt w b off l) (hb : Below w.heap.size w w') : StrsAt w' b off l := by
  by_cases hl : l = []
  · subst hl
    exact ⟨fun h => absurd rfl h, fun i h => absurd h (by simp)⟩
  · have hlt := h.lt hl
    exact ⟨fun _ => Nat.lt_of_lt_of_le hlt hb.size, fun i hi => by rw [hb.cell (p := ⟨b, off + i, none⟩) hlt]; exact h.at' i hi⟩
def SlStrs (w : World) (v : Value) (l : List ByteArray) : Prop := (v = .slice none 0 0 ∧ l = []) ∨ ∃ b off cap, v = .slice (some ⟨b, off, none⟩) l.length cap ∧ l.length ≤ cap ∧ StrsAt w b off l
theorem SlStrs.below {w w' : World} {v : Value} {l : List ByteArray} (h : SlStrs w v l) (hb : Below w.heap.size w w') : SlStrs w' v l := by
  rcases h with h | ⟨b, off, cap, e, hc, h⟩
  · exact .inl h
  · exact .inr ⟨b, off, cap, e, hc, h.below hb⟩
theorem SlStrs.form {w : World} {v : Value} {l : List ByteArray} (h : SlStrs w v l) : ∃ p c, v = .slice p l.length c ∧ l.length ≤ c := by
  rcases h with ⟨h, e⟩ | ⟨b, off, cap, e, hc, h⟩
  · subst e; exact ⟨none, 0, h, Nat.le_refl _⟩
  · exact ⟨_, _, e, hc⟩
theorem SlStrs.at {w : World} {p : Option Addr} {c k : Nat} {l : List ByteArray} (h : SlStrs w (.slice p l.length c) l) (hk : k < l.length) : ∃ b off, p = some ⟨b, off, none⟩ ∧ StrsAt w b off l := by
  rcases h with ⟨_, h2⟩ | ⟨b, off, cap, e, _, h⟩
  · subst h2; exact absurd hk (by simp)
  · injection e with e1 e2 e3
    exact ⟨b, off, e1, h⟩
theorem SlStrs.of_own {w : World} {base : Nat} {e : TypeId} {v : Value} {l : List ByteArray} (h : w.ownsRow base e 1 v l.length (l.map Value.string)) : SlStrs w v l := by
  rcases h.2 with ⟨h1, h2⟩ | ⟨g, cap, cur, hv, hb, hg, hn, _⟩
  · exact .inl ⟨h1, List.eq_nil_of_length_eq_zero h2⟩
  · refine .inr ⟨g, 0, cap, hv, hn, ⟨fun _ => blk_lt hg, fun i hi => ?_⟩⟩
    rw [Nat.zero_add]
    exact row_cellS h hv (by rw [List.getElem?_map, List.getElem?_eq_getElem hi]; rfl)
theorem StrsAt.take {w : World} {b off : Nat} {l : List ByteArray} (h : StrsAt w b off l) (k : Nat) : StrsAt w b off (l.take k) :=
  ⟨fun h0 => h.lt (fun e => h0 (by rw [e]; simp)), fun i hi => by rw [List.getElem_take]; exact h.at' i (by rw [List.length_take] at hi; omega)⟩
theorem StrsAt.drop {w : World} {b off : Nat} {l : List ByteArray} (h : StrsAt w b off l) (k : Nat) : StrsAt w b (off + k) (l.drop k) :=
  ⟨fun h0 => h.lt (fun e => h0 (by rw [e]; simp)), fun i hi => by rw [List.getElem_drop, Nat.add_assoc]; exact h.at' (k + i) (by rw [List.length_drop] at hi; omega)⟩
theorem step_append_str {P : Program} {w : World} {ops : Array Oper} {o : Oper} {a : Act} {K : Act → World → Prop} {Q : Exit → Act → World → Prop} {E : Prop} (hgd : o.guard = none) (s x : Operand) (t : TypeId)
    (ho : o.op = .call { callee := .builtin .append, args := #[s, x], argTypes := #[t, t] })
    (e : TypeId) (i : TypeInfo) (z : Value) (ht : P.underlying t = some (.slice e)) (hi : P.info? e = some i) (hz : i.zero = some z) (hsize : i.size = 1) (hby : i.bytes = 16) (hzs : z.cells.size = 1)
    (base : Nat) (v : Value) (l : List ByteArray) (hs : a.eval s = v) (hown : w.ownsRow base e 1 v l.length (l.map Value.string)) (D c : Nat) (y : ByteArray) (hx : a.eval x = .slice (some ⟨D, 0, none⟩) 1 c) (hy : w.cell? ⟨D, 0, none⟩ = some (.string y)) (q : Nat) (hq : l.length = q) (hl : q ≤ 1000000) (hbase : base ≤ w.heap.size)
    (h : ∀ g cap w', w'.ownsRow base e 1 (.slice (some ⟨g, 0, none⟩) (q + 1) cap) (l ++ [y]).length ((l ++ [y]).map Value.string) → w.grownBy w' v.ownBlock → K (a.put o.dst (.slice (some ⟨g, 0, none⟩) (q + 1) cap)) w') :
    if Region.wanted o (yielded ops a.tmps) = true then Oper.wp P o a w K Q else E := by
  subst hq
  refine step_append_lies w hgd s x t ho base e i z 1 16 ht hi hz hsize hby hzs (by decide) v l.length (l.map Value.string) hs hown ⟨D, 0, none⟩ 1 c [.string y] hx rfl (fun j u hu => ?_) (by simp [Value.oneCell']) (by decide) (by simp only [maxLen]; omega) (by omega) hbase _ rfl fun g cap w' h1 h2 _ _ => h g cap w' (by rw [List.length_append, List.map_append]; exact h1) h2
  have hj : j = 0 := by
    have := (List.getElem?_eq_some_iff.1 hu).1
    simpa using this
  subst hj
  simp at hu; subst hu
  have hadd : (⟨D, 0, none⟩ : Addr).add 0 = ⟨D, 0, none⟩ := by unfold Addr.add; split <;> simp_all
  rw [hadd]; exact hy
end Go.Proofs.YtdbiebnnogjccaaGreatDoor
