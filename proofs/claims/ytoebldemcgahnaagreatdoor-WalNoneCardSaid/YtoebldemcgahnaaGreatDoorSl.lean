/- Slices of strings in memory; append of a string onto a row that the call owns. -/
import Derived.Test.YtoebldemcgahnaaGreatDoorFr
import Derived.Deep.AppendLies
import Derived.Deep.RegionHeld3
import Derived.Lib.Hide
namespace Go.Proofs.YtoebldemcgahnaaGreatDoor
open Go.RowKit
theorem grown_bel {w w' : World} (h : Below w.heap.size w w') : w.grownBy w' none := ⟨h.os, h.tape, h.output, h.size, fun i hi _ => h.block i hi⟩
theorem row_bel {w w' : World} {B : Nat} {e : TypeId} {s n : Nat} {v : Value} {xs : List Value} (h : w.ownsRow B e s v n xs) (hb : Below w.heap.size w w') : w'.ownsRow B e s v n xs := by
  refine h.kept (grown_bel hb) ?_
  cases v.ownBlock with
  | none => exact .inl rfl
  | some k => exact .inr (by simp)
theorem bel_row {a w w' : World} {B : Nat} {e : TypeId} {s n : Nat} {v : Value} {xs : List Value} (hb : Below B a w) (hB : B ≤ w.heap.size) (h : w.ownsRow B e s v n xs) (hg : w.grownBy w' v.ownBlock) : Below B a w' :=
  ⟨hg.os.trans hb.os, hg.tape.trans hb.tape, hg.output.trans hb.output, Nat.le_trans hb.size hg.size, fun k hk => (hg.block k (by omega) (fun e => by have := (h.lt k e.symm).1; omega)).trans (hb.block k hk)⟩
theorem row_cellS {w : World} {base : Nat} {e : TypeId} {n : Nat} {v : Value} {xs : List Value} (h : w.ownsRow base e 1 v n xs) {g c m : Nat} (hv : v = .slice (some ⟨g, 0, none⟩) m c) {j : Nat} {u : Value} (hu : xs[j]? = some u) : w.cell? ⟨g, j, none⟩ = some u := by
  subst hv
  have := h.cells (g := g) rfl j u hu
  have hadd : (⟨g, 0, none⟩ : Addr).add j = ⟨g, j, none⟩ := by unfold Addr.add; split <;> simp_all
  rw [hadd] at this; exact this
/-- The strings lie in memory, a cell each. -/
structure StrsAt (w : World) (b off : Nat) (l : List ByteArray) : Prop where
  lt : l ≠ [] → b < w.heap.size
  at' : ∀ i (h : i < l.length), w.cell? ⟨b, off + i, none⟩ = some (.string l[i])
theorem StrsAt.below {w w' : World} {b off : Nat} {l : List ByteArray} (h : StrsAt w b off l) (hb : Below w.heap.size w w') : StrsAt w' b off l := by
  by_cases hl : l = []
  · subst hl
    exact ⟨fun h => absurd rfl h, fun i h => absurd h (by simp)⟩
  · have hlt := h.lt hl
    exact ⟨fun _ => Nat.lt_of_lt_of_le hlt hb.size, fun i hi => by rw [hb.cell (p := ⟨b, off + i, none⟩) hlt]; exact h.at' i hi⟩
def SlStrs (w : World) (v : Value) (l : List ByteArray) : Prop := (v = .slice none 0 0 ∧ l = []) ∨ ∃ b off cap, v = .slice (some ⟨b, off, none⟩) l.length cap ∧ l.length ≤ cap ∧ StrsAt w b off l
theorem SlStrs.below {w w' : World} {v : Value} {l : List ByteArray} (h : SlStrs w v l) (hb : Below w.heap.size w w') : SlStrs w' v l := by
  rcases h with h | ⟨b, off, cap, e, hc, h⟩
  · exact .inl h
  · exact .inr ⟨b, off, cap, e, hc, h.below hb⟩
theorem SlStrs.form {w : World} {v : Value} {l : List ByteArray} (h : SlStrs w v l) : ∃ p c, v = .slice p l.length c ∧ l.length ≤ c := by
  rcases h with ⟨h, e⟩ | ⟨b, off, cap, e, hc, h⟩
  · subst e; exact ⟨none, 0, h, Nat.le_refl _⟩
  · exact ⟨_, _, e, hc⟩
theorem SlStrs.at {w : World} {p : Option Addr} {c k : Nat} {l : List ByteArray} (h : SlStrs w (.slice p l.length c) l) (hk : k < l.length) : ∃ b off, p = some ⟨b, off, none⟩ ∧ StrsAt w b off l := by
  rcases h with ⟨_, h2⟩ | ⟨b, off, cap, e, _, h⟩
  · subst h2; exact absurd hk (by simp)
  · injection e with e1 e2 e3
    exact ⟨b, off, e1, h⟩
theorem SlStrs.of_own {w : World} {base : Nat} {e : TypeId} {v : Value} {l : List ByteArray} (h : w.ownsRow base e 1 v l.length (l.map Value.string)) : SlStrs w v l := by
  rcases h.2 with ⟨h1, h2⟩ | ⟨g, cap, cur, hv, hb, hg, hn, _⟩
  · exact .inl ⟨h1, List.eq_nil_of_length_eq_zero h2⟩
  · refine .inr ⟨g, 0, cap, hv, hn, ⟨fun _ => blk_lt hg, fun i hi => ?_⟩⟩
    rw [Nat.zero_add]
    exact row_cellS h hv (by rw [List.getElem?_map, List.getElem?_eq_getElem hi]; rfl)
theorem StrsAt.take {w : World} {b off : Nat} {l : List ByteArray} (h : StrsAt w b off l) (k : Nat) : StrsAt w b off (l.take k) :=
  ⟨fun h0 => h.lt (fun e => h0 (by rw [e]; simp)), fun i hi => by rw [List.getElem_take]; exact h.at' i (by rw [List.length_take] at hi; omega)⟩
theorem StrsAt.drop {w : World} {b off : Nat} {l : List ByteArray} (h : StrsAt w b off l) (k : Nat) : StrsAt w b (off + k) (l.drop k) :=
  ⟨fun h0 => h.lt (fun e => h0 (by rw [e]; simp)), fun i hi => by rw [List.getElem_drop, Nat.add_assoc]; exact h.at' (k + i) (by rw [List.length_drop] at hi; omega)⟩
theorem step_append_str {P : Program} {w : World} {ops : Array Oper} {o : Oper} {a : Act} {K : Act → World → Prop} {Q : Exit → Act → World → Prop} {E : Prop} (hgd : o.guard = none) (s x : Operand) (t : TypeId)
    (ho : o.op = .call { callee := .builtin .append, args := #[s, x], argTypes := #[t, t] })
    (e : TypeId) (i : TypeInfo) (z : Value) (ht : P.underlying t = some (.slice e)) (hi : P.info? e = some i) (hz : i.zero = some z) (hsize : i.size = 1) (hby : i.bytes = 16) (hzs : z.cells.size = 1)
    (base : Nat) (v : Value) (l : List ByteArray) (hs : a.eval s = v) (hown : w.ownsRow base e 1 v l.length (l.map Value.string)) (D c : Nat) (y : ByteArray) (hx : a.eval x = .slice (some ⟨D, 0, none⟩) 1 c) (hy : w.cell? ⟨D, 0, none⟩ = some (.string y)) (q : Nat) (hq : l.length = q) (hl : q ≤ 1000000) (hbase : base ≤ w.heap.size)
    (h : ∀ g cap w', w'.ownsRow base e 1 (.slice (some ⟨g, 0, none⟩) (q + 1) cap) (l ++ [y]).length ((l ++ [y]).map Value.string) → w.grownBy w' v.ownBlock → K (a.put o.dst (.slice (some ⟨g, 0, none⟩) (q + 1) cap)) w') :
    if Region.wanted o (yielded ops a.tmps) = true then Oper.wp P o a w K Q else E := by
  subst hq
  refine step_append_lies w hgd s x t ho base e i z 1 16 ht hi hz hsize hby hzs (by decide) v l.length (l.map Value.string) hs hown ⟨D, 0, none⟩ 1 c [.string y] hx rfl (fun j u hu => ?_) (by simp [Value.oneCell']) (by decide) (by simp only [maxLen]; omega) (by omega) hbase _ rfl fun g cap w' h1 h2 _ _ => h g cap w' (by rw [List.length_append, List.map_append]; exact h1) h2
  have hj : j = 0 := by
    have := (List.getElem?_eq_some_iff.1 hu).1
    simpa using this
  subst hj
  simp at hu; subst hu
  have hadd : (⟨D, 0, none⟩ : Addr).add 0 = ⟨D, 0, none⟩ := by unfold Addr.add; split <;> simp_all
  rw [hadd]; exact hy
end Go.Proofs.YtoebldemcgahnaaGreatDoor
