/- Layer 23: what the reference's Decode holds. -/
import Derived.Test.YtlpdanghcdajmaaDoorOl
import Derived.Test.YtlpdanghcdajmaaDoorNzb
import Derived.Test.YtlpdanghcdajmaaDoorOb
namespace Go.Proofs.YtlpdanghcdajmaaDoor
open Go.RowKit
structure RefW (w w1 : World) (q : Nat) (b : ByteArray) (a : Int) (bad : Bool) (lf : Bool) (vI vK vD : Value) (n : Nd) : Prop where
  rd : IsRr w1 (w.heap.size + 1) b a bad
  nb : w1.heap[q]? = some (.cells #[.bool lf, vI, vK, vD] 77 (0, 0))
  res : w1.heap[w.heap.size]? = some (.cells #[.bool false, .slice none 0 0, .slice none 0 0, .slice none 0 0] 77 (0, 0))
  oI : w1.ownsRow (q + 1) 128 4 vI n.I.length (itCells n.I)
  oK : w1.ownsRow (q + 1) 22 1 vK n.K.length (n.K.map (Value.int .u32))
  oD : w1.ownsRow (q + 1) 3 1 vD n.D.length (n.D.map (Value.int .i64))
  bel : Below w.heap.size w w1
  sz : q + 1 ≤ w1.heap.size
  qq : w.heap.size + 1 < q
section
variable {w w1 w2 : World} {q : Nat} {b : ByteArray} {a a' : Int} {bad bad' lf : Bool} {vI vK vD : Value} {n : Nd}
theorem RefW.drew (h : RefW w w1 q b a bad lf vI vK vD n) : RefW w w1.drew q b a bad lf vI vK vD n :=
  ⟨h.rd, h.nb, h.res, h.oI, h.oK, h.oD, ⟨h.bel.os, h.bel.tape, h.bel.output, h.bel.size, h.bel.block⟩, h.sz, h.qq⟩
theorem RefW.call (h : RefW w w1 q b a bad lf vI vK vD n) (hp : IsRr w2 (w.heap.size + 1) b a' bad') (hf : Fr (· = w.heap.size + 1) w1 w2) : RefW w w2 q b a' bad' lf vI vK vD n := by
  have := h.qq
  exact ⟨hp, blk_fr h.nb hf (by omega), blk_fr h.res hf (by omega), row_fr h.oI hf (by omega), row_fr h.oK hf (by omega), row_fr h.oD hf (by omega), Below.fr h.bel hf (by omega) h.bel.size, Nat.le_trans h.sz hf.size, h.qq⟩
theorem RefW.alloc (h : RefW w w1 q b a bad lf vI vK vD n) (o : Obj) : RefW w (w1.alloc o) q b a bad lf vI vK vD n :=
  ⟨blk_alloc h.rd, blk_alloc h.nb, blk_alloc h.res, h.oI.alloc _, h.oK.alloc _, h.oD.alloc _, h.bel.alloc h.bel.size _, by simp; have := h.sz; omega, h.qq⟩
structure KeptR (w w1 w2 : World) (q : Nat) (b : ByteArray) (a : Int) (bad lf : Bool) (vI vK vD : Value) : Prop where
  rd : IsRr w2 (w.heap.size + 1) b a bad
  nb : w2.heap[q]? = some (.cells #[.bool lf, vI, vK, vD] 77 (0, 0))
  res : w2.heap[w.heap.size]? = some (.cells #[.bool false, .slice none 0 0, .slice none 0 0, .slice none 0 0] 77 (0, 0))
  bel : Below w.heap.size w w2
  sz : q + 1 ≤ w2.heap.size
theorem RefW.kept {row : Option Nat} (h : RefW w w1 q b a bad lf vI vK vD n) (hg : w1.grownBy w2 row) (hr : ∀ k, row = some k → q + 1 ≤ k) : KeptR w w1 w2 q b a bad lf vI vK vD := by
  have hq := h.qq
  have hblk : ∀ k, k < q + 1 → w2.heap[k]? = w1.heap[k]? := fun k hk => hg.block k (Nat.lt_of_lt_of_le hk h.sz) (fun e => by have := hr k e.symm; omega)
  exact ⟨by unfold IsRr; rw [hblk _ (by omega)]; exact h.rd, by rw [hblk _ (by omega)]; exact h.nb, by rw [hblk _ (by omega)]; exact h.res,
    ⟨hg.os.trans h.bel.os, hg.tape.trans h.bel.tape, hg.output.trans h.bel.output, Nat.le_trans h.bel.size hg.size, fun k hk => (hblk k (by omega)).trans (h.bel.block k hk)⟩, Nat.le_trans h.sz hg.size⟩
/-- The node's block is written to. -/
theorem RefW.leaf (h : RefW w w1 q b a bad false vI vK vD n) : RefW w (w1.setCell ⟨q, 0, none⟩ (.bool true)) q b a bad true vI vK vD ⟨true, n.I, n.K, n.D⟩ := by
  have hq := h.qq
  refine ⟨blk_set_far h.rd (by simp; omega) _, ?_, blk_set_far h.res (by simp; omega) _, row_set h.oI (by omega) _ _, row_set h.oK (by omega) _ _, row_set h.oD (by omega) _ _, h.bel.setCell (p := ⟨q, 0, none⟩) (by show w.heap.size ≤ q; omega) _, by simpa [World.setCell] using h.sz, hq⟩
  have := blk_set h.nb 0 (.bool true); simpa using this
theorem RefW.appI (h : RefW w w1 q b a bad lf vI vK vD n) {v : Value} {x : It}
    (hown : w2.ownsRow (q + 1) 128 4 v (n.I.length + 1) (itCells n.I ++ itCells [x])) (hg : w1.grownBy w2 vI.ownBlock) :
    RefW w (w2.setCell ⟨q, 1, none⟩ v) q b a bad lf v vK vD ⟨n.lf, n.I ++ [x], n.K, n.D⟩ := by
  have k := h.kept hg (fun k hk => (h.oI.lt k hk).1)
  have hq := h.qq
  refine ⟨blk_set_far k.rd (by simp; omega) _, ?_, blk_set_far k.res (by simp; omega) _, ?_, row_set (h.oK.kept hg ?_) (by omega) _ _, row_set (h.oD.kept hg ?_) (by omega) _ _, k.bel.setCell (p := ⟨q, 1, none⟩) (by show w.heap.size ≤ q; omega) _, by simpa [World.setCell] using k.sz, hq⟩
  · have := blk_set k.nb 1 v; simpa using this
  · have := row_set hown (q := q) (by omega) 1 v
    simpa [itCells_append] using this
  · exact row_ne h.oK h.oI (by decide)
  · exact row_ne h.oD h.oI (by decide)
theorem RefW.appK (h : RefW w w1 q b a bad lf vI vK vD n) {v : Value} {x : Int}
    (hown : w2.ownsRow (q + 1) 22 1 v (n.K.length + 1) (n.K.map (Value.int .u32) ++ [.int .u32 x])) (hg : w1.grownBy w2 vK.ownBlock) :
    RefW w (w2.setCell ⟨q, 2, none⟩ v) q b a bad lf vI v vD ⟨n.lf, n.I, n.K ++ [x], n.D⟩ := by
  have k := h.kept hg (fun k hk => (h.oK.lt k hk).1)
  have hq := h.qq
  refine ⟨blk_set_far k.rd (by simp; omega) _, ?_, blk_set_far k.res (by simp; omega) _, row_set (h.oI.kept hg ?_) (by omega) _ _, ?_, row_set (h.oD.kept hg ?_) (by omega) _ _, k.bel.setCell (p := ⟨q, 2, none⟩) (by show w.heap.size ≤ q; omega) _, by simpa [World.setCell] using k.sz, hq⟩
  · have := blk_set k.nb 2 v; simpa using this
  · exact row_ne h.oI h.oK (by decide)
  · have := row_set hown (q := q) (by omega) 2 v
    simpa using this
  · exact row_ne h.oD h.oK (by decide)
theorem RefW.appD (h : RefW w w1 q b a bad lf vI vK vD n) {v : Value} {x : Int}
    (hown : w2.ownsRow (q + 1) 3 1 v (n.D.length + 1) (n.D.map (Value.int .i64) ++ [.int .i64 x])) (hg : w1.grownBy w2 vD.ownBlock) :
    RefW w (w2.setCell ⟨q, 3, none⟩ v) q b a bad lf vI vK v ⟨n.lf, n.I, n.K, n.D ++ [x]⟩ := by
  have k := h.kept hg (fun k hk => (h.oD.lt k hk).1)
  have hq := h.qq
  refine ⟨blk_set_far k.rd (by simp; omega) _, ?_, blk_set_far k.res (by simp; omega) _, row_set (h.oI.kept hg ?_) (by omega) _ _, row_set (h.oK.kept hg ?_) (by omega) _ _, ?_, k.bel.setCell (p := ⟨q, 3, none⟩) (by show w.heap.size ≤ q; omega) _, by simpa [World.setCell] using k.sz, hq⟩
  · have := blk_set k.nb 3 v; simpa using this
  · exact row_ne h.oI h.oD (by decide)
  · exact row_ne h.oK h.oD (by decide)
  · have := row_set hown (q := q) (by omega) 3 v
    simpa using this
/-- The node as it lies there. -/
theorem RefW.nd (h : RefW w w1 q b a bad lf vI vK vD n) (l1 : n.I.length ≤ 255) (l2 : n.K.length ≤ 255) (l3 : n.D.length ≤ 256) : NdAt w1 vI vK vD n :=
  ⟨SlItems.of_ownR h.oI, SlInts.of_own h.oK, SlInts.of_own h.oD, by omega, by omega, by omega⟩
/-- Written into the result. -/
theorem RefW.ndSet (h : RefW w w1 q b a bad lf vI vK vD n) (hb : Below w1.heap.size w1 w2) (l1 : n.I.length ≤ 255) (l2 : n.K.length ≤ 255) (l3 : n.D.length ≤ 256) (v0 v1 v2 v3 : Value) : NdAt (set4 w2 w.heap.size v0 v1 v2 v3) vI vK vD n := by
  have hq := h.qq
  have hrow : ∀ {e : TypeId} {s m : Nat} {v : Value} {xs : List Value}, w1.ownsRow (q + 1) e s v m xs → (set4 w2 w.heap.size v0 v1 v2 v3).ownsRow (q + 1) e s v m xs := by
    intro e s m v xs ho
    have h2 : w2.ownsRow (q + 1) e s v m xs := ho.kept (row := none) ⟨hb.os, hb.tape, hb.output, hb.size, fun k hk _ => hb.block k hk⟩ (by cases hx : v.ownBlock <;> simp)
    unfold set4
    exact row_set (row_set (row_set (row_set h2 (by omega) 0 _) (by omega) 1 _) (by omega) 2 _) (by omega) 3 _
  exact ⟨SlItems.of_ownR (hrow h.oI), SlInts.of_own (hrow h.oK), SlInts.of_own (hrow h.oD), by omega, by omega, by omega⟩
end
end Go.Proofs.YtlpdanghcdajmaaDoor
