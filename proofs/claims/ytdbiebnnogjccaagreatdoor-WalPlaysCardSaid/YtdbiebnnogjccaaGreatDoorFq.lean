/- The laid variables of frames and disks together. -/
import Derived.Test.YtdbiebnnogjccaaGreatDoorFf
import Derived.Test.YtdbiebnnogjccaaGreatDoorDc
import Derived.Test.YtdbiebnnogjccaaGreatDoorSl
import Derived.Maps.AppendAt
namespace Go.Proofs.YtdbiebnnogjccaaGreatDoor
open Go.RowKit
/-- The laid variables of both packages. -/
structure HwW (w : World) (a0 a1 a2 aD aA : Addr) : Prop where
  f : FrW w a0 a1 a2
  d : DkW w aD aA
theorem HwW.below {w w' : World} {a0 a1 a2 aD aA : Addr} (h : HwW w a0 a1 a2 aD aA) (hb : Below w.heap.size w w') : HwW w' a0 a1 a2 aD aA := ⟨h.f.below hb, h.d.below hb⟩
end Go.Proofs.YtdbiebnnogjccaaGreatDoor

/- Append of strings onto a row that the call owns: a step of a region that draws its order. -/
namespace Go.Proofs.YtdbiebnnogjccaaGreatDoor
open Go.RowKit
theorem bal {B : Nat} {a W : World} (h : Below B a W ∧ B ≤ W.heap.size) (o : Obj) : Below B a (W.alloc o) ∧ B ≤ (W.alloc o).heap.size := ⟨h.1.alloc h.2 o, by simp; omega⟩
theorem bdr {B : Nat} {a W : World} (h : Below B a W ∧ B ≤ W.heap.size) : Below B a W.drew ∧ B ≤ W.drew.heap.size := ⟨⟨h.1.os, h.1.tape, h.1.output, h.1.size, h.1.block⟩, h.2⟩
theorem bbl {B : Nat} {a W X : World} (h : Below B a W ∧ B ≤ W.heap.size) (k : Below W.heap.size W X) : Below B a X ∧ B ≤ X.heap.size := ⟨h.1.trans (k.mono h.2), Nat.le_trans h.2 k.size⟩
theorem kA {W : World} {k : Nat} {v : Option Obj} (h : W.heap[k]? = v) (hk : k < W.heap.size) (o : Obj) : (W.alloc o).heap[k]? = v := by rw [Below.heap_alloc _ _ _ hk]; exact h
theorem kD {W : World} {k : Nat} {v : Option Obj} (h : W.heap[k]? = v) : W.drew.heap[k]? = v := h
theorem kN {W : World} {k : Nat} (o : Obj) (hk : k = W.heap.size) : (W.alloc o).heap[k]? = some o := by rw [hk]; exact blk_new _ _
theorem kG {W X : World} {k : Nat} {v : Option Obj} {row : Option Nat} (hg : W.grownBy X row) (h : W.heap[k]? = v) (hk : k < W.heap.size) (hne : some k ≠ row) : X.heap[k]? = v := (hg.block k hk hne).trans h
theorem kG1 {W X : World} {k r : Nat} {v : Option Obj} (hg : W.grownBy X (some r)) (h : W.heap[k]? = v) (hk : k < W.heap.size) (hne : k ≠ r) : X.heap[k]? = v := kG hg h hk (fun e => hne (by injection e))
theorem bgr {B : Nat} {a W X : World} {G : Nat} (h : Below B a W ∧ B ≤ W.heap.size) (hg : W.grownBy X (some G)) (hG : B ≤ G) : Below B a X ∧ B ≤ X.heap.size :=
  ⟨⟨hg.os.trans h.1.os, hg.tape.trans h.1.tape, hg.output.trans h.1.output, Nat.le_trans h.1.size hg.size, fun k hk => (hg.block k (by omega) (fun e => by simp at e; omega)).trans (h.1.block k hk)⟩, Nat.le_trans h.2 hg.size⟩
theorem bel2 (a : World) {W : World} {B : Nat} (h : Below B a W ∧ B ≤ W.heap.size) : B ≤ W.heap.size := h.2
theorem row_kA {W : World} {B : Nat} {e : TypeId} {s n : Nat} {v : Value} {xs : List Value} (h : W.ownsRow B e s v n xs) (o : Obj) : (W.alloc o).ownsRow B e s v n xs := h.alloc o
theorem row_s0 {W : World} {B G : Nat} {e : TypeId} (hB : B ≤ G) (h : W.heap[G]? = some (.cells #[] e (0, 0))) : W.ownsRow B e 1 (.slice (some ⟨G, 0, none⟩) 0 0) 0 (([] : List ByteArray).map Value.string) :=
  ⟨rfl, .inr ⟨G, 0, #[], rfl, hB, h, Nat.le_refl _, Nat.zero_le _, rfl, rfl⟩⟩
theorem strs_two {W : World} {D : Nat} {x y : ByteArray} {e : TypeId} (h : W.heap[D]? = some (.cells #[.string x, .string y] e (0, 0))) : SlStrs W (.slice (some ⟨D, 0, none⟩) 2 2) [x, y] := by
  refine .inr ⟨D, 0, 2, rfl, Nat.le_refl _, ⟨fun _ => blk_lt h, fun i hi => ?_⟩⟩
  have h0 : i = 0 ∨ i = 1 := by simp at hi; omega
  rcases h0 with rfl | rfl <;> (rw [blk_cell h]; simp)
theorem strs_news {w : World} {b off : Nat} {l : List ByteArray} (h : StrsAt w b off l) : ∀ j u, (l.map Value.string)[j]? = some u → w.cell? ((⟨b, off, none⟩ : Addr).add j) = some u := by
  intro j u hu
  have hadd : (⟨b, off, none⟩ : Addr).add j = ⟨b, off + j, none⟩ := by unfold Addr.add; split <;> simp_all
  rw [hadd]
  rw [List.getElem?_map] at hu
  have hj : j < l.length := by
    have := (List.getElem?_eq_some_iff.1 (by rw [← List.getElem?_map] at hu; exact hu)).1
    simpa using this
  rw [List.getElem?_eq_getElem hj] at hu
  simp at hu; subst hu
  exact h.at' j hj
theorem run_append_strs {P : Program} (w : World) (t ty e : TypeId) (i : TypeInfo) (z : Value) (ht : P.underlying t = some (.slice e)) (hi : P.info? e = some i) (hz : i.zero = some z) (hsize : i.size = 1) (hby : i.bytes = 16) (hzs : z.cells.size = 1)
    (base G n c0 : Nat) (l0 : List ByteArray) (hown : w.ownsRow base e 1 (.slice (some ⟨G, 0, none⟩) n c0) n (l0.map Value.string)) (sv : Value) (l1 : List ByteArray) (hsrc : SlStrs w sv l1) (b1 : n ≤ 65536) (b2 : l1.length ≤ 65536) (hbase : base ≤ w.heap.size) :
    ∃ g c w', (Builtin.append_ #[t, t] ty #[.slice (some ⟨G, 0, none⟩) n c0, sv]).run P w = .ok (.slice (some ⟨g, 0, none⟩) (n + l1.length) c) w' ∧ w'.ownsRow base e 1 (.slice (some ⟨g, 0, none⟩) (n + l1.length) c) (n + l1.length) ((l0 ++ l1).map Value.string) ∧ w.grownBy w' (some G) ∧ (g = G ∨ g = w.heap.size) := by
  rcases hsrc with ⟨rfl, rfl⟩ | ⟨b, off, cap, rfl, _, hat⟩
  · refine ⟨G, c0, w, ?_, by simpa using hown, ⟨rfl, rfl, rfl, Nat.le_refl _, fun _ _ _ => rfl⟩, .inl rfl⟩
    simpa using run_append_owned_none (P := P) w base t ty e i 1 ht hi _ n (l0.map Value.string) hown
  · obtain ⟨v', w', hr, h2, h3, h4, h5⟩ := run_append_own_at (P := P) w base t ty e i z 1 16 ht hi hz hsize hby hzs (by decide) _ n (l0.map Value.string) hown ⟨b, off, none⟩ l1.length cap (l1.map Value.string) (by simp) (strs_news hat)
      (fun u hu => by rw [List.mem_map] at hu; obtain ⟨x, _, rfl⟩ := hu; rfl) (by simp only [maxLen]; omega) (by omega) hbase
    rcases h2.2 with ⟨h6, _⟩ | ⟨g, c, cur, h6, _⟩
    · rw [h4] at h6; exact absurd h6.1 (by simp)
    · subst h6
      refine ⟨g, c, w', hr, ?_, h3, ?_⟩
      · rw [List.map_append]; exact h2
      · rcases h5 with h5 | h5
        · left; simpa [Value.ownBlock] using h5
        · right; simpa [Value.ownBlock] using h5
theorem step_append_strs {P : Program} {w : World} {ops : Array Oper} {o : Oper} {a : Act} {K : Act → World → Prop} {Q : Exit → Act → World → Prop} {E : Prop} (hgd : o.guard = none) (s x : Operand) (t : TypeId)
    (ho : o.op = .call { callee := .builtin .append, args := #[s, x], argTypes := #[t, t] })
    (e : TypeId) (i : TypeInfo) (z : Value) (ht : P.underlying t = some (.slice e)) (hi : P.info? e = some i) (hz : i.zero = some z) (hsize : i.size = 1) (hby : i.bytes = 16) (hzs : z.cells.size = 1)
    (base G n c0 : Nat) (l0 : List ByteArray) (hs : a.eval s = .slice (some ⟨G, 0, none⟩) n c0) (hown : w.ownsRow base e 1 (.slice (some ⟨G, 0, none⟩) n c0) n (l0.map Value.string)) (sv : Value) (hx : a.eval x = sv) (l1 : List ByteArray) (hsrc : SlStrs w sv l1) (b1 : n ≤ 65536) (b2 : l1.length ≤ 65536) (hbase : base ≤ w.heap.size)
    (m : Nat) (hm : m = n + l1.length) (l : List ByteArray) (hl : l = l0 ++ l1)
    (h : ∀ g c w', w'.ownsRow base e 1 (.slice (some ⟨g, 0, none⟩) m c) m (l.map Value.string) → w.grownBy w' (some G) → (g = G ∨ g = w.heap.size) → K (a.put o.dst (.slice (some ⟨g, 0, none⟩) m c)) w') :
    if Region.wanted o (yielded ops a.tmps) = true then Oper.wp P o a w K Q else E := by
  have hw : Region.wanted o (yielded ops a.tmps) = true := by simp [Region.wanted, hgd]
  rw [if_pos hw]
  obtain ⟨g, c, w', hr, h2, h3, h4⟩ := run_append_strs (P := P) w t o.type e i z ht hi hz hsize hby hzs base G n c0 l0 hown sv l1 hsrc b1 b2 hbase
  subst hm hl
  unfold Oper.wp execOp
  simp only [ho, resolve, invoke, builtin, Sem.run_bind, Sem.run_pure, Result.andThen_ok, List.map_toArray, List.map_cons, List.map_nil, hs, hx, hr]
  exact h g c w' h2 h3 h4
theorem wpList_append_strs {P : Program} {w : World} {ops : Array Oper} {rest : List Oper} {o : Oper} {a : Act} {Q : Exit → Act → World → Prop} (hgd : o.guard = none) (s x : Operand) (t : TypeId)
    (ho : o.op = .call { callee := .builtin .append, args := #[s, x], argTypes := #[t, t] })
    (e : TypeId) (i : TypeInfo) (z : Value) (ht : P.underlying t = some (.slice e)) (hi : P.info? e = some i) (hz : i.zero = some z) (hsize : i.size = 1) (hby : i.bytes = 16) (hzs : z.cells.size = 1)
    (base G n c0 : Nat) (l0 : List ByteArray) (hs : a.eval s = .slice (some ⟨G, 0, none⟩) n c0) (hown : w.ownsRow base e 1 (.slice (some ⟨G, 0, none⟩) n c0) n (l0.map Value.string)) (sv : Value) (hx : a.eval x = sv) (l1 : List ByteArray) (hsrc : SlStrs w sv l1) (b1 : n ≤ 65536) (b2 : l1.length ≤ 65536) (hbase : base ≤ w.heap.size)
    (m : Nat) (hm : m = n + l1.length) (l : List ByteArray) (hl : l = l0 ++ l1)
    (h : ∀ g c w', w'.ownsRow base e 1 (.slice (some ⟨g, 0, none⟩) m c) m (l.map Value.string) → w.grownBy w' (some G) → (g = G ∨ g = w.heap.size) → wpList P ops Q rest (a.put o.dst (.slice (some ⟨g, 0, none⟩) m c)) w') :
    wpList P ops Q (o :: rest) a w := by
  refine wpList_plain hgd fun K hK => ?_
  obtain ⟨g, c, w', hr, h2, h3, h4⟩ := run_append_strs (P := P) w t o.type e i z ht hi hz hsize hby hzs base G n c0 l0 hown sv l1 hsrc b1 b2 hbase
  subst hm hl
  unfold Oper.wp execOp
  simp only [ho, resolve, invoke, builtin, Sem.run_bind, Sem.run_pure, Result.andThen_ok, List.map_toArray, List.map_cons, List.map_nil, hs, hx, hr]
  exact hK _ _ (h g c w' h2 h3 h4)
end Go.Proofs.YtdbiebnnogjccaaGreatDoor
