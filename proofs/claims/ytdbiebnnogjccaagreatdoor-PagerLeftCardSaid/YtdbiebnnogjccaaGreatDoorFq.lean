/- The log (layer 21): plain words: what an opening reads, what an appending writes. -/
import Derived.Test.YtdbiebnnogjccaaGreatDoorHa
import Derived.Test.YtdbiebnnogjccaaGreatDoorFi
import Derived.Test.YtdbiebnnogjccaaGreatDoorFl
import Derived.Test.YtdbiebnnogjccaaGreatDoorDk
import Derived.Test.YtdbiebnnogjccaaGreatDoorCp
import Derived.Maps.AppendAt
namespace Go.Proofs.YtdbiebnnogjccaaGreatDoor
/-- A log: its records, the next number, how many sectors are used, whether a write failed. -/
structure Wl where
  recs : List ByteArray
  next : Int
  used : Nat
  dead : Bool
/-- The number with which a sector begins, and the one with which it ends. -/
def endA (b : ByteArray) : Int := valLE (b.data.toList.take 4)
def endB (b : ByteArray) : Int := valLE (b.data.toList.drop 252)
def upN (m n : Int) : Int := if n ≤ 2147483648 then max m (n + 1) else m
def upB (m : Int) (b : ByteArray) : Int := upN (upN m (endA b)) (endB b)
def nextW (first : Int) (L : List ByteArray) : Int := L.foldl upB first
/-- The records with which sectors begin, of rising numbers. -/
noncomputable def scanW (L : List ByteArray) : Nat → Int → Nat → List ByteArray × Nat
  | 0, _, used => ([], used)
  | f + 1, least, used => match readF (LL (L.drop used)) with
    | none => ([], used)
    | some (s, n, k) => if n < least ∨ 2147483648 < n then ([], used) else (ofL s :: (scanW L f (n + 1) (used + k)).1, (scanW L f (n + 1) (used + k)).2)
def Dk.logs (d : Dk) : Nat := (layN d.n).1.2.1.toNat
def Dk.secs (d : Dk) : List ByteArray := (List.range d.logs).map fun (i : Nat) => d.tell (2 + (i : Int))
noncomputable def Dk.openW (d : Dk) (first : Int) : Option Wl × Int :=
  if first = 0 then (none, 1)
  else if (layN d.n).2 ≠ 0 then (none, (layN d.n).2)
  else if d.dead = true then (none, 74)
  else if 2147483648 < nextW first d.secs then (none, 73)
  else (some ⟨(scanW d.secs d.logs first 0).1, nextW first d.secs, (scanW d.secs d.logs first 0).2, false⟩, 0)
/-- Sectors are written, one behind the other. -/
def Dk.writes (d : Dk) (i : Int) : List ByteArray → Dk × Int
  | [] => (d, 0)
  | s :: L => if (d.write i s).2 ≠ 0 then d.write i s else (d.write i s).1.writes (i + 1) L
/-- What is appended. -/
def Wl.may (x : Wl) (logs : Nat) (s : ByteArray) : Int :=
  if x.dead = true then 74 else if 2000 < s.size then 2 else if (logs : Int) - x.used < sizeF s.size ∨ 2147483648 < x.next then 73 else 0
noncomputable def Dk.append (d : Dk) (x : Wl) (logs : Nat) (s : ByteArray) : Dk × Wl × Int :=
  if x.may logs s ≠ 0 then (d, x, x.may logs s)
  else
    let r := d.writes (2 + (x.used : Int)) ((secsF x.next s.data.toList).map ofL)
    if r.2 ≠ 0 then (r.1, { x with dead := true }, r.2)
    else (r.1, ⟨x.recs ++ [s], x.next + 1, x.used + szN s.size, false⟩, 0)
def Dk.sync (d : Dk) (x : Wl) : Dk × Wl × Int :=
  if x.dead = true then (d, x, 74) else (d.flush.1, { x with dead := decide (d.flush.2 ≠ 0) }, d.flush.2)
theorem upN_ge (m n : Int) : m ≤ upN m n := by unfold upN; split <;> omega
theorem upB_ge (m : Int) (b : ByteArray) : m ≤ upB m b := Int.le_trans (upN_ge _ _) (upN_ge _ _)
theorem nextW_ge : ∀ (L : List ByteArray) (m : Int), m ≤ nextW m L
  | [], m => Int.le_refl _
  | b :: L, m => by
    show m ≤ nextW (upB m b) L
    exact Int.le_trans (upB_ge m b) (nextW_ge L _)
theorem nextW_append (m : Int) (L : List ByteArray) (b : ByteArray) : nextW m (L ++ [b]) = upB (nextW m L) b := by
  unfold nextW; rw [List.foldl_append]; rfl
theorem upN_lt {m n : Int} (h : m < 4294967297) (_hn : n < 4294967296) : upN m n < 4294967297 := by unfold upN; split <;> omega
theorem upB_lt {m : Int} {b : ByteArray} (h : m < 4294967297) (h1 : endA b < 4294967296) (h2 : endB b < 4294967296) : upB m b < 4294967297 := upN_lt (upN_lt h h1) h2
theorem readF_pos {L : List (List UInt8)} {s : List UInt8} {n : Int} {k : Nat} (h : readF L = some (s, n, k)) : 1 ≤ k ∧ k ≤ L.length := by
  cases L with
  | nil => cases h
  | cons x L =>
    unfold readF at h
    dsimp only at h
    split at h
    · cases h
    · rename_i h0
      split at h
      · cases ht : textF (bodyF ((x :: L).take (valBE ((x.drop 6).take 2)).toNat)) (valBE ((x.drop 6).take 2)).toNat with
        | none => rw [ht] at h; cases h
        | some t => rw [ht] at h; simp at h; omega
      · cases h
theorem LL_length (L : List ByteArray) : (LL L).length = L.length := by simp [LL]
/-- More fuel changes nothing. -/
theorem scanW_fuel (L : List ByteArray) : ∀ (f g : Nat) (least : Int) (used : Nat), L.length - used ≤ f → L.length - used ≤ g → scanW L f least used = scanW L g least used
  | 0, 0, _, _, _, _ => rfl
  | 0, g + 1, least, used, h, _ => by
    have e : L.drop used = [] := List.drop_eq_nil_of_le (by omega)
    simp only [scanW]; rw [e]; rfl
  | f + 1, 0, least, used, _, h => by
    have e : L.drop used = [] := List.drop_eq_nil_of_le (by omega)
    simp only [scanW]; rw [e]; rfl
  | f + 1, g + 1, least, used, hf, hg => by
    simp only [scanW]
    cases h : readF (LL (L.drop used)) with
    | none => rfl
    | some x =>
      obtain ⟨s, n, k⟩ := x
      have hk := readF_pos h
      rw [LL_length, List.length_drop] at hk
      dsimp only
      split
      · rfl
      · rw [scanW_fuel L f g (n + 1) (used + k) (by omega) (by omega)]
theorem scanW_step {L : List ByteArray} {f : Nat} {least : Int} {used : Nat} {s : List UInt8} {n : Int} {k : Nat} (h : readF (LL (L.drop used)) = some (s, n, k)) (h1 : ¬ (n < least ∨ 2147483648 < n)) (hf : L.length - used ≤ f) :
    scanW L f least used = (ofL s :: (scanW L f (n + 1) (used + k)).1, (scanW L f (n + 1) (used + k)).2) := by
  have hk := readF_pos h
  rw [LL_length, List.length_drop] at hk
  cases f with
  | zero => omega
  | succ f =>
    rw [show scanW L (f + 1) least used = _ from rfl]
    simp only [scanW]
    rw [h]
    dsimp only
    rw [if_neg h1]
    have e := scanW_fuel L f (f + 1) (n + 1) (used + k) (by omega) (by omega)
    rw [e]
    simp only [scanW]
theorem scanW_stop {L : List ByteArray} {f : Nat} {least : Int} {used : Nat} {s : List UInt8} {n : Int} {k : Nat} (h : readF (LL (L.drop used)) = some (s, n, k)) (h1 : n < least ∨ 2147483648 < n) : scanW L f least used = ([], used) := by
  cases f with
  | zero => rfl
  | succ f => simp only [scanW]; rw [h]; dsimp only; rw [if_pos h1]
theorem scanW_none {L : List ByteArray} {f : Nat} {least : Int} {used : Nat} (h : readF (LL (L.drop used)) = none) : scanW L f least used = ([], used) := by
  cases f with
  | zero => rfl
  | succ f => simp only [scanW]; rw [h]
theorem scanW_le {L : List ByteArray} : ∀ (f : Nat) (least : Int) (used : Nat), used ≤ L.length → (scanW L f least used).2 ≤ L.length ∧ used ≤ (scanW L f least used).2 ∧ (scanW L f least used).1.length ≤ (scanW L f least used).2 - used
  | 0, _, used, h => ⟨h, Nat.le_refl _, Nat.zero_le _⟩
  | f + 1, least, used, h => by
    simp only [scanW]
    cases hr : readF (LL (L.drop used)) with
    | none => exact ⟨h, Nat.le_refl _, Nat.zero_le _⟩
    | some x =>
      obtain ⟨s, n, k⟩ := x
      have hk := readF_pos hr
      rw [LL_length, List.length_drop] at hk
      dsimp only
      split
      · exact ⟨h, Nat.le_refl _, Nat.zero_le _⟩
      · obtain ⟨h1, h2, h3⟩ := scanW_le (L := L) f (n + 1) (used + k) (by omega)
        refine ⟨h1, ?_, ?_⟩
        · dsimp only; omega
        · dsimp only; rw [List.length_cons]; omega
end Go.Proofs.YtdbiebnnogjccaaGreatDoor

/- Append of strings onto a row that the call owns: a step of a region that draws its order. -/
namespace Go.Proofs.YtdbiebnnogjccaaGreatDoor
open Go.RowKit
theorem bal {B : Nat} {a W : World} (h : Below B a W ∧ B ≤ W.heap.size) (o : Obj) : Below B a (W.alloc o) ∧ B ≤ (W.alloc o).heap.size := ⟨h.1.alloc h.2 o, by simp; omega⟩
theorem bdr {B : Nat} {a W : World} (h : Below B a W ∧ B ≤ W.heap.size) : Below B a W.drew ∧ B ≤ W.drew.heap.size := ⟨⟨h.1.os, h.1.tape, h.1.output, h.1.size, h.1.block⟩, h.2⟩
theorem bbl {B : Nat} {a W X : World} (h : Below B a W ∧ B ≤ W.heap.size) (k : Below W.heap.size W X) : Below B a X ∧ B ≤ X.heap.size := ⟨h.1.trans (k.mono h.2), Nat.le_trans h.2 k.size⟩
theorem kA {W : World} {k : Nat} {v : Option Obj} (h : W.heap[k]? = v) (hk : k < W.heap.size) (o : Obj) : (W.alloc o).heap[k]? = v := by rw [Below.heap_alloc _ _ _ hk]; exact h
theorem kD {W : World} {k : Nat} {v : Option Obj} (h : W.heap[k]? = v) : W.drew.heap[k]? = v := h
theorem kN {W : World} {k : Nat} (o : Obj) (hk : k = W.heap.size) : (W.alloc o).heap[k]? = some o := by rw [hk]; exact blk_new _ _
theorem kG {W X : World} {k : Nat} {v : Option Obj} {row : Option Nat} (hg : W.grownBy X row) (h : W.heap[k]? = v) (hk : k < W.heap.size) (hne : some k ≠ row) : X.heap[k]? = v := (hg.block k hk hne).trans h
theorem kG1 {W X : World} {k r : Nat} {v : Option Obj} (hg : W.grownBy X (some r)) (h : W.heap[k]? = v) (hk : k < W.heap.size) (hne : k ≠ r) : X.heap[k]? = v := kG hg h hk (fun e => hne (by injection e))
theorem bgr {B : Nat} {a W X : World} {G : Nat} (h : Below B a W ∧ B ≤ W.heap.size) (hg : W.grownBy X (some G)) (hG : B ≤ G) : Below B a X ∧ B ≤ X.heap.size :=
  ⟨⟨hg.os.trans h.1.os, hg.tape.trans h.1.tape, hg.output.trans h.1.output, Nat.le_trans h.1.size hg.size, fun k hk => (hg.block k (by omega) (fun e => by simp at e; omega)).trans (h.1.block k hk)⟩, Nat.le_trans h.2 hg.size⟩
theorem bel2 (a : World) {W : World} {B : Nat} (h : Below B a W ∧ B ≤ W.heap.size) : B ≤ W.heap.size := h.2
theorem row_kA {W : World} {B : Nat} {e : TypeId} {s n : Nat} {v : Value} {xs : List Value} (h : W.ownsRow B e s v n xs) (o : Obj) : (W.alloc o).ownsRow B e s v n xs := h.alloc o
theorem row_s0 {W : World} {B G : Nat} {e : TypeId} (hB : B ≤ G) (h : W.heap[G]? = some (.cells #[] e (0, 0))) : W.ownsRow B e 1 (.slice (some ⟨G, 0, none⟩) 0 0) 0 (([] : List ByteArray).map Value.string) :=
  ⟨rfl, .inr ⟨G, 0, #[], rfl, hB, h, Nat.le_refl _, Nat.zero_le _, rfl, rfl⟩⟩
theorem strs_two {W : World} {D : Nat} {x y : ByteArray} {e : TypeId} (h : W.heap[D]? = some (.cells #[.string x, .string y] e (0, 0))) : SlStrs W (.slice (some ⟨D, 0, none⟩) 2 2) [x, y] := by
  refine .inr ⟨D, 0, 2, rfl, Nat.le_refl _, ⟨fun _ => blk_lt h, fun i hi => ?_⟩⟩
  have h0 : i = 0 ∨ i = 1 := by simp at hi; omega
  rcases h0 with rfl | rfl <;> (rw [blk_cell h]; simp)
theorem strs_news {w : World} {b off : Nat} {l : List ByteArray} (h : StrsAt w b off l) : ∀ j u, (l.map Value.string)[j]? = some u → w.cell? ((⟨b, off, none⟩ : Addr).add j) = some u := by
  intro j u hu
  have hadd : (⟨b, off, none⟩ : Addr).add j = ⟨b, off + j, none⟩ := by unfold Addr.add; split <;> simp_all
  rw [hadd]
  rw [List.getElem?_map] at hu
  have hj : j < l.length := by
    have := (List.getElem?_eq_some_iff.1 (by rw [← List.getElem?_map] at hu; exact hu)).1
    simpa using this
  rw [List.getElem?_eq_getElem hj] at hu
  simp at hu; subst hu
  exact h.at' j hj
theorem run_append_strs {P : Program} (w : World) (t ty e : TypeId) (i : TypeInfo) (z : Value) (ht : P.underlying t = some (.slice e)) (hi : P.info? e = some i) (hz : i.zero = some z) (hsize : i.size = 1) (hby : i.bytes = 16) (hzs : z.cells.size = 1)
    (base G n c0 : Nat) (l0 : List ByteArray) (hown : w.ownsRow base e 1 (.slice (some ⟨G, 0, none⟩) n c0) n (l0.map Value.string)) (sv : Value) (l1 : List ByteArray) (hsrc : SlStrs w sv l1) (b1 : n ≤ 65536) (b2 : l1.length ≤ 65536) (hbase : base ≤ w.heap.size) :
    ∃ g c w', (Builtin.append_ #[t, t] ty #[.slice (some ⟨G, 0, none⟩) n c0, sv]).run P w = .ok (.slice (some ⟨g, 0, none⟩) (n + l1.length) c) w' ∧ w'.ownsRow base e 1 (.slice (some ⟨g, 0, none⟩) (n + l1.length) c) (n + l1.length) ((l0 ++ l1).map Value.string) ∧ w.grownBy w' (some G) ∧ (g = G ∨ g = w.heap.size) := by
  rcases hsrc with ⟨rfl, rfl⟩ | ⟨b, off, cap, rfl, _, hat⟩
  · refine ⟨G, c0, w, ?_, by simpa using hown, ⟨rfl, rfl, rfl, Nat.le_refl _, fun _ _ _ => rfl⟩, .inl rfl⟩
    simpa using run_append_owned_none (P := P) w base t ty e i 1 ht hi _ n (l0.map Value.string) hown
  · obtain ⟨v', w', hr, h2, h3, h4, h5⟩ := run_append_own_at (P := P) w base t ty e i z 1 16 ht hi hz hsize hby hzs (by decide) _ n (l0.map Value.string) hown ⟨b, off, none⟩ l1.length cap (l1.map Value.string) (by simp) (strs_news hat)
      (fun u hu => by rw [List.mem_map] at hu; obtain ⟨x, _, rfl⟩ := hu; rfl) (by simp only [maxLen]; omega) (by omega) hbase
    rcases h2.2 with ⟨h6, _⟩ | ⟨g, c, cur, h6, _⟩
    · rw [h4] at h6; exact absurd h6.1 (by simp)
    · subst h6
      refine ⟨g, c, w', hr, ?_, h3, ?_⟩
      · rw [List.map_append]; exact h2
      · rcases h5 with h5 | h5
        · left; simpa [Value.ownBlock] using h5
        · right; simpa [Value.ownBlock] using h5
theorem step_append_strs {P : Program} {w : World} {ops : Array Oper} {o : Oper} {a : Act} {K : Act → World → Prop} {Q : Exit → Act → World → Prop} {E : Prop} (hgd : o.guard = none) (s x : Operand) (t : TypeId)
    (ho : o.op = .call { callee := .builtin .append, args := #[s, x], argTypes := #[t, t] })
    (e : TypeId) (i : TypeInfo) (z : Value) (ht : P.underlying t = some (.slice e)) (hi : P.info? e = some i) (hz : i.zero = some z) (hsize : i.size = 1) (hby : i.bytes = 16) (hzs : z.cells.size = 1)
    (base G n c0 : Nat) (l0 : List ByteArray) (hs : a.eval s = .slice (some ⟨G, 0, none⟩) n c0) (hown : w.ownsRow base e 1 (.slice (some ⟨G, 0, none⟩) n c0) n (l0.map Value.string)) (sv : Value) (hx : a.eval x = sv) (l1 : List ByteArray) (hsrc : SlStrs w sv l1) (b1 : n ≤ 65536) (b2 : l1.length ≤ 65536) (hbase : base ≤ w.heap.size)
    (m : Nat) (hm : m = n + l1.length) (l : List ByteArray) (hl : l = l0 ++ l1)
    (h : ∀ g c w', w'.ownsRow base e 1 (.slice (some ⟨g, 0, none⟩) m c) m (l.map Value.string) → w.grownBy w' (some G) → (g = G ∨ g = w.heap.size) → K (a.put o.dst (.slice (some ⟨g, 0, none⟩) m c)) w') :
    if Region.wanted o (yielded ops a.tmps) = true then Oper.wp P o a w K Q else E := by
  have hw : Region.wanted o (yielded ops a.tmps) = true := by simp [Region.wanted, hgd]
  rw [if_pos hw]
  obtain ⟨g, c, w', hr, h2, h3, h4⟩ := run_append_strs (P := P) w t o.type e i z ht hi hz hsize hby hzs base G n c0 l0 hown sv l1 hsrc b1 b2 hbase
  subst hm hl
  unfold Oper.wp execOp
  simp only [ho, resolve, invoke, builtin, Sem.run_bind, Sem.run_pure, Result.andThen_ok, List.map_toArray, List.map_cons, List.map_nil, hs, hx, hr]
  exact h g c w' h2 h3 h4
theorem wpList_append_strs {P : Program} {w : World} {ops : Array Oper} {rest : List Oper} {o : Oper} {a : Act} {Q : Exit → Act → World → Prop} (hgd : o.guard = none) (s x : Operand) (t : TypeId)
    (ho : o.op = .call { callee := .builtin .append, args := #[s, x], argTypes := #[t, t] })
    (e : TypeId) (i : TypeInfo) (z : Value) (ht : P.underlying t = some (.slice e)) (hi : P.info? e = some i) (hz : i.zero = some z) (hsize : i.size = 1) (hby : i.bytes = 16) (hzs : z.cells.size = 1)
    (base G n c0 : Nat) (l0 : List ByteArray) (hs : a.eval s = .slice (some ⟨G, 0, none⟩) n c0) (hown : w.ownsRow base e 1 (.slice (some ⟨G, 0, none⟩) n c0) n (l0.map Value.string)) (sv : Value) (hx : a.eval x = sv) (l1 : List ByteArray) (hsrc : SlStrs w sv l1) (b1 : n ≤ 65536) (b2 : l1.length ≤ 65536) (hbase : base ≤ w.heap.size)
    (m : Nat) (hm : m = n + l1.length) (l : List ByteArray) (hl : l = l0 ++ l1)
    (h : ∀ g c w', w'.ownsRow base e 1 (.slice (some ⟨g, 0, none⟩) m c) m (l.map Value.string) → w.grownBy w' (some G) → (g = G ∨ g = w.heap.size) → wpList P ops Q rest (a.put o.dst (.slice (some ⟨g, 0, none⟩) m c)) w') :
    wpList P ops Q (o :: rest) a w := by
  refine wpList_plain hgd fun K hK => ?_
  obtain ⟨g, c, w', hr, h2, h3, h4⟩ := run_append_strs (P := P) w t o.type e i z ht hi hz hsize hby hzs base G n c0 l0 hown sv l1 hsrc b1 b2 hbase
  subst hm hl
  unfold Oper.wp execOp
  simp only [ho, resolve, invoke, builtin, Sem.run_bind, Sem.run_pure, Result.andThen_ok, List.map_toArray, List.map_cons, List.map_nil, hs, hx, hr]
  exact hK _ _ (h g c w' h2 h3 h4)
end Go.Proofs.YtdbiebnnogjccaaGreatDoor
