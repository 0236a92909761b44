/- Frames: what a call leaves as it was, but for some blocks. -/
import Derived.WalkKit
import Derived.OneCell
import Derived.Deep.Draws
import Derived.Deep.AppendLies
import Derived.Deep.RegionHeld3
import Derived.Lib.Hide
import Derived.Laws.BytesArg
namespace Go.Proofs.YtdbiebnnogjccaaGreatDoor
open Go.RowKit

/-- But for the blocks of S all that was there is as it was. -/
structure Fr (S : Nat → Prop) (w w' : World) : Prop where
  os : w'.os = w.os
  tape : w'.tape = w.tape
  output : w'.output = w.output
  size : w.heap.size ≤ w'.heap.size
  block : ∀ k, k < w.heap.size → ¬ S k → w'.heap[k]? = w.heap[k]?
theorem Fr.refl (S : Nat → Prop) (w : World) : Fr S w w := ⟨rfl, rfl, rfl, Nat.le_refl _, fun _ _ _ => rfl⟩
theorem Fr.trans {S : Nat → Prop} {a b c : World} (h : Fr S a b) (k : Fr S b c) : Fr S a c :=
  ⟨k.os.trans h.os, k.tape.trans h.tape, k.output.trans h.output, Nat.le_trans h.size k.size, fun i hi hs => (k.block i (Nat.lt_of_lt_of_le hi h.size) hs).trans (h.block i hi hs)⟩
theorem Fr.of_below {S : Nat → Prop} {w w' : World} (h : Below w.heap.size w w') : Fr S w w' := ⟨h.os, h.tape, h.output, h.size, fun k hk _ => h.block k hk⟩
theorem Fr.below {w w' : World} (h : Fr (fun _ => False) w w') : Below w.heap.size w w' := ⟨h.os, h.tape, h.output, h.size, fun k hk => h.block k hk id⟩
theorem Fr.mono {S T : Nat → Prop} {w w' : World} (h : Fr S w w') (hst : ∀ k, S k → T k) : Fr T w w' := ⟨h.os, h.tape, h.output, h.size, fun k hk ht => h.block k hk fun hs => ht (hst k hs)⟩
/-- What lies at or above B, where B was the heap's size when the call began, counts for nothing there. -/
theorem Fr.shrink {S T : Nat → Prop} {w w1 w' : World} (h1 : Fr T w w1) (h : Fr S w1 w') (hst : ∀ k, k < w.heap.size → S k → T k) : Fr T w w' :=
  ⟨h.os.trans h1.os, h.tape.trans h1.tape, h.output.trans h1.output, Nat.le_trans h1.size h.size, fun k hk ht => (h.block k (Nat.lt_of_lt_of_le hk h1.size) fun hs => ht (hst k hk hs)).trans (h1.block k hk ht)⟩
theorem Fr.cell {S : Nat → Prop} {w w' : World} (h : Fr S w w') {b o : Nat} (hb : b < w.heap.size) (hs : ¬ S b) : w'.cell? ⟨b, o, none⟩ = w.cell? ⟨b, o, none⟩ := World.cell?_of_block (w := w) (h.block b hb hs)
theorem Fr.frozen {S : Nat → Prop} {w w' : World} (h : Fr S w w') {b o : Nat} (hb : b < w.heap.size) (hs : ¬ S b) : w'.frozen? ⟨b, o, none⟩ = w.frozen? ⟨b, o, none⟩ := World.frozen?_of_block (w := w) (h.block b hb hs)
theorem Fr.alloc {S : Nat → Prop} {a w : World} (h : Fr S a w) (o : Obj) : Fr S a (w.alloc o) := h.trans (Fr.of_below ((Below.refl _ _).alloc (Nat.le_refl _) _))
theorem Fr.drew {S : Nat → Prop} {a w : World} (h : Fr S a w) : Fr S a w.drew := ⟨h.os, h.tape, h.output, h.size, h.block⟩
theorem Fr.drewN {S : Nat → Prop} {a w : World} (h : Fr S a w) (n : Nat) : Fr S a (w.drewN n) := ⟨h.os, h.tape, h.output, h.size, h.block⟩
theorem Fr.setCell {S : Nat → Prop} {a w : World} (h : Fr S a w) {p : Addr} (hp : S p.block ∨ a.heap.size ≤ p.block) (u : Value) : Fr S a (w.setCell p u) :=
  ⟨h.os, h.tape, h.output, by simpa [World.setCell] using h.size, fun k hk hs => (Below.heap_setCell w p u k (by
    rintro rfl
    rcases hp with hp | hp
    · exact hs hp
    · omega)).trans (h.block k hk hs)⟩
/-- A block whose whole content is known. -/
theorem blk_lt {w : World} {b : Nat} {o : Obj} (h : w.heap[b]? = some o) : b < w.heap.size := (Array.getElem?_eq_some_iff.1 h).1
theorem blk_cell {w : World} {b : Nat} {c : Array Value} {t : TypeId} (h : w.heap[b]? = some (.cells c t (0, 0))) (o : Nat) : w.cell? ⟨b, o, none⟩ = c[o]? := by simp [World.cell?, h]
theorem blk_frozen {w : World} {b : Nat} {c : Array Value} {t : TypeId} (h : w.heap[b]? = some (.cells c t (0, 0))) (o : Nat) : w.frozen? ⟨b, o, none⟩ = false := by simp [World.frozen?, h]
theorem blk_set {w : World} {b : Nat} {c : Array Value} {t : TypeId} (h : w.heap[b]? = some (.cells c t (0, 0))) (o : Nat) (v : Value) : (w.setCell ⟨b, o, none⟩ v).heap[b]? = some (.cells (c.setIfInBounds o v) t (0, 0)) := by
  simp only [World.setCell, Array.getElem?_modify, if_true, h, Option.map_some, Option.isSome_none, Bool.false_eq_true, if_false]
theorem blk_set_far {w : World} {b : Nat} {x : Obj} (h : w.heap[b]? = some x) {a : Addr} (hne : b ≠ a.block) (v : Value) : (w.setCell a v).heap[b]? = some x := by
  rw [Below.heap_setCell _ _ _ _ hne]; exact h
theorem blk_alloc {w : World} {b : Nat} {x o : Obj} (h : w.heap[b]? = some x) : (w.alloc o).heap[b]? = some x := by
  rw [Below.heap_alloc _ _ _ (blk_lt h)]; exact h
theorem blk_new (w : World) (o : Obj) : (w.alloc o).heap[w.heap.size]? = some o := by
  show (w.heap.push o)[w.heap.size]? = _
  simp
theorem blk_fr {S : Nat → Prop} {w w' : World} {b : Nat} {x : Obj} (h : w.heap[b]? = some x) (hf : Fr S w w') (hs : ¬ S b) : w'.heap[b]? = some x := (hf.block b (blk_lt h) hs).trans h
theorem blk_below {w w' : World} {b : Nat} {x : Obj} (h : w.heap[b]? = some x) (hf : Below w.heap.size w w') : w'.heap[b]? = some x := (hf.block b (blk_lt h)).trans h
end Go.Proofs.YtdbiebnnogjccaaGreatDoor

/- Slices of strings in memory; append of a string onto a row that the call owns. -/
namespace Go.Proofs.YtdbiebnnogjccaaGreatDoor
open Go.RowKit
theorem grown_bel {w w' : World} (h : Below w.heap.size w w') : w.grownBy w' none := ⟨h.os, h.tape, h.output, h.size, fun i hi _ => h.block i hi⟩
theorem row_bel {w w' : World} {B : Nat} {e : TypeId} {s n : Nat} {v : Value} {xs : List Value} (h : w.ownsRow B e s v n xs) (hb : Below w.heap.size w w') : w'.ownsRow B e s v n xs := by
  refine h.kept (grown_bel hb) ?_
  cases v.ownBlock with
  | none => exact .inl rfl
  | some k => exact .inr (by simp)
theorem bel_row {a w w' : World} {B : Nat} {e : TypeId} {s n : Nat} {v : Value} {xs : List Value} (hb : Below B a w) (hB : B ≤ w.heap.size) (h : w.ownsRow B e s v n xs) (hg : w.grownBy w' v.ownBlock) : Below B a w' :=
  ⟨hg.os.trans hb.os, hg.tape.trans hb.tape, hg.output.trans hb.output, Nat.le_trans hb.size hg.size, fun k hk => (hg.block k (by omega) (fun e => by have := (h.lt k e.symm).1; omega)).trans (hb.block k hk)⟩
theorem row_cellS {w : World} {base : Nat} {e : TypeId} {n : Nat} {v : Value} {xs : List Value} (h : w.ownsRow base e 1 v n xs) {g c m : Nat} (hv : v = .slice (some ⟨g, 0, none⟩) m c) {j : Nat} {u : Value} (hu : xs[j]? = some u) : w.cell? ⟨g, j, none⟩ = some u := by
  subst hv
  have := h.cells (g := g) rfl j u hu
  have hadd : (⟨g, 0, none⟩ : Addr).add j = ⟨g, j, none⟩ := by unfold Addr.add; split <;> simp_all
  rw [hadd] at this; exact this
/-- The strings lie in memory, a cell each. -/
structure StrsAt (w : World) (b off : Nat) (l : List ByteArray) : Prop where
  lt : l ≠ [] → b < w.heap.size
  at' : ∀ i (h : i < l.length), w.cell? ⟨b, off + i, none⟩ = some (.string l[i])
theorem StrsAt.below {w w' : World} {b off : Nat} {l : List ByteArray} (h : StrsAt w b off l) (hb : Below w.heap.size w w') : StrsAt w' b off l := by
  by_cases hl : l = []
  · subst hl
    exact ⟨fun h => absurd rfl h, fun i h => absurd h (by simp)⟩
  · have hlt := h.lt hl
    exact ⟨fun _ => Nat.lt_of_lt_of_le hlt hb.size, fun i hi => by rw [hb.cell (p := ⟨b, off + i, none⟩) hlt]; exact h.at' i hi⟩
def SlStrs (w : World) (v : Value) (l : List ByteArray) : Prop := (v = .slice none 0 0 ∧ l = []) ∨ ∃ b off cap, v = .slice (some ⟨b, off, none⟩) l.length cap ∧ l.length ≤ cap ∧ StrsAt w b off l
theorem SlStrs.below {w w' : World} {v : Value} {l : List ByteArray} (h : SlStrs w v l) (hb : Below w.heap.size w w') : SlStrs w' v l := by
  rcases h with h | ⟨b, off, cap, e, hc, h⟩
  · exact .inl h
  · exact .inr ⟨b, off, cap, e, hc, h.below hb⟩
theorem SlStrs.form {w : World} {v : Value} {l : List ByteArray} (h : SlStrs w v l) : ∃ p c, v = .slice p l.length c ∧ l.length ≤ c := by
  rcases h with ⟨h, e⟩ | ⟨b, off, cap, e, hc, h⟩
  · subst e; exact ⟨none, 0, h, Nat.le_refl _⟩
  · exact ⟨_, _, e, hc⟩
theorem SlStrs.at {w : World} {p : Option Addr} {c k : Nat} {l : List ByteArray} (h : SlStrs w (.slice p l.length c) l) (hk : k < l.length) : ∃ b off, p = some ⟨b, off, none⟩ ∧ StrsAt w b off l := by
  rcases h with ⟨_, h2⟩ | ⟨b, off, cap, e, _, h⟩
  · subst h2; exact absurd hk (by simp)
  · injection e with e1 e2 e3
    exact ⟨b, off, e1, h⟩
theorem SlStrs.of_own {w : World} {base : Nat} {e : TypeId} {v : Value} {l : List ByteArray} (h : w.ownsRow base e 1 v l.length (l.map Value.string)) : SlStrs w v l := by
  rcases h.2 with ⟨h1, h2⟩ | ⟨g, cap, cur, hv, hb, hg, hn, _⟩
  · exact .inl ⟨h1, List.eq_nil_of_length_eq_zero h2⟩
  · refine .inr ⟨g, 0, cap, hv, hn, ⟨fun _ => blk_lt hg, fun i hi => ?_⟩⟩
    rw [Nat.zero_add]
    exact row_cellS h hv (by rw [List.getElem?_map, List.getElem?_eq_getElem hi]; rfl)
theorem StrsAt.take {w : World} {b off : Nat} {l : List ByteArray} (h : StrsAt w b off l) (k : Nat) : StrsAt w b off (l.take k) :=
  ⟨fun h0 => h.lt (fun e => h0 (by rw [e]; simp)), fun i hi => by rw [List.getElem_take]; exact h.at' i (by rw [List.length_take] at hi; omega)⟩
theorem StrsAt.drop {w : World} {b off : Nat} {l : List ByteArray} (h : StrsAt w b off l) (k : Nat) : StrsAt w b (off + k) (l.drop k) :=
  ⟨fun h0 => h.lt (fun e => h0 (by rw [e]; simp)), fun i hi => by rw [List.getElem_drop, Nat.add_assoc]; exact h.at' (k + i) (by rw [List.length_drop] at hi; omega)⟩
theorem step_append_str {P : Program} {w : World} {ops : Array Oper} {o : Oper} {a : Act} {K : Act → World → Prop} {Q : Exit → Act → World → Prop} {E : Prop} (hgd : o.guard = none) (s x : Operand) (t : TypeId)
    (ho : o.op = .call { callee := .builtin .append, args := #[s, x], argTypes := #[t, t] })
    (e : TypeId) (i : TypeInfo) (z : Value) (ht : P.underlying t = some (.slice e)) (hi : P.info? e = some i) (hz : i.zero = some z) (hsize : i.size = 1) (hby : i.bytes = 16) (hzs : z.cells.size = 1)
    (base : Nat) (v : Value) (l : List ByteArray) (hs : a.eval s = v) (hown : w.ownsRow base e 1 v l.length (l.map Value.string)) (D c : Nat) (y : ByteArray) (hx : a.eval x = .slice (some ⟨D, 0, none⟩) 1 c) (hy : w.cell? ⟨D, 0, none⟩ = some (.string y)) (q : Nat) (hq : l.length = q) (hl : q ≤ 1000000) (hbase : base ≤ w.heap.size)
    (h : ∀ g cap w', w'.ownsRow base e 1 (.slice (some ⟨g, 0, none⟩) (q + 1) cap) (l ++ [y]).length ((l ++ [y]).map Value.string) → w.grownBy w' v.ownBlock → K (a.put o.dst (.slice (some ⟨g, 0, none⟩) (q + 1) cap)) w') :
    if Region.wanted o (yielded ops a.tmps) = true then Oper.wp P o a w K Q else E := by
  subst hq
  refine step_append_lies w hgd s x t ho base e i z 1 16 ht hi hz hsize hby hzs (by decide) v l.length (l.map Value.string) hs hown ⟨D, 0, none⟩ 1 c [.string y] hx rfl (fun j u hu => ?_) (by simp [Value.oneCell']) (by decide) (by simp only [maxLen]; omega) (by omega) hbase _ rfl fun g cap w' h1 h2 _ _ => h g cap w' (by rw [List.length_append, List.map_append]; exact h1) h2
  have hj : j = 0 := by
    have := (List.getElem?_eq_some_iff.1 hu).1
    simpa using this
  subst hj
  simp at hu; subst hu
  have hadd : (⟨D, 0, none⟩ : Addr).add 0 = ⟨D, 0, none⟩ := by unfold Addr.add; split <;> simp_all
  rw [hadd]; exact hy
end Go.Proofs.YtdbiebnnogjccaaGreatDoor

/- Sums of bytes (layer 15), in plain words: no program in sight. -/
namespace Go.Proofs.YtdbiebnnogjccaaGreatDoor

def tbl (i : Nat) : Nat := [0, 498536548, 997073096, 651767980, 1994146192, 1802195444, 1303535960, 1342533948, 3988292384, 4027552580, 3604390888, 3412177804, 2607071920, 2262029012, 2685067896, 3183342108].getD i 0
def P32 : Nat := 3988292384
/-- One bit. -/
def L1 (x : Nat) : Nat := if x % 2 = 1 then x / 2 ^^^ P32 else x / 2
def rep (f : Nat → Nat) : Nat → Nat → Nat
  | 0, x => x
  | n + 1, x => rep f n (f x)
def stepN (n b : Nat) : Nat :=
  let m := n / 16 ^^^ tbl ((n ^^^ b) % 16)
  m / 16 ^^^ tbl ((m ^^^ b / 16) % 16)
/-- Linear, and within 32 bits. -/
structure Lin (M : Nat → Nat) : Prop where
  zero : M 0 = 0
  xor : ∀ x y, M (x ^^^ y) = M x ^^^ M y
  bd : ∀ x, x < 4294967296 → M x < 4294967296
theorem xor_half (x y : Nat) : (x ^^^ y) / 2 = x / 2 ^^^ y / 2 := Nat.xor_div_two
theorem xor_odd (x y : Nat) : (x ^^^ y) % 2 = (x % 2) ^^^ (y % 2) := Nat.xor_mod_two_pow (n := 1)
theorem xlc (a b c : Nat) : a ^^^ (b ^^^ c) = b ^^^ (a ^^^ c) := by rw [← Nat.xor_assoc, Nat.xor_comm a, Nat.xor_assoc]
theorem xor_lt {x y : Nat} (hx : x < 4294967296) (hy : y < 4294967296) : x ^^^ y < 4294967296 := Nat.xor_lt_two_pow (n := 32) hx hy
theorem lin_L1 : Lin L1 := by
  refine ⟨by decide, fun x y => ?_, fun x hx => ?_⟩
  · unfold L1
    rw [xor_half, xor_odd]
    rcases Nat.mod_two_eq_zero_or_one x with h | h <;> rcases Nat.mod_two_eq_zero_or_one y with k | k <;> rw [h, k]
    · simp
    · simp [Nat.xor_assoc]
    · simp [Nat.xor_comm, xlc]
    · simp only [Nat.xor_self, if_true]
      rw [if_neg (by decide), Nat.xor_assoc, xlc P32, Nat.xor_self, Nat.xor_zero]
  · unfold L1
    split
    · exact xor_lt (by omega) (by decide)
    · omega
theorem Lin.comp {M K : Nat → Nat} (hm : Lin M) (hk : Lin K) : Lin (fun x => M (K x)) :=
  ⟨by simp only [hk.zero, hm.zero], fun x y => by simp only [hk.xor, hm.xor], fun x hx => hm.bd _ (hk.bd _ hx)⟩
theorem rep_lin {M : Nat → Nat} (hm : Lin M) : ∀ n, Lin (rep M n)
  | 0 => ⟨rfl, fun _ _ => rfl, fun _ h => h⟩
  | n + 1 => ⟨by show rep M n (M 0) = 0; rw [hm.zero, (rep_lin hm n).zero], fun x y => by show rep M n (M (x ^^^ y)) = _; rw [hm.xor, (rep_lin hm n).xor]; rfl, fun x h => (rep_lin hm n).bd _ (hm.bd _ h)⟩
theorem rep_add (f : Nat → Nat) (x : Nat) : ∀ n m, rep f (n + m) x = rep f m (rep f n x) := by
  intro n
  induction n generalizing x with
  | zero => intro m; rw [Nat.zero_add]; rfl
  | succ n ih => intro m; rw [Nat.succ_add]; exact ih (f x) m
/-- Four bits that are noughts are shifted out. -/
theorem L1_twice (x : Nat) : L1 (2 * x) = x := by
  unfold L1; rw [if_neg (by omega)]; omega
theorem L4_sixteen (x : Nat) : rep L1 4 (16 * x) = x := by
  show L1 (L1 (L1 (L1 (16 * x)))) = x
  have : 16 * x = 2 * (2 * (2 * (2 * x))) := by omega
  rw [this, L1_twice, L1_twice, L1_twice, L1_twice]
theorem L4_small : ∀ r, r < 16 → rep L1 4 r = tbl r := by decide
theorem split16 (x : Nat) : x = 16 * (x / 16) ^^^ x % 16 := by
  apply Nat.eq_of_testBit_eq
  intro i
  rw [Nat.testBit_xor, show (16 : Nat) = 2 ^ 4 by decide, Nat.testBit_two_pow_mul, Nat.testBit_mod_two_pow, Nat.testBit_div_two_pow]
  by_cases h : i < 4
  · have : ¬ 4 ≤ i := by omega
    simp [h, this]
  · have h4 : 4 ≤ i := by omega
    simp [h, h4]
theorem L4_eq (x : Nat) : rep L1 4 x = x / 16 ^^^ tbl (x % 16) := by
  have h := (rep_lin lin_L1 4).xor (16 * (x / 16)) (x % 16)
  rw [← split16, L4_sixteen, L4_small _ (Nat.mod_lt _ (by decide))] at h
  exact h
def Z (x : Nat) : Nat := rep L1 8 x
theorem lin_Z : Lin Z := rep_lin lin_L1 8
theorem xor_mod16 (x y : Nat) : (x ^^^ y) % 16 = x % 16 ^^^ y % 16 := Nat.xor_mod_two_pow (n := 4)
theorem xor_div16 (x y : Nat) : (x ^^^ y) / 16 = x / 16 ^^^ y / 16 := Nat.xor_div_two_pow (n := 4)
/-- The table's step is eight bits. -/
theorem stepN_eq (n b : Nat) (hb : b < 256) : stepN n b = Z (n ^^^ b) := by
  have e : Z (n ^^^ b) = rep L1 4 (rep L1 4 (n ^^^ b)) := rep_add L1 (n ^^^ b) 4 4
  have e1 : rep L1 4 (n ^^^ b) = (n / 16 ^^^ tbl ((n ^^^ b) % 16)) ^^^ b / 16 := by
    rw [L4_eq, xor_div16, Nat.xor_assoc, Nat.xor_comm (b / 16), Nat.xor_assoc]
  rw [e, e1]
  unfold stepN
  simp only
  generalize n / 16 ^^^ tbl ((n ^^^ b) % 16) = m
  rw [L4_eq, xor_div16]
  have : b / 16 / 16 = 0 := by omega
  rw [this, Nat.xor_zero]

/-! ### bit by bit -/
def bitN (c b : Nat) : Nat → Nat
  | 0 => c
  | k + 1 => L1 (bitN c b k ^^^ b / 2 ^ k % 2)
theorem L1_out (t : Nat) : ∀ k, rep L1 k (2 ^ k * t) = t
  | 0 => by simp [rep]
  | k + 1 => by
    show rep L1 k (L1 (2 ^ (k + 1) * t)) = t
    have : 2 ^ (k + 1) * t = 2 * (2 ^ k * t) := by rw [Nat.pow_succ, Nat.mul_comm (2 ^ k) 2, Nat.mul_assoc]
    rw [this, L1_twice]
    exact L1_out t k
theorem mod_join (b k : Nat) : b % 2 ^ (k + 1) = b % 2 ^ k ^^^ 2 ^ k * (b / 2 ^ k % 2) := by
  apply Nat.eq_of_testBit_eq
  intro i
  have e2 : b / 2 ^ k % 2 = (b / 2 ^ k) % 2 ^ 1 := rfl
  rw [Nat.testBit_xor, Nat.testBit_mod_two_pow, Nat.testBit_mod_two_pow, Nat.testBit_two_pow_mul, e2, Nat.testBit_mod_two_pow, Nat.testBit_div_two_pow]
  by_cases h : i < k
  · have h1 : i < k + 1 := by omega
    have h2 : ¬ k ≤ i := by omega
    simp [h, h1, h2]
  · by_cases h3 : i = k
    · subst h3; simp
    · have h1 : ¬ i < k + 1 := by omega
      have h2 : ¬ i - k < 1 := by omega
      simp [h, h1, h2]
theorem bitN_eq (c b : Nat) : ∀ k, bitN c b k = rep L1 k (c ^^^ b % 2 ^ k)
  | 0 => by show c = c ^^^ b % 1; rw [Nat.mod_one, Nat.xor_zero]
  | k + 1 => by
    have e : rep L1 k (c ^^^ b % 2 ^ k ^^^ 2 ^ k * (b / 2 ^ k % 2)) = rep L1 k (c ^^^ b % 2 ^ k) ^^^ b / 2 ^ k % 2 := by rw [(rep_lin lin_L1 k).xor, L1_out]
    rw [bitN, bitN_eq c b k, rep_add L1 _ k 1, mod_join, ← Nat.xor_assoc, e]
    rfl
theorem bitN_8 (c b : Nat) (hb : b < 256) : bitN c b 8 = Z (c ^^^ b) := by
  have : b % 2 ^ 8 = b := Nat.mod_eq_of_lt hb
  rw [bitN_eq, this]; rfl
theorem bitN_lt (c b : Nat) (hc : c < 4294967296) : ∀ k, bitN c b k < 4294967296
  | 0 => hc
  | k + 1 => lin_L1.bd _ (xor_lt (bitN_lt c b hc k) (by omega))
theorem bit_unlike (c t : Nat) (ht : t < 2) (h : ¬ c % 2 = t) : L1 (c ^^^ t) = c / 2 ^^^ P32 := by
  unfold L1
  have h1 : (c ^^^ t) % 2 = 1 := by
    rw [xor_odd]
    rcases Nat.mod_two_eq_zero_or_one c with a | a <;> rcases (by omega : t = 0 ∨ t = 1) with rfl | rfl <;> rw [a] at h ⊢ <;> first | rfl | exact absurd rfl h
  have h2 : (c ^^^ t) / 2 = c / 2 := by
    have : t / 2 = 0 := by omega
    rw [xor_half, this, Nat.xor_zero]
  rw [if_pos h1, h2]
theorem bit_like (c t : Nat) (ht : t < 2) (h : c % 2 = t) : L1 (c ^^^ t) = c / 2 := by
  unfold L1
  have h1 : ¬ (c ^^^ t) % 2 = 1 := by
    rw [xor_odd]
    rcases Nat.mod_two_eq_zero_or_one c with a | a <;> rcases (by omega : t = 0 ∨ t = 1) with rfl | rfl <;> rw [a] at h ⊢ <;> first | decide | exact absurd h (by decide)
  have h2 : (c ^^^ t) / 2 = c / 2 := by
    have : t / 2 = 0 := by omega
    rw [xor_half, this, Nat.xor_zero]
  rw [if_neg h1, h2]

/-! ### matrices -/
def accM (M : Nat → Nat) (x : Nat) : Nat → Nat
  | 0 => 0
  | k + 1 => if x / 2 ^ k % 2 = 1 then accM M x k ^^^ M (2 ^ k) else accM M x k
theorem accM_eq {M : Nat → Nat} (hm : Lin M) (x : Nat) : ∀ k, accM M x k = M (x % 2 ^ k)
  | 0 => by show 0 = M (x % 1); rw [Nat.mod_one, hm.zero]
  | k + 1 => by
    rw [accM, mod_join, hm.xor, accM_eq hm x k]
    rcases Nat.mod_two_eq_zero_or_one (x / 2 ^ k) with h | h
    · rw [if_neg (by omega), h, Nat.mul_zero, hm.zero, Nat.xor_zero]
    · rw [if_pos h, h, Nat.mul_one]
theorem accM_32 {M : Nat → Nat} (hm : Lin M) {x : Nat} (hx : x < 4294967296) : accM M x 32 = M x := by
  have : x % 2 ^ 32 = x := Nat.mod_eq_of_lt hx
  rw [accM_eq hm, this]
theorem accM_lt {M : Nat → Nat} (hm : Lin M) {x : Nat} (hx : x < 4294967296) (k : Nat) : accM M x k < 4294967296 := by
  rw [accM_eq hm]; exact hm.bd _ (Nat.lt_of_le_of_lt (Nat.mod_le _ _) hx)
theorem pow_lt32 {k : Nat} (h : k < 32) : 2 ^ k < 4294967296 := by
  have : 2 ^ k < 2 ^ 32 := Nat.pow_lt_pow_right (by decide) h
  simpa using this

/-! ### texts -/
def F (c : Nat) (l : List UInt8) : Nat := l.foldl (fun c b => Z (c ^^^ b.toNat)) c
theorem byte_lt (b : UInt8) : b.toNat < 4294967296 := Nat.lt_trans b.toNat_lt (by decide)
theorem F_lt : ∀ (l : List UInt8) (c : Nat), c < 4294967296 → F c l < 4294967296
  | [], _, h => h
  | b :: l, _, h => F_lt l _ (lin_Z.bd _ (xor_lt h (byte_lt b)))
theorem F_snoc (c : Nat) (l : List UInt8) (b : UInt8) : F c (l ++ [b]) = Z (F c l ^^^ b.toNat) := by simp [F]
theorem F_append (c : Nat) (l m : List UInt8) : F c (l ++ m) = F (F c l) m := by simp [F]
/-- The sum of two. -/
theorem F_xor : ∀ (l : List UInt8) (c d : Nat), F (c ^^^ d) l = F c l ^^^ rep Z l.length d
  | [], _, _ => rfl
  | b :: l, c, d => by
    show F (Z (c ^^^ d ^^^ b.toNat)) l = F (Z (c ^^^ b.toNat)) l ^^^ rep Z l.length (Z d)
    rw [Nat.xor_assoc, Nat.xor_comm d, ← Nat.xor_assoc, lin_Z.xor]
    exact F_xor l _ _
theorem ones_ex : ∃ n : Nat, n = 4294967295 := ⟨_, rfl⟩
/-- Thirty-two ones, out of the kernel's sight (it would unfold the literal). -/
noncomputable def ones : Nat := Classical.choose ones_ex
theorem ones_eq : ones = 4294967295 := Classical.choose_spec ones_ex
theorem ones_lt : ones < 4294967296 := by rw [ones_eq]; decide
noncomputable def not32 (x : Nat) : Nat := ones ^^^ x
theorem not32_lt {x : Nat} (h : x < 4294967296) : not32 x < 4294967296 := xor_lt ones_lt h
theorem xor_twice (o x : Nat) : o ^^^ (o ^^^ x) = x := by rw [← Nat.xor_assoc, Nat.xor_self, Nat.zero_xor]
theorem not32_not32 (x : Nat) : not32 (not32 x) = x := xor_twice ones x
theorem app_law (o : Nat) (l m : List UInt8) : o ^^^ F o (l ++ m) = rep Z m.length (o ^^^ F o l) ^^^ (o ^^^ F o m) := by
  have e : F o l = o ^^^ (o ^^^ F o l) := (xor_twice _ _).symm
  have e1 : F o (l ++ m) = F o m ^^^ rep Z m.length (o ^^^ F o l) := by
    rw [F_append]
    conv => lhs; rw [e]
    rw [F_xor]
  rw [e1, Nat.xor_comm (rep Z m.length (o ^^^ F o l)), Nat.xor_assoc]
noncomputable def sumN (l : List UInt8) : Nat := not32 (F ones l)
theorem sumN_lt (l : List UInt8) : sumN l < 4294967296 := not32_lt (F_lt l _ ones_lt)
noncomputable def nextN (c b : Nat) : Nat := not32 (stepN (not32 c) b)
def joinN (a b n : Nat) : Nat := rep Z n a ^^^ b
theorem sumN_append (l m : List UInt8) : sumN (l ++ m) = joinN (sumN l) (sumN m) m.length := app_law ones l m
theorem sumN_snoc (l : List UInt8) (b : UInt8) : sumN (l ++ [b]) = nextN (sumN l) b.toNat := by
  unfold nextN sumN; rw [F_snoc, not32_not32, stepN_eq _ _ b.toNat_lt]
end Go.Proofs.YtdbiebnnogjccaaGreatDoor
