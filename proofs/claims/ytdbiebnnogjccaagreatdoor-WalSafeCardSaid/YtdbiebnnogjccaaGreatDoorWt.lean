/- The log (layer 21): plain words: what an opening reads, what an appending writes. -/
import Derived.Test.YtdbiebnnogjccaaGreatDoorHa
import Derived.Test.YtdbiebnnogjccaaGreatDoorFi
import Derived.Test.YtdbiebnnogjccaaGreatDoorDa
import Derived.Test.YtdbiebnnogjccaaGreatDoorDk
import Derived.Test.YtdbiebnnogjccaaGreatDoorFq
import Derived.Test.YtdbiebnnogjccaaGreatDoorFr
namespace Go.Proofs.YtdbiebnnogjccaaGreatDoor
/-- A log: its records, the next number, how many sectors are used, whether a write failed. -/
structure Wl where
  recs : List ByteArray
  next : Int
  used : Nat
  dead : Bool
/-- The number with which a sector begins, and the one with which it ends. -/
def endA (b : ByteArray) : Int := valLE (b.data.toList.take 4)
def endB (b : ByteArray) : Int := valLE (b.data.toList.drop 252)
def upN (m n : Int) : Int := if n ≤ 2147483648 then max m (n + 1) else m
def upB (m : Int) (b : ByteArray) : Int := upN (upN m (endA b)) (endB b)
def nextW (first : Int) (L : List ByteArray) : Int := L.foldl upB first
/-- The records with which sectors begin, of rising numbers. -/
noncomputable def scanW (L : List ByteArray) : Nat → Int → Nat → List ByteArray × Nat
  | 0, _, used => ([], used)
  | f + 1, least, used => match readF (LL (L.drop used)) with
    | none => ([], used)
    | some (s, n, k) => if n < least ∨ 2147483648 < n then ([], used) else (ofL s :: (scanW L f (n + 1) (used + k)).1, (scanW L f (n + 1) (used + k)).2)
def Dk.logs (d : Dk) : Nat := (layN d.n).1.2.1.toNat
def Dk.secs (d : Dk) : List ByteArray := (List.range d.logs).map fun (i : Nat) => d.tell (2 + (i : Int))
noncomputable def Dk.openW (d : Dk) (first : Int) : Option Wl × Int :=
  if first = 0 then (none, 1)
  else if (layN d.n).2 ≠ 0 then (none, (layN d.n).2)
  else if d.dead = true then (none, 74)
  else if 2147483648 < nextW first d.secs then (none, 73)
  else (some ⟨(scanW d.secs d.logs first 0).1, nextW first d.secs, (scanW d.secs d.logs first 0).2, false⟩, 0)
/-- Sectors are written, one behind the other. -/
def Dk.writes (d : Dk) (i : Int) : List ByteArray → Dk × Int
  | [] => (d, 0)
  | s :: L => if (d.write i s).2 ≠ 0 then d.write i s else (d.write i s).1.writes (i + 1) L
/-- What is appended. -/
def Wl.may (x : Wl) (logs : Nat) (s : ByteArray) : Int :=
  if x.dead = true then 74 else if 2000 < s.size then 2 else if (logs : Int) - x.used < sizeF s.size ∨ 2147483648 < x.next then 73 else 0
noncomputable def Dk.append (d : Dk) (x : Wl) (logs : Nat) (s : ByteArray) : Dk × Wl × Int :=
  if x.may logs s ≠ 0 then (d, x, x.may logs s)
  else
    let r := d.writes (2 + (x.used : Int)) ((secsF x.next s.data.toList).map ofL)
    if r.2 ≠ 0 then (r.1, { x with dead := true }, r.2)
    else (r.1, ⟨x.recs ++ [s], x.next + 1, x.used + szN s.size, false⟩, 0)
def Dk.sync (d : Dk) (x : Wl) : Dk × Wl × Int :=
  if x.dead = true then (d, x, 74) else (d.flush.1, { x with dead := decide (d.flush.2 ≠ 0) }, d.flush.2)
theorem upN_ge (m n : Int) : m ≤ upN m n := by unfold upN; split <;> omega
theorem upB_ge (m : Int) (b : ByteArray) : m ≤ upB m b := Int.le_trans (upN_ge _ _) (upN_ge _ _)
theorem nextW_ge : ∀ (L : List ByteArray) (m : Int), m ≤ nextW m L
  | [], m => Int.le_refl _
  | b :: L, m => by
    show m ≤ nextW (upB m b) L
    exact Int.le_trans (upB_ge m b) (nextW_ge L _)
theorem nextW_append (m : Int) (L : List ByteArray) (b : ByteArray) : nextW m (L ++ [b]) = upB (nextW m L) b := by
  unfold nextW; rw [List.foldl_append]; rfl
theorem upN_lt {m n : Int} (h : m < 4294967297) (_hn : n < 4294967296) : upN m n < 4294967297 := by unfold upN; split <;> omega
theorem upB_lt {m : Int} {b : ByteArray} (h : m < 4294967297) (h1 : endA b < 4294967296) (h2 : endB b < 4294967296) : upB m b < 4294967297 := upN_lt (upN_lt h h1) h2
theorem readF_pos {L : List (List UInt8)} {s : List UInt8} {n : Int} {k : Nat} (h : readF L = some (s, n, k)) : 1 ≤ k ∧ k ≤ L.length := by
  cases L with
  | nil => cases h
  | cons x L =>
    unfold readF at h
    dsimp only at h
    split at h
    · cases h
    · rename_i h0
      split at h
      · cases ht : textF (bodyF ((x :: L).take (valBE ((x.drop 6).take 2)).toNat)) (valBE ((x.drop 6).take 2)).toNat with
        | none => rw [ht] at h; cases h
        | some t => rw [ht] at h; simp at h; omega
      · cases h
theorem LL_length (L : List ByteArray) : (LL L).length = L.length := by simp [LL]
/-- More fuel changes nothing. -/
theorem scanW_fuel (L : List ByteArray) : ∀ (f g : Nat) (least : Int) (used : Nat), L.length - used ≤ f → L.length - used ≤ g → scanW L f least used = scanW L g least used
  | 0, 0, _, _, _, _ => rfl
  | 0, g + 1, least, used, h, _ => by
    have e : L.drop used = [] := List.drop_eq_nil_of_le (by omega)
    simp only [scanW]; rw [e]; rfl
  | f + 1, 0, least, used, _, h => by
    have e : L.drop used = [] := List.drop_eq_nil_of_le (by omega)
    simp only [scanW]; rw [e]; rfl
  | f + 1, g + 1, least, used, hf, hg => by
    simp only [scanW]
    cases h : readF (LL (L.drop used)) with
    | none => rfl
    | some x =>
      obtain ⟨s, n, k⟩ := x
      have hk := readF_pos h
      rw [LL_length, List.length_drop] at hk
      dsimp only
      split
      · rfl
      · rw [scanW_fuel L f g (n + 1) (used + k) (by omega) (by omega)]
theorem scanW_step {L : List ByteArray} {f : Nat} {least : Int} {used : Nat} {s : List UInt8} {n : Int} {k : Nat} (h : readF (LL (L.drop used)) = some (s, n, k)) (h1 : ¬ (n < least ∨ 2147483648 < n)) (hf : L.length - used ≤ f) :
    scanW L f least used = (ofL s :: (scanW L f (n + 1) (used + k)).1, (scanW L f (n + 1) (used + k)).2) := by
  have hk := readF_pos h
  rw [LL_length, List.length_drop] at hk
  cases f with
  | zero => omega
  | succ f =>
    rw [show scanW L (f + 1) least used = _ from rfl]
    simp only [scanW]
    rw [h]
    dsimp only
    rw [if_neg h1]
    have e := scanW_fuel L f (f + 1) (n + 1) (used + k) (by omega) (by omega)
    rw [e]
    simp only [scanW]
theorem scanW_stop {L : List ByteArray} {f : Nat} {least : Int} {used : Nat} {s : List UInt8} {n : Int} {k : Nat} (h : readF (LL (L.drop used)) = some (s, n, k)) (h1 : n < least ∨ 2147483648 < n) : scanW L f least used = ([], used) := by
  cases f with
  | zero => rfl
  | succ f => simp only [scanW]; rw [h]; dsimp only; rw [if_pos h1]
theorem scanW_none {L : List ByteArray} {f : Nat} {least : Int} {used : Nat} (h : readF (LL (L.drop used)) = none) : scanW L f least used = ([], used) := by
  cases f with
  | zero => rfl
  | succ f => simp only [scanW]; rw [h]
theorem scanW_le {L : List ByteArray} : ∀ (f : Nat) (least : Int) (used : Nat), used ≤ L.length → (scanW L f least used).2 ≤ L.length ∧ used ≤ (scanW L f least used).2 ∧ (scanW L f least used).1.length ≤ (scanW L f least used).2 - used
  | 0, _, used, h => ⟨h, Nat.le_refl _, Nat.zero_le _⟩
  | f + 1, least, used, h => by
    simp only [scanW]
    cases hr : readF (LL (L.drop used)) with
    | none => exact ⟨h, Nat.le_refl _, Nat.zero_le _⟩
    | some x =>
      obtain ⟨s, n, k⟩ := x
      have hk := readF_pos hr
      rw [LL_length, List.length_drop] at hk
      dsimp only
      split
      · exact ⟨h, Nat.le_refl _, Nat.zero_le _⟩
      · obtain ⟨h1, h2, h3⟩ := scanW_le (L := L) f (n + 1) (used + k) (by omega)
        refine ⟨h1, ?_, ?_⟩
        · dsimp only; omega
        · dsimp only; rw [List.length_cons]; omega
end Go.Proofs.YtdbiebnnogjccaaGreatDoor

/- The log (layer 21): torn sectors of small numbers; what is read of sectors, place by place. -/
namespace Go.Proofs.YtdbiebnnogjccaaGreatDoor
theorem list4 {l : List UInt8} (hl : l.length = 4) : ∃ b0 b1 b2 b3, l = [b0, b1, b2, b3] := by
  match l, hl with
  | [b0, b1, b2, b3], _ => exact ⟨b0, b1, b2, b3, rfl⟩
theorem u8_zero {b : UInt8} (h : b.toNat = 0) : b = 0 := UInt8.toNat_inj.1 (by rw [h]; rfl)
theorem smallV {l : List UInt8} (hl : l.length = 4) (h : valLE l < 256) : ∃ c, l = [c, 0, 0, 0] := by
  obtain ⟨b0, b1, b2, b3, rfl⟩ := list4 hl
  rw [valLE4] at h
  exact ⟨b0, by rw [u8_zero (b := b1) (by omega), u8_zero (b := b2) (by omega), u8_zero (b := b3) (by omega)]⟩
/-- A sector that was torn by one of a greater number, below 256: it is the old one, or has no number, or is the new one. -/
theorem torn3 {a b : List UInt8} {n : Int} (ha : a.length = 256) (hb : b.length = 256) (n0 : 0 < n) (n1 : n < 256) (a4 : valLE (a.take 4) < n) (a5 : valLE (a.drop 252) < n) (b4 : b.take 4 = mkL n) (b5 : b.drop 252 = mkL n) {i : Nat} (hi : i ≤ 256) :
    tornL a b i = a ∨ (numF (tornL a b i) = 0 ∧ (tornL a b i).take 4 = mkL n ∧ (tornL a b i).drop 252 = a.drop 252) ∨ tornL a b i = b := by
  have hl := tornL_length ha hb hi
  have hv := valLE_mk (n := n) (by omega) (by omega)
  obtain ⟨c, hc⟩ := smallV (mkL_length n) (by rw [hv]; exact n1)
  have l4 : (a.take 4).length = 4 := by rw [List.length_take, ha]; rfl
  have l5 : (a.drop 252).length = 4 := by rw [List.length_drop, ha]
  obtain ⟨x, hx⟩ := smallV l4 (by omega)
  obtain ⟨y, hy⟩ := smallV l5 (by omega)
  by_cases c0 : i = 0
  · subst c0; exact .inl torn_zero
  · by_cases c1 : i ≤ 252
    · have h5 := torn_low ha hb c1
      have h4 : (tornL a b i).take 4 = mkL n := by
        by_cases c4 : i < 4
        · have e : (tornL a b i).take 4 = (b.take 4).take i ++ (a.take 4).drop i := by
            unfold tornL
            rw [List.take_append, List.length_take, hb, List.take_take, List.take_take, List.drop_take]
            congr 1
            · congr 1; omega
            · congr 1; omega
          rw [e, b4, hc, hx]
          rcases (show i = 1 ∨ i = 2 ∨ i = 3 by omega) with rfl | rfl | rfl <;> rfl
        · unfold tornL
          rw [List.take_append_of_le_length (by rw [List.length_take, hb]; omega), List.take_take, ← b4]
          congr 1; omega
      refine .inr (.inl ⟨?_, h4, h5⟩)
      unfold numF
      rw [if_neg]
      rintro ⟨_, e⟩
      rw [h4, h5] at e
      rw [← e, hv] at a5
      omega
    · refine .inr (.inr ?_)
      have h5 : (tornL a b i).drop 252 = b.drop 252 := by
        rw [torn_high ha hb (by omega) hi, b5, hc, hy]
        rcases (show i - 252 = 1 ∨ i - 252 = 2 ∨ i - 252 = 3 ∨ i - 252 = 4 by omega) with e | e | e | e <;> rw [e] <;> rfl
      rw [← List.take_append_drop 252 (tornL a b i), torn_head ha hb (by omega) hi, h5, List.take_append_drop]
theorem torn_self {a : List UInt8} {i : Nat} : tornL a a i = a := by unfold tornL; exact List.take_append_drop _ _
/-- The first sector of those that are read. -/
theorem readF_head {x : List UInt8} {L : List (List UInt8)} {s : List UInt8} {n : Int} {k : Nat} (h : readF (x :: L) = some (s, n, k)) : n = numF x ∧ numF x ≠ 0 ∧ k = (valBE ((x.drop 6).take 2)).toNat := by
  unfold readF at h
  dsimp only at h
  split at h
  · cases h
  · rename_i h0
    split at h
    · cases ht : textF (bodyF ((x :: L).take (valBE ((x.drop 6).take 2)).toNat)) (valBE ((x.drop 6).take 2)).toNat with
      | none => rw [ht] at h; cases h
      | some t => rw [ht] at h; simp at h; exact ⟨h.2.1.symm, fun e => h0 (.inl e), h.2.2.symm⟩
    · cases h
theorem readF_nonum {x : List UInt8} {L : List (List UInt8)} (h : numF x = 0) : readF (x :: L) = none := by
  unfold readF
  dsimp only
  rw [if_pos (.inl h)]
theorem readF_pieces {L : List (List UInt8)} {s : List UInt8} {n : Int} {k : Nat} (h : readF L = some (s, n, k)) : ∀ i, i < k → numF (L.getD i []) = n := by
  cases L with
  | nil => cases h
  | cons x L =>
    have hn := readF_head h
    unfold readF at h
    dsimp only at h
    split at h
    · cases h
    · split at h
      · rename_i hp
        intro i hi
        rw [hn.2.2] at hi
        have := List.all_eq_true.1 hp i (List.mem_range.2 hi)
        unfold pieceF at this
        rw [Bool.and_eq_true, decide_eq_true_eq] at this
        rw [this.1, hn.1]
      · cases h
/-- What is read hangs on the sectors read alone. -/
theorem readF_local {L M : List (List UInt8)} {s : List UInt8} {n : Int} {k : Nat} (h : readF L = some (s, n, k)) (hl : L.length = M.length) (ht : L.take k = M.take k) : readF M = some (s, n, k) := by
  have hk := readF_pos h
  cases L with
  | nil => cases h
  | cons x L =>
    cases M with
    | nil => simp at hl
    | cons y M =>
      have hn := readF_head h
      obtain ⟨j, hj⟩ : ∃ j, k = j + 1 := ⟨k - 1, by omega⟩
      have hxy : x = y := by rw [hj, List.take_succ_cons, List.take_succ_cons] at ht; injection ht
      subst hxy
      have hk2 := hn.2.2
      rw [← h]
      unfold readF
      dsimp only
      rw [← hk2, ← hl, ← ht]
      have e : ((List.range k).all fun i => pieceF (numF x) k ((x :: M).getD i []) i) = ((List.range k).all fun i => pieceF (numF x) k ((x :: L).getD i []) i) := by
        rw [Bool.eq_iff_iff, List.all_eq_true, List.all_eq_true]
        refine forall_congr' fun i => forall_congr' fun hi => ?_
        have hi := List.mem_range.1 hi
        have e1 : (x :: M)[i]? = (x :: L)[i]? := by
          rw [← List.getElem?_take_of_lt hi, ← List.getElem?_take_of_lt (l := x :: L) hi, ht]
        rw [List.getD_eq_getElem?_getD, List.getD_eq_getElem?_getD, e1]
      rw [e]
end Go.Proofs.YtdbiebnnogjccaaGreatDoor
