/- Frames (layer 18): plain words: a record's sectors, and the record of sectors. -/
import Derived.Test.YtdbiebnnogjccaaGreatDoorCp
import Derived.Test.YtdbiebnnogjccaaGreatDoorPuB
namespace Go.Proofs.YtdbiebnnogjccaaGreatDoor
/-- The string of bytes. -/
def ofL (l : List UInt8) : ByteArray := ⟨l.toArray⟩
theorem ofL_list (l : List UInt8) : (ofL l).data.toList = l := by simp [ofL]
theorem ofL_size (l : List UInt8) : (ofL l).size = l.length := by rw [← size_list, ofL_list]
theorem ofL_of (b : ByteArray) : ofL b.data.toList = b := bytes_ext (ofL_list _)
theorem ofL_inj {a b : List UInt8} (h : ofL a = ofL b) : a = b := by rw [← ofL_list a, h, ofL_list]
/-- A number's bytes, the lowest first. -/
def mkL (n : Int) : List UInt8 := (beBytes n 4).reverse
theorem mkL_length (n : Int) : (mkL n).length = 4 := by simp [mkL, beBytes_length]
def valLE (l : List UInt8) : Int := valBE l.reverse
theorem valLE_mk {n : Int} (h0 : 0 ≤ n) (h1 : n < 4294967296) : valLE (mkL n) = n := by
  unfold valLE mkL; rw [List.reverse_reverse]; exact valBE_small h0 (by simpa using h1)
theorem mkL_inj {m n : Int} (h0 : 0 ≤ n) (h1 : n < 4294967296) (g0 : 0 ≤ m) (g1 : m < 4294967296) (h : mkL m = mkL n) : m = n := by
  rw [← valLE_mk g0 g1, h, valLE_mk h0 h1]
def numF (b : List UInt8) : Int := if b.length = 256 ∧ b.take 4 = b.drop 252 then valLE (b.take 4) else 0
def szN (n : Nat) : Nat := (n + 251) / 244
def sizeF (n : Int) : Int := if n < 0 ∨ 2000 < n then 0 else (n + 251) / 244
theorem sizeF_nat {k : Nat} (h : k ≤ 2000) : sizeF k = szN k := by unfold sizeF szN; rw [if_neg (by omega)]; omega
def head4 (s : List UInt8) : List UInt8 := beBytes s.length 4 ++ s
noncomputable def summed (s : List UInt8) : List UInt8 := head4 s ++ beBytes (sumN (head4 s) : Nat) 4
noncomputable def allF (s : List UInt8) : List UInt8 := summed s ++ List.replicate (szN s.length * 244 - (s.length + 8)) 0
theorem summed_length (s : List UInt8) : (summed s).length = s.length + 8 := by simp [summed, head4, beBytes_length]; omega
theorem allF_length (s : List UInt8) : (allF s).length = szN s.length * 244 := by
  simp only [allF, List.length_append, summed_length, List.length_replicate, szN]; omega
def secF (n : Int) (all : List UInt8) (k i : Nat) : List UInt8 := mkL n ++ (beBytes i 2 ++ (beBytes k 2 ++ ((all.drop (i * 244)).take 244 ++ mkL n)))
noncomputable def secsF (n : Int) (s : List UInt8) : List (List UInt8) := (List.range (szN s.length)).map (secF n (allF s) (szN s.length))
theorem secsF_length (n : Int) (s : List UInt8) : (secsF n s).length = szN s.length := by simp [secsF]
theorem secsF_get {n : Int} {s : List UInt8} {i : Nat} (h : i < (secsF n s).length) : (secsF n s)[i] = secF n (allF s) (szN s.length) i := by simp [secsF]
/-- The record's sectors, or that there are none. -/
noncomputable def makeF (n : Int) (s : List UInt8) : List (List UInt8) × Int := if n = 0 then ([], 1) else if 2000 < s.length then ([], 2) else (secsF n s, 0)

section
variable {n : Int} {all : List UInt8} {k i : Nat}
theorem piece_length (h : all.length = k * 244) (hi : i < k) : ((all.drop (i * 244)).take 244).length = 244 := by
  rw [List.length_take, List.length_drop, h]
  have : (i + 1) * 244 ≤ k * 244 := Nat.mul_le_mul_right _ hi
  omega
theorem sec_length (h : all.length = k * 244) (hi : i < k) : (secF n all k i).length = 256 := by
  simp only [secF, List.length_append, mkL_length, beBytes_length, piece_length h hi]
theorem sec_take4 : (secF n all k i).take 4 = mkL n := List.take_left' (mkL_length n)
theorem sec_drop4 : (secF n all k i).drop 4 = beBytes i 2 ++ (beBytes k 2 ++ ((all.drop (i * 244)).take 244 ++ mkL n)) := List.drop_left' (mkL_length n)
theorem sec_place : ((secF n all k i).drop 4).take 4 = beBytes i 2 ++ beBytes k 2 := by
  rw [sec_drop4, ← List.append_assoc]; exact List.take_left' (by simp [beBytes_length])
theorem sec_many : ((secF n all k i).drop 6).take 2 = beBytes k 2 := by
  rw [show 6 = 4 + 2 from rfl, ← List.drop_drop, sec_drop4, List.drop_left' (beBytes_length _ _)]
  exact List.take_left' (beBytes_length _ _)
theorem sec_piece (h : all.length = k * 244) (hi : i < k) : ((secF n all k i).drop 8).take 244 = (all.drop (i * 244)).take 244 := by
  rw [show 8 = 4 + (2 + 2) from rfl, ← List.drop_drop, sec_drop4, ← List.drop_drop, List.drop_left' (beBytes_length _ _), List.drop_left' (beBytes_length _ _)]
  exact List.take_left' (piece_length h hi)
theorem sec_end (h : all.length = k * 244) (hi : i < k) : (secF n all k i).drop 252 = mkL n := by
  rw [show 252 = 4 + (2 + (2 + 244)) from rfl, ← List.drop_drop, sec_drop4, ← List.drop_drop, List.drop_left' (beBytes_length _ _), ← List.drop_drop, List.drop_left' (beBytes_length _ _)]
  exact List.drop_left' (piece_length h hi)
theorem sec_num (h0 : 0 ≤ n) (h1 : n < 4294967296) (h : all.length = k * 244) (hi : i < k) : numF (secF n all k i) = n := by
  unfold numF
  rw [if_pos ⟨sec_length h hi, by rw [sec_take4, sec_end h hi]⟩, sec_take4, valLE_mk h0 h1]
end

/-- Is it the piece i of k of the record n? -/
def pieceF (n : Int) (k : Nat) (b : List UInt8) (i : Nat) : Bool := decide (numF b = n) && decide ((b.drop 4).take 4 = beBytes i 2 ++ beBytes k 2)
def bodyF (L : List (List UInt8)) : List UInt8 := (L.map fun b => (b.drop 8).take 244).flatten
noncomputable def textF (all : List UInt8) (k : Nat) : Option (List UInt8) :=
  if 2000 < valBE (all.take 4) ∨ szN (valBE (all.take 4)).toNat ≠ k then none
  else if valBE ((all.drop (4 + (valBE (all.take 4)).toNat)).take 4) = ((sumN (all.take (4 + (valBE (all.take 4)).toNat)) : Nat) : Int) ∧ (all.drop (8 + (valBE (all.take 4)).toNat)).all (· == 0) = true then some ((all.drop 4).take (valBE (all.take 4)).toNat) else none
/-- The record with which sectors begin, its number, and how many sectors it has. -/
noncomputable def readF (L : List (List UInt8)) : Option (List UInt8 × Int × Nat) :=
  match L with
  | [] => none
  | x :: _ =>
    if numF x = 0 ∨ (valBE ((x.drop 6).take 2)).toNat < 1 ∨ L.length < (valBE ((x.drop 6).take 2)).toNat then none
    else if (List.range (valBE ((x.drop 6).take 2)).toNat).all (fun i => pieceF (numF x) (valBE ((x.drop 6).take 2)).toNat (L.getD i []) i) then
      (textF (bodyF (L.take (valBE ((x.drop 6).take 2)).toNat)) (valBE ((x.drop 6).take 2)).toNat).map fun s => (s, numF x, (valBE ((x.drop 6).take 2)).toNat)
    else none

theorem flat_pieces (all : List UInt8) : ∀ k, ((List.range k).map fun i => (all.drop (i * 244)).take 244).flatten = all.take (k * 244)
  | 0 => by simp
  | k + 1 => by
    rw [List.range_succ, List.map_append, List.flatten_append, flat_pieces all k]
    simp only [List.map_cons, List.map_nil, List.flatten_cons, List.flatten_nil, List.append_nil]
    rw [show (k + 1) * 244 = k * 244 + 244 by omega, List.take_add]
theorem body_made (n : Int) (s : List UInt8) : bodyF (secsF n s) = allF s := by
  unfold bodyF secsF
  rw [List.map_map]
  have e : (List.range (szN s.length)).map ((fun b : List UInt8 => (b.drop 8).take 244) ∘ secF n (allF s) (szN s.length)) = (List.range (szN s.length)).map fun i => ((allF s).drop (i * 244)).take 244 :=
    List.map_congr_left fun i hi => sec_piece (allF_length s) (List.mem_range.1 hi)
  rw [e, flat_pieces, ← allF_length, List.take_length]
theorem all_take4 (s : List UInt8) : (allF s).take 4 = beBytes s.length 4 := by
  unfold allF summed head4
  rw [List.append_assoc, List.append_assoc]
  exact List.take_left' (beBytes_length _ _)
theorem all_head (s : List UInt8) : (allF s).take (4 + s.length) = head4 s := by
  unfold allF summed
  rw [List.append_assoc]
  exact List.take_left' (by simp [head4, beBytes_length])
theorem all_sum (s : List UInt8) : ((allF s).drop (4 + s.length)).take 4 = beBytes (sumN (head4 s) : Nat) 4 := by
  unfold allF summed
  rw [List.append_assoc, List.drop_left' (by simp [head4, beBytes_length])]
  exact List.take_left' (beBytes_length _ _)
theorem all_rest (s : List UInt8) : (allF s).drop (8 + s.length) = List.replicate (szN s.length * 244 - (s.length + 8)) 0 := by
  unfold allF
  exact List.drop_left' (by rw [summed_length]; omega)
theorem all_text (s : List UInt8) : ((allF s).drop 4).take s.length = s := by
  unfold allF summed head4
  rw [List.append_assoc, List.append_assoc, List.drop_left' (beBytes_length _ _)]
  exact List.take_left' rfl
theorem text_made {s : List UInt8} (hs : s.length ≤ 2000) : textF (allF s) (szN s.length) = some s := by
  have hv : valBE ((allF s).take 4) = s.length := by rw [all_take4]; exact valBE_small (by omega) (by omega)
  unfold textF
  rw [hv, Int.toNat_natCast, if_neg (by omega), all_sum, all_head, all_rest, all_text, if_pos ⟨valBE_small (by omega) (by have := sumN_lt (head4 s); omega), by simp⟩]
theorem sz_pos (n : Nat) : 0 < szN n := by unfold szN; omega
theorem sz_le {n : Nat} (h : n ≤ 2000) : szN n ≤ 9 := by unfold szN; omega
theorem secs_cons (n : Int) (s : List UInt8) : ∃ L, secsF n s = secF n (allF s) (szN s.length) 0 :: L := by
  cases h : secsF n s with
  | nil => have := secsF_length n s; rw [h] at this; have := sz_pos s.length; simp at *; omega
  | cons x L =>
    have h0 : 0 < (secsF n s).length := by rw [h]; simp
    have := secsF_get h0
    simp only [h, List.getElem_cons_zero] at this
    exact ⟨L, by rw [this]⟩
theorem val2 {k : Nat} (h : k < 65536) : (valBE (beBytes k 2)).toNat = k := by
  rw [valBE_small (by omega) (by omega)]; omega
/-- What was made is read. -/
theorem read_made {n : Int} {s : List UInt8} (h0 : 0 < n) (h1 : n < 4294967296) (hs : s.length ≤ 2000) (q : List (List UInt8)) : readF (secsF n s ++ q) = some (s, n, szN s.length) := by
  obtain ⟨L, hL⟩ := secs_cons n s
  have hp := sz_pos s.length
  have h9 := sz_le hs
  have hlen := secsF_length n s
  have e1 : secsF n s ++ q = secF n (allF s) (szN s.length) 0 :: (L ++ q) := by rw [hL]; rfl
  have hd : ((secF n (allF s) (szN s.length) 0).drop 6).take 2 = beBytes (szN s.length) 2 := sec_many
  have hn : numF (secF n (allF s) (szN s.length) 0) = n := sec_num (by omega) h1 (allF_length s) hp
  have e2 : readF (secsF n s ++ q) = (if numF (secF n (allF s) (szN s.length) 0) = 0 ∨ (valBE (((secF n (allF s) (szN s.length) 0).drop 6).take 2)).toNat < 1 ∨ (secsF n s ++ q).length < (valBE (((secF n (allF s) (szN s.length) 0).drop 6).take 2)).toNat then none
    else if (List.range (valBE (((secF n (allF s) (szN s.length) 0).drop 6).take 2)).toNat).all (fun i => pieceF (numF (secF n (allF s) (szN s.length) 0)) (valBE (((secF n (allF s) (szN s.length) 0).drop 6).take 2)).toNat ((secsF n s ++ q).getD i []) i) then
      (textF (bodyF ((secsF n s ++ q).take (valBE (((secF n (allF s) (szN s.length) 0).drop 6).take 2)).toNat)) (valBE (((secF n (allF s) (szN s.length) 0).drop 6).take 2)).toNat).map fun t => (t, numF (secF n (allF s) (szN s.length) 0), (valBE (((secF n (allF s) (szN s.length) 0).drop 6).take 2)).toNat)
    else none) := by rw [e1]; rfl
  rw [e2, hd, hn, val2 (by omega), if_neg (by rw [List.length_append, hlen]; omega), if_pos, List.take_left' hlen, body_made, text_made hs]
  · rfl
  · rw [List.all_eq_true]
    intro i hi
    have hi' : i < szN s.length := List.mem_range.1 hi
    have hg : (secsF n s ++ q).getD i [] = secF n (allF s) (szN s.length) i := by
      rw [List.getD_eq_getElem?_getD, List.getElem?_append_left (by rw [hlen]; exact hi'), List.getElem?_eq_getElem (by rw [hlen]; exact hi'), secsF_get]; rfl
    rw [hg]
    unfold pieceF
    rw [sec_num (by omega) h1 (allF_length s) hi', sec_place]
    simp
/-- What bears another number's sector, or too few, is no record. -/
theorem read_few {L : List (List UInt8)} {x : List UInt8} {k : Nat} (hx : L.head? = some x) (hk : ((x.drop 6).take 2) = beBytes k 2) (h6 : k < 65536) (hl : L.length < k) : readF L = none := by
  cases L with
  | nil => simp at hx
  | cons y L =>
    simp at hx; subst hx
    unfold readF
    dsimp only
    rw [hk, val2 h6, if_pos (.inr (.inr hl))]
theorem read_other {L : List (List UInt8)} {x y : List UInt8} {k i : Nat} (hx : L.head? = some x) (hk : ((x.drop 6).take 2) = beBytes k 2) (h6 : k < 65536) (hi : i < k) (hy : L[i]? = some y) (hne : numF y ≠ numF x) : readF L = none := by
  cases L with
  | nil => simp at hx
  | cons z L =>
    simp at hx; subst hx
    unfold readF
    dsimp only
    rw [hk, val2 h6]
    split
    · rfl
    · rw [if_neg]
      rw [Bool.not_eq_true, List.all_eq_false]
      refine ⟨i, List.mem_range.2 hi, ?_⟩
      rw [List.getD_eq_getElem?_getD, hy]
      unfold pieceF
      simp [hne]
end Go.Proofs.YtdbiebnnogjccaaGreatDoor
