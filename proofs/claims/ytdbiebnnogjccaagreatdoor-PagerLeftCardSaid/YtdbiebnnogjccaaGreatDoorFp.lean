/- Disks (layer 19): what a disk is in memory; its plain word; told, may, at, Read, crashes, Start, Dead, Size. -/
import Derived.Test.YtdbiebnnogjccaaGreatDoorIs
import Derived.Test.YtdbiebnnogjccaaGreatDoorSh
import Derived.Lib.Hide
import Derived.Test.YtdbiebnnogjccaaGreatDoorCp
import Derived.Test.YtdbiebnnogjccaaGreatDoorPuB
namespace Go.Proofs.YtdbiebnnogjccaaGreatDoor
open Go.RowKit
theorem below_alloc1 (w : World) (o : Obj) : Below w.heap.size w (w.alloc o) := (Below.refl _ _).alloc (Nat.le_refl _) _
/-- What a world holds for disks: the laid variables. -/
structure DkW (w : World) (aD aA : Addr) : Prop where
  vD : w.cell? ⟨8, 0, none⟩ = some (.iface 308 (.pointer (some aD)))
  vA : w.cell? ⟨0, 0, none⟩ = some (.iface 308 (.pointer (some aA)))
  bD : ∃ c t, w.heap[aD.block]? = some (.cells c t (0, 0))
  bA : ∃ c t, w.heap[aA.block]? = some (.cells c t (0, 0))
  ne : aD ≠ aA
theorem dk_cell {w w' : World} {g o : Nat} {v : Value} (h : w.cell? ⟨g, o, none⟩ = some v) (hb : Below w.heap.size w w') : w'.cell? ⟨g, o, none⟩ = some v := by
  rw [hb.cell (p := ⟨g, o, none⟩) (World.block_lt_of_cell? w ⟨g, o, none⟩ h)]; exact h
theorem dk_blk {w w' : World} {b : Nat} (h : ∃ c t, w.heap[b]? = some (.cells c t (0, 0))) (hb : Below w.heap.size w w') : ∃ c t, w'.heap[b]? = some (.cells c t (0, 0)) := by
  obtain ⟨c, t, h⟩ := h
  exact ⟨c, t, blk_below h hb⟩
theorem DkW.below {w w' : World} {aD aA : Addr} (h : DkW w aD aA) (hb : Below w.heap.size w w') : DkW w' aD aA :=
  ⟨dk_cell h.vD hb, dk_cell h.vA hb, dk_blk h.bD hb, dk_blk h.bA hb, h.ne⟩
/-- The sentinel behind a number: 74 dead, else an argument. -/
def whyA (aD aA : Addr) (c : Int) : Addr := if c = 74 then aD else aA
set_option maxHeartbeats 1000000 in
theorem disk_told_dead (p : Nat) (aD aA : Addr) (w : World) (hw : DkW w aD aA) (h1 : w.cell? ⟨p, 1, none⟩ = some (.iface 308 (.pointer (some aD)))) :
    Calls Tryz.prog 92 #[.iface 150 (.pointer (some ⟨p, 0, none⟩))] w fun e w' => e = .returned (.int .i64 74) ∧ w = w' := by
  have I1 := Lib.hid (is_wrap_same p aD w h1)
  have hv := hw.vD
  clear hw h1
  go_enter Tryz.func92, Tryz.ntmps92
  go_wp2_with fail
  refine I1.out.mono ?_; rintro e w1 ⟨rfl, rfl⟩
  go_wp2_with fail
  go_ret
  exact ⟨rfl, rfl⟩
set_option maxHeartbeats 1000000 in
theorem disk_told_arg (p : Nat) (aD aA : Addr) (w : World) (hw : DkW w aD aA) (h1 : w.cell? ⟨p, 1, none⟩ = some (.iface 308 (.pointer (some aA)))) :
    Calls Tryz.prog 92 #[.iface 150 (.pointer (some ⟨p, 0, none⟩))] w fun e w' => e = .returned (.int .i64 1) ∧ w = w' := by
  obtain ⟨cD, tD, hD⟩ := hw.bD
  obtain ⟨cA, tA, hA⟩ := hw.bA
  have I1 := Lib.hid (is_wrap_other p aA aD cA cD tA tD w (fun e => hw.ne e.symm) hA hD h1)
  have I2 := Lib.hid (is_wrap_same p aA w h1)
  have hv := hw.vD
  have hv2 := hw.vA
  clear hw h1 hD hA
  go_enter Tryz.func92, Tryz.ntmps92
  go_wp2_with fail
  refine I1.out.mono ?_; rintro e w1 ⟨rfl, rfl⟩
  go_wp2_with fail
  refine I2.out.mono ?_; rintro e w1 ⟨rfl, rfl⟩
  go_wp2_with fail
  go_ret
  exact ⟨rfl, rfl⟩
theorem disk_told (c : Int) (hc : c = 1 ∨ c = 74) (p : Nat) (aD aA : Addr) (w : World) (hw : DkW w aD aA) (h1 : w.cell? ⟨p, 1, none⟩ = some (.iface 308 (.pointer (some (whyA aD aA c))))) :
    Calls Tryz.prog 92 #[.iface 150 (.pointer (some ⟨p, 0, none⟩))] w fun e w' => e = .returned (.int .i64 c) ∧ w = w' := by
  rcases hc with rfl | rfl
  · exact disk_told_arg p aD aA w hw h1
  · exact disk_told_dead p aD aA w hw h1
/-- A disk in plain words. -/
structure Dk where
  n : Int
  m : Int → Option ByteArray
  c : Int → Option ByteArray
  armed : Bool
  left : Int
  keep : List (Int × Int)
  dead : Bool
/-- Pairs (a sector, how many bytes) in memory, two cells each. -/
structure KeptAt (w : World) (b off : Nat) (l : List (Int × Int)) : Prop where
  lt : l ≠ [] → b < w.heap.size
  sec : ∀ i (h : i < l.length), w.cell? ⟨b, off + i * 2, none⟩ = some (.int .i64 l[i].1)
  byt : ∀ i (h : i < l.length), w.cell? ⟨b, off + i * 2 + 1, none⟩ = some (.int .i64 l[i].2)
theorem KeptAt.below {w w' : World} {b off : Nat} {l : List (Int × Int)} (h : KeptAt w b off l) (hb : Below w.heap.size w w') : KeptAt w' b off l := by
  by_cases hl : l = []
  · subst hl
    exact ⟨fun h => absurd rfl h, fun i h => absurd h (by simp), fun i h => absurd h (by simp)⟩
  · have hlt := h.lt hl
    exact ⟨fun _ => Nat.lt_of_lt_of_le hlt hb.size, fun i hi => by rw [hb.cell (p := ⟨b, off + i * 2, none⟩) hlt]; exact h.sec i hi, fun i hi => by rw [hb.cell (p := ⟨b, off + i * 2 + 1, none⟩) hlt]; exact h.byt i hi⟩
def SlKept (w : World) (v : Value) (l : List (Int × Int)) : Prop := (l = [] ∧ ∃ p c, v = .slice p 0 c) ∨ ∃ b off cap, v = .slice (some ⟨b, off, none⟩) l.length cap ∧ l.length ≤ cap ∧ KeptAt w b off l
theorem SlKept.below {w w' : World} {v : Value} {l : List (Int × Int)} (h : SlKept w v l) (hb : Below w.heap.size w w') : SlKept w' v l := by
  rcases h with h | ⟨b, off, cap, e, hc, h⟩
  · exact .inl h
  · exact .inr ⟨b, off, cap, e, hc, h.below hb⟩
theorem KeptAt.fr {S : Nat → Prop} {w w' : World} {b off : Nat} {l : List (Int × Int)} (h : KeptAt w b off l) (hf : Fr S w w') (hs : ¬ S b) : KeptAt w' b off l := by
  by_cases hl : l = []
  · subst hl
    exact ⟨fun h => absurd rfl h, fun i h => absurd h (by simp), fun i h => absurd h (by simp)⟩
  · have hlt := h.lt hl
    exact ⟨fun _ => Nat.lt_of_lt_of_le hlt hf.size, fun i hi => by rw [hf.cell hlt hs]; exact h.sec i hi, fun i hi => by rw [hf.cell hlt hs]; exact h.byt i hi⟩
theorem SlKept.fr {S : Nat → Prop} {w w' : World} {v : Value} {l : List (Int × Int)} (h : SlKept w v l) (hf : Fr S w w') (hs : ∀ b off n c, v = .slice (some ⟨b, off, none⟩) n c → ¬ S b) : SlKept w' v l := by
  rcases h with h | ⟨b, off, cap, e, hc, h⟩
  · exact .inl h
  · exact .inr ⟨b, off, cap, e, hc, h.fr hf (hs _ _ _ _ e)⟩
/-- The struct's cells. -/
def dkCells (d : Dk) (mb cb : Nat) (kv : Value) : Array Value := #[.int .i64 d.n, .map (some mb), .map (some cb), .bool d.armed, .int .i64 d.left, kv, .bool d.dead]
/-- A disk in memory: its struct at g, its maps at mb and cb, what it keeps. -/
structure DiskAt (w : World) (g mb cb k : Nat) (kv : Value) (d : Dk) : Prop where
  blk : w.heap[g]? = some (.cells (dkCells d mb cb kv) 109 (0, 0))
  hm : MapS w mb k d.m
  hc : MapS w cb k d.c
  hk : SlKept w kv d.keep
  n0 : 1 ≤ d.n
  n1 : d.n ≤ 4096
  gm : g ≠ mb
  gc : g ≠ cb
  mc : mb ≠ cb
  kn : ∀ b off n c, kv = .slice (some ⟨b, off, none⟩) n c → b ≠ g ∧ b ≠ mb ∧ b ≠ cb
theorem DiskAt.below {w w' : World} {g mb cb k : Nat} {kv : Value} {d : Dk} (h : DiskAt w g mb cb k kv d) (hb : Below w.heap.size w w') : DiskAt w' g mb cb k kv d :=
  ⟨blk_below h.blk hb, h.hm.below hb, h.hc.below hb, h.hk.below hb, h.n0, h.n1, h.gm, h.gc, h.mc, h.kn⟩
/-- Why something can't be done on a sector; nought: it can. -/
def Dk.may (d : Dk) (i : Int) : Int := if d.dead then 74 else if i < 0 ∨ d.n ≤ i then 1 else 0
def MayP (c : Int) (aD aA : Addr) (e : Ending) (w' : World) : Prop :=
  if c = 0 then e = .returned .nilIface else ∃ p, e = .returned (.iface 150 (.pointer (some ⟨p, 0, none⟩))) ∧ w'.cell? ⟨p, 1, none⟩ = some (.iface 308 (.pointer (some (whyA aD aA c))))
set_option maxHeartbeats 1000000 in
theorem disk_may (i : Int) (g mb cb k : Nat) (kv : Value) (d : Dk) (aD aA : Addr) (w : World) (hw : DkW w aD aA) (hd : DiskAt w g mb cb k kv d) :
    Calls Tryz.prog 91 #[.pointer (some ⟨g, 0, none⟩), .int .i64 i] w fun e w' => MayP (d.may i) aD aA e w' ∧ Below w.heap.size w w' := by
  have hc := blk_cell hd.blk
  have vD := hw.vD
  have vA := hw.vA
  clear hw hd
  unfold dkCells at hc
  cases hdead : d.dead with
  | true =>
    rw [show d.may i = 74 by unfold Dk.may; rw [hdead]; rfl]
    rw [hdead] at hc
    clear hdead
    go_enter Tryz.func91, Tryz.ntmps91
    go_wp2_with fail
    go_ret
    refine ⟨?_, below_alloc1 _ _⟩
    exact ⟨_, rfl, by rw [blk_cell (blk_new _ _)]; rfl⟩
  | false =>
    rw [hdead] at hc
    by_cases h0 : i < 0
    · rw [show d.may i = 1 by unfold Dk.may; rw [hdead, if_neg (by decide), if_pos (.inl h0)]]
      clear hdead
      go_enter Tryz.func91, Tryz.ntmps91
      go_wp2_with fail
      go_ret
      refine ⟨?_, below_alloc1 _ _⟩
      exact ⟨_, rfl, by rw [blk_cell (blk_new _ _)]; rfl⟩
    · by_cases h1 : d.n ≤ i
      · rw [show d.may i = 1 by unfold Dk.may; rw [hdead, if_neg (by decide), if_pos (.inr h1)]]
        clear hdead
        go_enter Tryz.func91, Tryz.ntmps91
        go_wp2_with fail
        go_ret
        refine ⟨?_, below_alloc1 _ _⟩
        exact ⟨_, rfl, by rw [blk_cell (blk_new _ _)]; rfl⟩
      · rw [show d.may i = 0 by unfold Dk.may; rw [hdead, if_neg (by decide), if_neg (by omega)]]
        clear hdead
        go_enter Tryz.func91, Tryz.ntmps91
        go_wp2_with fail
        go_ret
        exact ⟨rfl, Below.refl _ _⟩
end Go.Proofs.YtdbiebnnogjccaaGreatDoor

/- Frames (layer 18): plain words: a record's sectors, and the record of sectors. -/
namespace Go.Proofs.YtdbiebnnogjccaaGreatDoor
/-- The string of bytes. -/
def ofL (l : List UInt8) : ByteArray := ⟨l.toArray⟩
theorem ofL_list (l : List UInt8) : (ofL l).data.toList = l := by simp [ofL]
theorem ofL_size (l : List UInt8) : (ofL l).size = l.length := by rw [← size_list, ofL_list]
theorem ofL_of (b : ByteArray) : ofL b.data.toList = b := bytes_ext (ofL_list _)
theorem ofL_inj {a b : List UInt8} (h : ofL a = ofL b) : a = b := by rw [← ofL_list a, h, ofL_list]
/-- A number's bytes, the lowest first. -/
def mkL (n : Int) : List UInt8 := (beBytes n 4).reverse
theorem mkL_length (n : Int) : (mkL n).length = 4 := by simp [mkL, beBytes_length]
def valLE (l : List UInt8) : Int := valBE l.reverse
theorem valLE_mk {n : Int} (h0 : 0 ≤ n) (h1 : n < 4294967296) : valLE (mkL n) = n := by
  unfold valLE mkL; rw [List.reverse_reverse]; exact valBE_small h0 (by simpa using h1)
theorem mkL_inj {m n : Int} (h0 : 0 ≤ n) (h1 : n < 4294967296) (g0 : 0 ≤ m) (g1 : m < 4294967296) (h : mkL m = mkL n) : m = n := by
  rw [← valLE_mk g0 g1, h, valLE_mk h0 h1]
def numF (b : List UInt8) : Int := if b.length = 256 ∧ b.take 4 = b.drop 252 then valLE (b.take 4) else 0
def szN (n : Nat) : Nat := (n + 251) / 244
def sizeF (n : Int) : Int := if n < 0 ∨ 2000 < n then 0 else (n + 251) / 244
theorem sizeF_nat {k : Nat} (h : k ≤ 2000) : sizeF k = szN k := by unfold sizeF szN; rw [if_neg (by omega)]; omega
def head4 (s : List UInt8) : List UInt8 := beBytes s.length 4 ++ s
noncomputable def summed (s : List UInt8) : List UInt8 := head4 s ++ beBytes (sumN (head4 s) : Nat) 4
noncomputable def allF (s : List UInt8) : List UInt8 := summed s ++ List.replicate (szN s.length * 244 - (s.length + 8)) 0
theorem summed_length (s : List UInt8) : (summed s).length = s.length + 8 := by simp [summed, head4, beBytes_length]; omega
theorem allF_length (s : List UInt8) : (allF s).length = szN s.length * 244 := by
  simp only [allF, List.length_append, summed_length, List.length_replicate, szN]; omega
def secF (n : Int) (all : List UInt8) (k i : Nat) : List UInt8 := mkL n ++ (beBytes i 2 ++ (beBytes k 2 ++ ((all.drop (i * 244)).take 244 ++ mkL n)))
noncomputable def secsF (n : Int) (s : List UInt8) : List (List UInt8) := (List.range (szN s.length)).map (secF n (allF s) (szN s.length))
theorem secsF_length (n : Int) (s : List UInt8) : (secsF n s).length = szN s.length := by simp [secsF]
theorem secsF_get {n : Int} {s : List UInt8} {i : Nat} (h : i < (secsF n s).length) : (secsF n s)[i] = secF n (allF s) (szN s.length) i := by simp [secsF]
/-- The record's sectors, or that there are none. -/
noncomputable def makeF (n : Int) (s : List UInt8) : List (List UInt8) × Int := if n = 0 then ([], 1) else if 2000 < s.length then ([], 2) else (secsF n s, 0)

section
variable {n : Int} {all : List UInt8} {k i : Nat}
theorem piece_length (h : all.length = k * 244) (hi : i < k) : ((all.drop (i * 244)).take 244).length = 244 := by
  rw [List.length_take, List.length_drop, h]
  have : (i + 1) * 244 ≤ k * 244 := Nat.mul_le_mul_right _ hi
  omega
theorem sec_length (h : all.length = k * 244) (hi : i < k) : (secF n all k i).length = 256 := by
  simp only [secF, List.length_append, mkL_length, beBytes_length, piece_length h hi]
theorem sec_take4 : (secF n all k i).take 4 = mkL n := List.take_left' (mkL_length n)
theorem sec_drop4 : (secF n all k i).drop 4 = beBytes i 2 ++ (beBytes k 2 ++ ((all.drop (i * 244)).take 244 ++ mkL n)) := List.drop_left' (mkL_length n)
theorem sec_place : ((secF n all k i).drop 4).take 4 = beBytes i 2 ++ beBytes k 2 := by
  rw [sec_drop4, ← List.append_assoc]; exact List.take_left' (by simp [beBytes_length])
theorem sec_many : ((secF n all k i).drop 6).take 2 = beBytes k 2 := by
  rw [show 6 = 4 + 2 from rfl, ← List.drop_drop, sec_drop4, List.drop_left' (beBytes_length _ _)]
  exact List.take_left' (beBytes_length _ _)
theorem sec_piece (h : all.length = k * 244) (hi : i < k) : ((secF n all k i).drop 8).take 244 = (all.drop (i * 244)).take 244 := by
  rw [show 8 = 4 + (2 + 2) from rfl, ← List.drop_drop, sec_drop4, ← List.drop_drop, List.drop_left' (beBytes_length _ _), List.drop_left' (beBytes_length _ _)]
  exact List.take_left' (piece_length h hi)
theorem sec_end (h : all.length = k * 244) (hi : i < k) : (secF n all k i).drop 252 = mkL n := by
  rw [show 252 = 4 + (2 + (2 + 244)) from rfl, ← List.drop_drop, sec_drop4, ← List.drop_drop, List.drop_left' (beBytes_length _ _), ← List.drop_drop, List.drop_left' (beBytes_length _ _)]
  exact List.drop_left' (piece_length h hi)
theorem sec_num (h0 : 0 ≤ n) (h1 : n < 4294967296) (h : all.length = k * 244) (hi : i < k) : numF (secF n all k i) = n := by
  unfold numF
  rw [if_pos ⟨sec_length h hi, by rw [sec_take4, sec_end h hi]⟩, sec_take4, valLE_mk h0 h1]
end

/-- Is it the piece i of k of the record n? -/
def pieceF (n : Int) (k : Nat) (b : List UInt8) (i : Nat) : Bool := decide (numF b = n) && decide ((b.drop 4).take 4 = beBytes i 2 ++ beBytes k 2)
def bodyF (L : List (List UInt8)) : List UInt8 := (L.map fun b => (b.drop 8).take 244).flatten
noncomputable def textF (all : List UInt8) (k : Nat) : Option (List UInt8) :=
  if 2000 < valBE (all.take 4) ∨ szN (valBE (all.take 4)).toNat ≠ k then none
  else if valBE ((all.drop (4 + (valBE (all.take 4)).toNat)).take 4) = ((sumN (all.take (4 + (valBE (all.take 4)).toNat)) : Nat) : Int) ∧ (all.drop (8 + (valBE (all.take 4)).toNat)).all (· == 0) = true then some ((all.drop 4).take (valBE (all.take 4)).toNat) else none
/-- The record with which sectors begin, its number, and how many sectors it has. -/
noncomputable def readF (L : List (List UInt8)) : Option (List UInt8 × Int × Nat) :=
  match L with
  | [] => none
  | x :: _ =>
    if numF x = 0 ∨ (valBE ((x.drop 6).take 2)).toNat < 1 ∨ L.length < (valBE ((x.drop 6).take 2)).toNat then none
    else if (List.range (valBE ((x.drop 6).take 2)).toNat).all (fun i => pieceF (numF x) (valBE ((x.drop 6).take 2)).toNat (L.getD i []) i) then
      (textF (bodyF (L.take (valBE ((x.drop 6).take 2)).toNat)) (valBE ((x.drop 6).take 2)).toNat).map fun s => (s, numF x, (valBE ((x.drop 6).take 2)).toNat)
    else none

theorem flat_pieces (all : List UInt8) : ∀ k, ((List.range k).map fun i => (all.drop (i * 244)).take 244).flatten = all.take (k * 244)
  | 0 => by simp
  | k + 1 => by
    rw [List.range_succ, List.map_append, List.flatten_append, flat_pieces all k]
    simp only [List.map_cons, List.map_nil, List.flatten_cons, List.flatten_nil, List.append_nil]
    rw [show (k + 1) * 244 = k * 244 + 244 by omega, List.take_add]
theorem body_made (n : Int) (s : List UInt8) : bodyF (secsF n s) = allF s := by
  unfold bodyF secsF
  rw [List.map_map]
  have e : (List.range (szN s.length)).map ((fun b : List UInt8 => (b.drop 8).take 244) ∘ secF n (allF s) (szN s.length)) = (List.range (szN s.length)).map fun i => ((allF s).drop (i * 244)).take 244 :=
    List.map_congr_left fun i hi => sec_piece (allF_length s) (List.mem_range.1 hi)
  rw [e, flat_pieces, ← allF_length, List.take_length]
theorem all_take4 (s : List UInt8) : (allF s).take 4 = beBytes s.length 4 := by
  unfold allF summed head4
  rw [List.append_assoc, List.append_assoc]
  exact List.take_left' (beBytes_length _ _)
theorem all_head (s : List UInt8) : (allF s).take (4 + s.length) = head4 s := by
  unfold allF summed
  rw [List.append_assoc]
  exact List.take_left' (by simp [head4, beBytes_length])
theorem all_sum (s : List UInt8) : ((allF s).drop (4 + s.length)).take 4 = beBytes (sumN (head4 s) : Nat) 4 := by
  unfold allF summed
  rw [List.append_assoc, List.drop_left' (by simp [head4, beBytes_length])]
  exact List.take_left' (beBytes_length _ _)
theorem all_rest (s : List UInt8) : (allF s).drop (8 + s.length) = List.replicate (szN s.length * 244 - (s.length + 8)) 0 := by
  unfold allF
  exact List.drop_left' (by rw [summed_length]; omega)
theorem all_text (s : List UInt8) : ((allF s).drop 4).take s.length = s := by
  unfold allF summed head4
  rw [List.append_assoc, List.append_assoc, List.drop_left' (beBytes_length _ _)]
  exact List.take_left' rfl
theorem text_made {s : List UInt8} (hs : s.length ≤ 2000) : textF (allF s) (szN s.length) = some s := by
  have hv : valBE ((allF s).take 4) = s.length := by rw [all_take4]; exact valBE_small (by omega) (by omega)
  unfold textF
  rw [hv, Int.toNat_natCast, if_neg (by omega), all_sum, all_head, all_rest, all_text, if_pos ⟨valBE_small (by omega) (by have := sumN_lt (head4 s); omega), by simp⟩]
theorem sz_pos (n : Nat) : 0 < szN n := by unfold szN; omega
theorem sz_le {n : Nat} (h : n ≤ 2000) : szN n ≤ 9 := by unfold szN; omega
theorem secs_cons (n : Int) (s : List UInt8) : ∃ L, secsF n s = secF n (allF s) (szN s.length) 0 :: L := by
  cases h : secsF n s with
  | nil => have := secsF_length n s; rw [h] at this; have := sz_pos s.length; simp at *; omega
  | cons x L =>
    have h0 : 0 < (secsF n s).length := by rw [h]; simp
    have := secsF_get h0
    simp only [h, List.getElem_cons_zero] at this
    exact ⟨L, by rw [this]⟩
theorem val2 {k : Nat} (h : k < 65536) : (valBE (beBytes k 2)).toNat = k := by
  rw [valBE_small (by omega) (by omega)]; omega
/-- What was made is read. -/
theorem read_made {n : Int} {s : List UInt8} (h0 : 0 < n) (h1 : n < 4294967296) (hs : s.length ≤ 2000) (q : List (List UInt8)) : readF (secsF n s ++ q) = some (s, n, szN s.length) := by
  obtain ⟨L, hL⟩ := secs_cons n s
  have hp := sz_pos s.length
  have h9 := sz_le hs
  have hlen := secsF_length n s
  have e1 : secsF n s ++ q = secF n (allF s) (szN s.length) 0 :: (L ++ q) := by rw [hL]; rfl
  have hd : ((secF n (allF s) (szN s.length) 0).drop 6).take 2 = beBytes (szN s.length) 2 := sec_many
  have hn : numF (secF n (allF s) (szN s.length) 0) = n := sec_num (by omega) h1 (allF_length s) hp
  have e2 : readF (secsF n s ++ q) = (if numF (secF n (allF s) (szN s.length) 0) = 0 ∨ (valBE (((secF n (allF s) (szN s.length) 0).drop 6).take 2)).toNat < 1 ∨ (secsF n s ++ q).length < (valBE (((secF n (allF s) (szN s.length) 0).drop 6).take 2)).toNat then none
    else if (List.range (valBE (((secF n (allF s) (szN s.length) 0).drop 6).take 2)).toNat).all (fun i => pieceF (numF (secF n (allF s) (szN s.length) 0)) (valBE (((secF n (allF s) (szN s.length) 0).drop 6).take 2)).toNat ((secsF n s ++ q).getD i []) i) then
      (textF (bodyF ((secsF n s ++ q).take (valBE (((secF n (allF s) (szN s.length) 0).drop 6).take 2)).toNat)) (valBE (((secF n (allF s) (szN s.length) 0).drop 6).take 2)).toNat).map fun t => (t, numF (secF n (allF s) (szN s.length) 0), (valBE (((secF n (allF s) (szN s.length) 0).drop 6).take 2)).toNat)
    else none) := by rw [e1]; rfl
  rw [e2, hd, hn, val2 (by omega), if_neg (by rw [List.length_append, hlen]; omega), if_pos, List.take_left' hlen, body_made, text_made hs]
  · rfl
  · rw [List.all_eq_true]
    intro i hi
    have hi' : i < szN s.length := List.mem_range.1 hi
    have hg : (secsF n s ++ q).getD i [] = secF n (allF s) (szN s.length) i := by
      rw [List.getD_eq_getElem?_getD, List.getElem?_append_left (by rw [hlen]; exact hi'), List.getElem?_eq_getElem (by rw [hlen]; exact hi'), secsF_get]; rfl
    rw [hg]
    unfold pieceF
    rw [sec_num (by omega) h1 (allF_length s) hi', sec_place]
    simp
/-- What bears another number's sector, or too few, is no record. -/
theorem read_few {L : List (List UInt8)} {x : List UInt8} {k : Nat} (hx : L.head? = some x) (hk : ((x.drop 6).take 2) = beBytes k 2) (h6 : k < 65536) (hl : L.length < k) : readF L = none := by
  cases L with
  | nil => simp at hx
  | cons y L =>
    simp at hx; subst hx
    unfold readF
    dsimp only
    rw [hk, val2 h6, if_pos (.inr (.inr hl))]
theorem read_other {L : List (List UInt8)} {x y : List UInt8} {k i : Nat} (hx : L.head? = some x) (hk : ((x.drop 6).take 2) = beBytes k 2) (h6 : k < 65536) (hi : i < k) (hy : L[i]? = some y) (hne : numF y ≠ numF x) : readF L = none := by
  cases L with
  | nil => simp at hx
  | cons z L =>
    simp at hx; subst hx
    unfold readF
    dsimp only
    rw [hk, val2 h6]
    split
    · rfl
    · rw [if_neg]
      rw [Bool.not_eq_true, List.all_eq_false]
      refine ⟨i, List.mem_range.2 hi, ?_⟩
      rw [List.getD_eq_getElem?_getD, hy]
      unfold pieceF
      simp [hne]
end Go.Proofs.YtdbiebnnogjccaaGreatDoor
