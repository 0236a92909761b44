/- Disks (layer 19): what a disk is in memory; its plain word; told, may, at, Read, crashes, Start, Dead, Size. -/
import Derived.Test.YtdbiebnnogjccaaGreatDoorIs
import Derived.Test.YtdbiebnnogjccaaGreatDoorSh
import Derived.Lib.Hide
namespace Go.Proofs.YtdbiebnnogjccaaGreatDoor
open Go.RowKit
theorem below_alloc1 (w : World) (o : Obj) : Below w.heap.size w (w.alloc o) := (Below.refl _ _).alloc (Nat.le_refl _) _
/-- What a world holds for disks: the laid variables. -/
structure DkW (w : World) (aD aA : Addr) : Prop where
  vD : w.cell? ⟨8, 0, none⟩ = some (.iface 308 (.pointer (some aD)))
  vA : w.cell? ⟨0, 0, none⟩ = some (.iface 308 (.pointer (some aA)))
  bD : ∃ c t, w.heap[aD.block]? = some (.cells c t (0, 0))
  bA : ∃ c t, w.heap[aA.block]? = some (.cells c t (0, 0))
  ne : aD ≠ aA
theorem dk_cell {w w' : World} {g o : Nat} {v : Value} (h : w.cell? ⟨g, o, none⟩ = some v) (hb : Below w.heap.size w w') : w'.cell? ⟨g, o, none⟩ = some v := by
  rw [hb.cell (p := ⟨g, o, none⟩) (World.block_lt_of_cell? w ⟨g, o, none⟩ h)]; exact h
theorem dk_blk {w w' : World} {b : Nat} (h : ∃ c t, w.heap[b]? = some (.cells c t (0, 0))) (hb : Below w.heap.size w w') : ∃ c t, w'.heap[b]? = some (.cells c t (0, 0)) := by
  obtain ⟨c, t, h⟩ := h
  exact ⟨c, t, blk_below h hb⟩
theorem DkW.below {w w' : World} {aD aA : Addr} (h : DkW w aD aA) (hb : Below w.heap.size w w') : DkW w' aD aA :=
  ⟨dk_cell h.vD hb, dk_cell h.vA hb, dk_blk h.bD hb, dk_blk h.bA hb, h.ne⟩
/-- The sentinel behind a number: 74 dead, else an argument. -/
def whyA (aD aA : Addr) (c : Int) : Addr := if c = 74 then aD else aA
set_option maxHeartbeats 1000000 in
theorem disk_told_dead (p : Nat) (aD aA : Addr) (w : World) (hw : DkW w aD aA) (h1 : w.cell? ⟨p, 1, none⟩ = some (.iface 308 (.pointer (some aD)))) :
    Calls Tryz.prog 92 #[.iface 150 (.pointer (some ⟨p, 0, none⟩))] w fun e w' => e = .returned (.int .i64 74) ∧ w = w' := by
  have I1 := Lib.hid (is_wrap_same p aD w h1)
  have hv := hw.vD
  clear hw h1
  go_enter Tryz.func92, Tryz.ntmps92
  go_wp2_with fail
  refine I1.out.mono ?_; rintro e w1 ⟨rfl, rfl⟩
  go_wp2_with fail
  go_ret
  exact ⟨rfl, rfl⟩
set_option maxHeartbeats 1000000 in
theorem disk_told_arg (p : Nat) (aD aA : Addr) (w : World) (hw : DkW w aD aA) (h1 : w.cell? ⟨p, 1, none⟩ = some (.iface 308 (.pointer (some aA)))) :
    Calls Tryz.prog 92 #[.iface 150 (.pointer (some ⟨p, 0, none⟩))] w fun e w' => e = .returned (.int .i64 1) ∧ w = w' := by
  obtain ⟨cD, tD, hD⟩ := hw.bD
  obtain ⟨cA, tA, hA⟩ := hw.bA
  have I1 := Lib.hid (is_wrap_other p aA aD cA cD tA tD w (fun e => hw.ne e.symm) hA hD h1)
  have I2 := Lib.hid (is_wrap_same p aA w h1)
  have hv := hw.vD
  have hv2 := hw.vA
  clear hw h1 hD hA
  go_enter Tryz.func92, Tryz.ntmps92
  go_wp2_with fail
  refine I1.out.mono ?_; rintro e w1 ⟨rfl, rfl⟩
  go_wp2_with fail
  refine I2.out.mono ?_; rintro e w1 ⟨rfl, rfl⟩
  go_wp2_with fail
  go_ret
  exact ⟨rfl, rfl⟩
theorem disk_told (c : Int) (hc : c = 1 ∨ c = 74) (p : Nat) (aD aA : Addr) (w : World) (hw : DkW w aD aA) (h1 : w.cell? ⟨p, 1, none⟩ = some (.iface 308 (.pointer (some (whyA aD aA c))))) :
    Calls Tryz.prog 92 #[.iface 150 (.pointer (some ⟨p, 0, none⟩))] w fun e w' => e = .returned (.int .i64 c) ∧ w = w' := by
  rcases hc with rfl | rfl
  · exact disk_told_arg p aD aA w hw h1
  · exact disk_told_dead p aD aA w hw h1
/-- A disk in plain words. -/
structure Dk where
  n : Int
  m : Int → Option ByteArray
  c : Int → Option ByteArray
  armed : Bool
  left : Int
  keep : List (Int × Int)
  dead : Bool
/-- Pairs (a sector, how many bytes) in memory, two cells each. -/
structure KeptAt (w : World) (b off : Nat) (l : List (Int × Int)) : Prop where
  lt : l ≠ [] → b < w.heap.size
  sec : ∀ i (h : i < l.length), w.cell? ⟨b, off + i * 2, none⟩ = some (.int .i64 l[i].1)
  byt : ∀ i (h : i < l.length), w.cell? ⟨b, off + i * 2 + 1, none⟩ = some (.int .i64 l[i].2)
theorem KeptAt.below {w w' : World} {b off : Nat} {l : List (Int × Int)} (h : KeptAt w b off l) (hb : Below w.heap.size w w') : KeptAt w' b off l := by
  by_cases hl : l = []
  · subst hl
    exact ⟨fun h => absurd rfl h, fun i h => absurd h (by simp), fun i h => absurd h (by simp)⟩
  · have hlt := h.lt hl
    exact ⟨fun _ => Nat.lt_of_lt_of_le hlt hb.size, fun i hi => by rw [hb.cell (p := ⟨b, off + i * 2, none⟩) hlt]; exact h.sec i hi, fun i hi => by rw [hb.cell (p := ⟨b, off + i * 2 + 1, none⟩) hlt]; exact h.byt i hi⟩
def SlKept (w : World) (v : Value) (l : List (Int × Int)) : Prop := (l = [] ∧ ∃ p c, v = .slice p 0 c) ∨ ∃ b off cap, v = .slice (some ⟨b, off, none⟩) l.length cap ∧ l.length ≤ cap ∧ KeptAt w b off l
theorem SlKept.below {w w' : World} {v : Value} {l : List (Int × Int)} (h : SlKept w v l) (hb : Below w.heap.size w w') : SlKept w' v l := by
  rcases h with h | ⟨b, off, cap, e, hc, h⟩
  · exact .inl h
  · exact .inr ⟨b, off, cap, e, hc, h.below hb⟩
theorem KeptAt.fr {S : Nat → Prop} {w w' : World} {b off : Nat} {l : List (Int × Int)} (h : KeptAt w b off l) (hf : Fr S w w') (hs : ¬ S b) : KeptAt w' b off l := by
  by_cases hl : l = []
  · subst hl
    exact ⟨fun h => absurd rfl h, fun i h => absurd h (by simp), fun i h => absurd h (by simp)⟩
  · have hlt := h.lt hl
    exact ⟨fun _ => Nat.lt_of_lt_of_le hlt hf.size, fun i hi => by rw [hf.cell hlt hs]; exact h.sec i hi, fun i hi => by rw [hf.cell hlt hs]; exact h.byt i hi⟩
theorem SlKept.fr {S : Nat → Prop} {w w' : World} {v : Value} {l : List (Int × Int)} (h : SlKept w v l) (hf : Fr S w w') (hs : ∀ b off n c, v = .slice (some ⟨b, off, none⟩) n c → ¬ S b) : SlKept w' v l := by
  rcases h with h | ⟨b, off, cap, e, hc, h⟩
  · exact .inl h
  · exact .inr ⟨b, off, cap, e, hc, h.fr hf (hs _ _ _ _ e)⟩
/-- The struct's cells. -/
def dkCells (d : Dk) (mb cb : Nat) (kv : Value) : Array Value := #[.int .i64 d.n, .map (some mb), .map (some cb), .bool d.armed, .int .i64 d.left, kv, .bool d.dead]
/-- A disk in memory: its struct at g, its maps at mb and cb, what it keeps. -/
structure DiskAt (w : World) (g mb cb k : Nat) (kv : Value) (d : Dk) : Prop where
  blk : w.heap[g]? = some (.cells (dkCells d mb cb kv) 109 (0, 0))
  hm : MapS w mb k d.m
  hc : MapS w cb k d.c
  hk : SlKept w kv d.keep
  n0 : 1 ≤ d.n
  n1 : d.n ≤ 4096
  gm : g ≠ mb
  gc : g ≠ cb
  mc : mb ≠ cb
  kn : ∀ b off n c, kv = .slice (some ⟨b, off, none⟩) n c → b ≠ g ∧ b ≠ mb ∧ b ≠ cb
theorem DiskAt.below {w w' : World} {g mb cb k : Nat} {kv : Value} {d : Dk} (h : DiskAt w g mb cb k kv d) (hb : Below w.heap.size w w') : DiskAt w' g mb cb k kv d :=
  ⟨blk_below h.blk hb, h.hm.below hb, h.hc.below hb, h.hk.below hb, h.n0, h.n1, h.gm, h.gc, h.mc, h.kn⟩
/-- Why something can't be done on a sector; nought: it can. -/
def Dk.may (d : Dk) (i : Int) : Int := if d.dead then 74 else if i < 0 ∨ d.n ≤ i then 1 else 0
def MayP (c : Int) (aD aA : Addr) (e : Ending) (w' : World) : Prop :=
  if c = 0 then e = .returned .nilIface else ∃ p, e = .returned (.iface 150 (.pointer (some ⟨p, 0, none⟩))) ∧ w'.cell? ⟨p, 1, none⟩ = some (.iface 308 (.pointer (some (whyA aD aA c))))
set_option maxHeartbeats 1000000 in
theorem disk_may (i : Int) (g mb cb k : Nat) (kv : Value) (d : Dk) (aD aA : Addr) (w : World) (hw : DkW w aD aA) (hd : DiskAt w g mb cb k kv d) :
    Calls Tryz.prog 91 #[.pointer (some ⟨g, 0, none⟩), .int .i64 i] w fun e w' => MayP (d.may i) aD aA e w' ∧ Below w.heap.size w w' := by
  have hc := blk_cell hd.blk
  have vD := hw.vD
  have vA := hw.vA
  clear hw hd
  unfold dkCells at hc
  cases hdead : d.dead with
  | true =>
    rw [show d.may i = 74 by unfold Dk.may; rw [hdead]; rfl]
    rw [hdead] at hc
    clear hdead
    go_enter Tryz.func91, Tryz.ntmps91
    go_wp2_with fail
    go_ret
    refine ⟨?_, below_alloc1 _ _⟩
    exact ⟨_, rfl, by rw [blk_cell (blk_new _ _)]; rfl⟩
  | false =>
    rw [hdead] at hc
    by_cases h0 : i < 0
    · rw [show d.may i = 1 by unfold Dk.may; rw [hdead, if_neg (by decide), if_pos (.inl h0)]]
      clear hdead
      go_enter Tryz.func91, Tryz.ntmps91
      go_wp2_with fail
      go_ret
      refine ⟨?_, below_alloc1 _ _⟩
      exact ⟨_, rfl, by rw [blk_cell (blk_new _ _)]; rfl⟩
    · by_cases h1 : d.n ≤ i
      · rw [show d.may i = 1 by unfold Dk.may; rw [hdead, if_neg (by decide), if_pos (.inr h1)]]
        clear hdead
        go_enter Tryz.func91, Tryz.ntmps91
        go_wp2_with fail
        go_ret
        refine ⟨?_, below_alloc1 _ _⟩
        exact ⟨_, rfl, by rw [blk_cell (blk_new _ _)]; rfl⟩
      · rw [show d.may i = 0 by unfold Dk.may; rw [hdead, if_neg (by decide), if_neg (by omega)]]
        clear hdead
        go_enter Tryz.func91, Tryz.ntmps91
        go_wp2_with fail
        go_ret
        exact ⟨rfl, Below.refl _ _⟩
end Go.Proofs.YtdbiebnnogjccaaGreatDoor
