/- Disks (layer 19): plain words: what a write, a flush, an arming make of a disk. -/
import Derived.Test.YtdbiebnnogjccaaGreatDoorDi
import Derived.Deep.RegionHeld3
namespace Go.Proofs.YtdbiebnnogjccaaGreatDoor
def Dk.put (d : Dk) (i : Int) (s : ByteArray) : Dk := { d with c := setF d.c i s }
def Dk.write (d : Dk) (i : Int) (s : ByteArray) : Dk × Int :=
  if d.may i ≠ 0 then (d, d.may i) else if s.size ≠ 256 then (d, 1) else if d.falls = true then (((d.put i s).tick).crash d.keep, 74) else ((d.put i s).tick, 0)
def Dk.pour (d : Dk) : Dk := { d with m := fun i => (d.c i).or (d.m i), c := fun _ => none }
def Dk.flush (d : Dk) : Dk × Int := if d.may 0 ≠ 0 then (d, d.may 0) else if d.falls = true then (d.tick.crash d.keep, 74) else (d.tick.pour, 0)
def Dk.arm (d : Dk) (n : Int) (l : List (Int × Int)) : Dk × Int := if n < 0 ∨ 100000 < n then (d, 1) else ({ d with armed := true, left := n, keep := l }, 0)
/-- What stays true of a disk, but for the count. -/
structure Dk.Ok0 (d : Dk) : Prop where
  n0 : 1 ≤ d.n
  n1 : d.n ≤ 4096
  km : ∀ i, (d.m i).isSome = true → 0 ≤ i ∧ i < d.n
  kc : ∀ i, (d.c i).isSome = true → 0 ≤ i ∧ i < d.n
  sm : ∀ i s, d.m i = some s → s.size = 256
  sc : ∀ i s, d.c i = some s → s.size = 256
  kl : d.keep.length ≤ 65536
theorem Dk.Ok.ok0 {d : Dk} (h : d.Ok) : d.Ok0 := ⟨h.n0, h.n1, h.km, h.kc, h.sm, h.sc, h.kl⟩
theorem Dk.Ok0.ok {d : Dk} (h : d.Ok0) (hl : d.armed = true → 0 ≤ d.left ∧ d.left ≤ 100000) : d.Ok := ⟨h.n0, h.n1, h.km, h.kc, h.sm, h.sc, hl, h.kl⟩
theorem Dk.Ok0.tick {d : Dk} (h : d.Ok0) : d.tick.Ok0 := by
  unfold Dk.tick; split
  · exact ⟨h.n0, h.n1, h.km, h.kc, h.sm, h.sc, h.kl⟩
  · exact h
theorem Dk.Ok.tick {d : Dk} (h : d.Ok) (hf : d.falls = false) : d.tick.Ok := by
  refine h.ok0.tick.ok fun ha => ?_
  cases hb : d.armed with
  | false => unfold Dk.tick at ha; rw [hb] at ha; rw [if_neg (by decide)] at ha; rw [hb] at ha; cases ha
  | true =>
    have h1 := h.lf hb
    unfold Dk.falls at hf
    rw [hb] at hf
    simp at hf
    unfold Dk.tick
    rw [hb, if_pos rfl]
    exact ⟨by show 0 ≤ d.left - 1; omega, by show d.left - 1 ≤ 100000; omega⟩
theorem Dk.Ok0.put {d : Dk} (h : d.Ok0) {i : Int} {s : ByteArray} (hi : 0 ≤ i ∧ i < d.n) (hs : s.size = 256) : (d.put i s).Ok0 := by
  refine ⟨h.n0, h.n1, h.km, fun j hj => ?_, h.sm, fun j t ht => ?_, h.kl⟩
  · have hj : (setF d.c i s j).isSome = true := hj
    unfold setF at hj
    by_cases e : j = i
    · subst e; exact hi
    · rw [if_neg e] at hj; exact h.kc j hj
  · have ht : setF d.c i s j = some t := ht
    unfold setF at ht
    by_cases e : j = i
    · rw [if_pos e] at ht; injection ht with ht; rw [← ht]; exact hs
    · rw [if_neg e] at ht; exact h.sc j t ht
theorem Dk.Ok.put {d : Dk} (h : d.Ok) {i : Int} {s : ByteArray} (hi : 0 ≤ i ∧ i < d.n) (hs : s.size = 256) : (d.put i s).Ok := (h.ok0.put hi hs).ok h.lf
theorem Dk.Ok0.at_size {d : Dk} (h : d.Ok0) (i : Int) : (d.at i).size = 256 := by
  unfold Dk.at
  cases hm : d.m i with
  | none => exact nil256_size
  | some s => exact h.sm i s hm
theorem Dk.Ok0.crash {d : Dk} (h : d.Ok0) (l : List (Int × Int)) : (d.crash l).Ok0 := by
  have h1 : ({ d with armed := false } : Dk).Ok := ⟨h.n0, h.n1, h.km, h.kc, h.sm, h.sc, (fun e => by cases e), h.kl⟩
  have h2 := (h1.crash l).ok0
  by_cases hd : d.dead = true
  · have e : d.crash l = d := by unfold Dk.crash; rw [if_pos hd]
    rw [e]; exact h
  · have e : ({ d with armed := false } : Dk).crash l = d.crash l := by
      unfold Dk.crash; rw [if_neg hd, if_neg hd]; rfl
    rw [e] at h2; exact h2
theorem Dk.Ok0.crash_ok {d : Dk} (h : d.Ok0) (hd : d.dead = false) (l : List (Int × Int)) : (d.crash l).Ok :=
  (h.crash l).ok fun ha => by unfold Dk.crash at ha; rw [if_neg (by rw [hd]; decide)] at ha; cases ha
theorem Dk.Ok0.pour {d : Dk} (h : d.Ok0) : d.pour.Ok0 := by
  refine ⟨h.n0, h.n1, fun i hi => ?_, (fun i hi => by cases hi), fun i s hs => ?_, (fun i s hs => by cases hs), h.kl⟩
  · have hi : ((d.c i).or (d.m i)).isSome = true := hi
    cases hc : d.c i with
    | none => rw [hc] at hi; exact h.km i hi
    | some s => exact h.kc i (by rw [hc]; rfl)
  · have hs : (d.c i).or (d.m i) = some s := hs
    cases hc : d.c i with
    | none => rw [hc] at hs; exact h.sm i s hs
    | some t => rw [hc] at hs; injection hs with hs; subst hs; exact h.sc i t hc
theorem Dk.Ok.pour {d : Dk} (h : d.Ok) : d.pour.Ok := h.ok0.pour.ok h.lf
theorem may_range {d : Dk} {i : Int} (h : d.may i = 0) : d.dead = false ∧ 0 ≤ i ∧ i < d.n := by
  unfold Dk.may at h
  cases hd : d.dead with
  | true => rw [hd] at h; simp at h
  | false =>
    rw [hd, if_neg (by decide)] at h
    by_cases hc : i < 0 ∨ d.n ≤ i
    · rw [if_pos hc] at h; cases h
    · exact ⟨rfl, by omega, by omega⟩
theorem Dk.tick_dead (d : Dk) : d.tick.dead = d.dead := by unfold Dk.tick; split <;> rfl
theorem Dk.tick_n (d : Dk) : d.tick.n = d.n := by unfold Dk.tick; split <;> rfl
theorem Dk.tick_m (d : Dk) : d.tick.m = d.m := by unfold Dk.tick; split <;> rfl
theorem Dk.tick_c (d : Dk) : d.tick.c = d.c := by unfold Dk.tick; split <;> rfl
theorem Dk.tick_keep (d : Dk) : d.tick.keep = d.keep := by unfold Dk.tick; split <;> rfl
theorem Dk.tick_armed (d : Dk) : d.tick.armed = d.armed := by unfold Dk.tick; split <;> rfl
theorem Dk.put_falls (d : Dk) (i : Int) (s : ByteArray) : (d.put i s).falls = d.falls := rfl
theorem Dk.Ok.write {d : Dk} (h : d.Ok) (i : Int) (s : ByteArray) : (d.write i s).1.Ok := by
  unfold Dk.write
  by_cases h0 : d.may i = 0
  · rw [if_neg (by simpa using h0)]
    obtain ⟨hd, hi⟩ := may_range h0
    by_cases hs : s.size = 256
    · rw [if_neg (by simpa using hs)]
      cases hf : d.falls with
      | true => rw [if_pos rfl]; exact ((h.put hi hs).ok0.tick).crash_ok (by rw [Dk.tick_dead]; exact hd) _
      | false => rw [if_neg (by decide)]; exact (h.put hi hs).tick hf
    · rw [if_pos hs]; exact h
  · rw [if_pos h0]; exact h
theorem Dk.Ok.flush {d : Dk} (h : d.Ok) : d.flush.1.Ok := by
  unfold Dk.flush
  by_cases h0 : d.may 0 = 0
  · rw [if_neg (by simpa using h0)]
    obtain ⟨hd, hi⟩ := may_range h0
    cases hf : d.falls with
    | true => rw [if_pos rfl]; exact (h.ok0.tick).crash_ok (by rw [Dk.tick_dead]; exact hd) _
    | false => rw [if_neg (by decide)]; exact (h.tick hf).pour
  · rw [if_pos h0]; exact h
theorem Dk.Ok.arm {d : Dk} (h : d.Ok) (n : Int) {l : List (Int × Int)} (hl : l.length ≤ 65536) : (d.arm n l).1.Ok := by
  unfold Dk.arm
  by_cases h0 : n < 0 ∨ 100000 < n
  · rw [if_pos h0]; exact h
  · rw [if_neg h0]; exact ⟨h.n0, h.n1, h.km, h.kc, h.sm, h.sc, fun _ => by show 0 ≤ n ∧ n ≤ 100000; omega, hl⟩
theorem Dk.Ok.start {d : Dk} (h : d.Ok) : d.start.Ok := ⟨h.n0, h.n1, h.km, h.kc, h.sm, h.sc, (fun e => by cases e), h.kl⟩
theorem Dk.Ok.new {n : Int} (h0 : 1 ≤ n) (h1 : n ≤ 4096) : (Dk.new n).Ok := ⟨h0, h1, (fun _ h => by cases h), (fun _ h => by cases h), (fun _ _ h => by cases h), (fun _ _ h => by cases h), (fun e => by cases e), (Nat.zero_le _)⟩
end Go.Proofs.YtdbiebnnogjccaaGreatDoor

/- Disks (layer 19): Crash. -/
namespace Go.Proofs.YtdbiebnnogjccaaGreatDoor
open Go.RowKit Go.Maps
theorem firstI_kept (l : List (Int × Int)) (i : Int) : (firstI (fun x => x.1 == i) l = -1 ∧ keptN l i = none) ∨ ∃ k : Nat, ∃ h : k < l.length, firstI (fun x => x.1 == i) l = k ∧ keptN l i = some (min (max l[k].2 0) 256).toNat := by
  by_cases h : l.findIdx (fun x => x.1 == i) < l.length
  · right
    refine ⟨_, h, by unfold firstI; rw [if_pos h], ?_⟩
    have h1 : l.find? (fun x => x.1 == i) = some l[l.findIdx (fun x => x.1 == i)] := by
      rw [List.find?_eq_some_iff_getElem]
      exact ⟨List.findIdx_getElem (w := h), _, h, rfl, fun j hj => by have := List.not_of_lt_findIdx hj; simpa using this⟩
    unfold keptN
    rw [h1]; rfl
  · left
    refine ⟨by unfold firstI; rw [if_neg h], ?_⟩
    have h1 : l.find? (fun x => x.1 == i) = none := by
      rw [List.find?_eq_none]
      intro x hx hp
      exact h (List.findIdx_lt_length_of_exists ⟨x, hx, hp⟩)
    unfold keptN
    rw [h1]; rfl
theorem Fr.grown {S : Nat → Prop} {a w w' : World} {row : Option Nat} (h : Fr S a w) (hg : w.grownBy w' row) (hr : ∀ k, row = some k → S k ∨ a.heap.size ≤ k) : Fr S a w' :=
  ⟨hg.os.trans h.os, hg.tape.trans h.tape, hg.output.trans h.output, Nat.le_trans h.size hg.size, fun k hk hs => (hg.block k (Nat.lt_of_lt_of_le hk h.size) (fun e => by
    rcases hr k e.symm with h1 | h1
    · exact hs h1
    · omega)).trans (h.block k hk hs)⟩
/-- The blocks of a disk. -/
def DkS (g mb cb q : Nat) : Prop := q = g ∨ q = mb ∨ q = cb
theorem DiskAt.lt {w : World} {g mb cb k : Nat} {kv : Value} {d : Dk} (h : DiskAt w g mb cb k kv d) : g < w.heap.size := blk_lt h.blk
theorem DiskAt.moved {w wr : World} {g mb cb k k' : Nat} {kv : Value} {d : Dk} {m' c' : Int → Option ByteArray} (h : DiskAt w g mb cb k kv d) (hf : Fr (fun q => q = mb ∨ q = cb) w wr) (hm : MapS wr mb k' m') (hc : MapS wr cb k' c') : DiskAt wr g mb cb k' kv { d with m := m', c := c' } :=
  ⟨blk_fr h.blk hf (by rintro (h1 | h1); exact h.gm h1; exact h.gc h1), hm, hc, h.hk.fr hf (fun b off n c e => by have := h.kn b off n c e; rintro (h1 | h1); exact this.2.1 h1; exact this.2.2 h1), h.n0, h.n1, h.gm, h.gc, h.mc, h.kn⟩
theorem MapS.t4096 {w : World} {b n : Nat} {f : Int → Option ByteArray} (h : MapS w b n f) {N : Int} (hN : N ≤ 4096) (hf : ∀ i, (f i).isSome = true → 0 ≤ i ∧ i < N) : MapS w b 4096 f :=
  h.tight fun i _ hi => by have := hf i hi; omega
theorem run_put_sec {w : World} {b n : Nat} {f : Int → Option ByteArray} (hown : MapS w b n f) (hn : n < maxLen) (i : Int) (hi : wf64 i) (s : ByteArray) :
    ∃ w', (Instr.mapUpdate 107 (.map (some b)) (.int .i64 i) (.agg #[.string s])).run Tryz.prog w = .ok () w' ∧ MapS w' b (n + 1) (setF f i s) ∧ w.grownBy w' (some b) := by
  obtain ⟨D, h1, h2⟩ := hown
  obtain ⟨w', h3, h4, h5⟩ := h1.update lawI Tryz.underlying107 hn (keyOf_int_mk Tryz.underlying3 hi) (secE_mk s)
  exact ⟨w', h3, mapS_put h1 h2 h4, h5⟩
/-- What is durable while a crash goes on: 'left' says which places are still to come. -/
def fallM (d : Dk) (l : List (Int × Int)) (left : Int → Bool) (j : Int) : Option ByteArray := if left j then d.m j else d.fallen l j
theorem fallM_start (d : Dk) (l : List (Int × Int)) : fallM d l (fun i => (d.c i).isSome) = d.m := by
  funext j
  unfold fallM Dk.fallen
  cases h : d.c j with
  | none => simp [h]
  | some s => simp [h]
theorem fallM_end {d : Dk} {l : List (Int × Int)} {left : Int → Bool} {j : Int} (h : left j = false) : fallM d l left j = d.fallen l j := by unfold fallM; rw [h]; rfl
theorem fallM_skip {d : Dk} {l : List (Int × Int)} {left : Int → Bool} {i : Int} {s : ByteArray} (hc : d.c i = some s) (hk : keptN l i = none) : fallM d l (fun j => left j && !(j == i)) = fallM d l left := by
  funext j
  unfold fallM
  by_cases e : j = i
  · subst e
    have h1 : d.fallen l j = d.m j := by unfold Dk.fallen; rw [hc, hk]
    rw [h1]; simp
  · simp [e]
theorem fallM_put {d : Dk} {l : List (Int × Int)} {left : Int → Bool} {i : Int} {s : ByteArray} {n : Nat} (hc : d.c i = some s) (hk : keptN l i = some n) : setF (fallM d l left) i (s.extract 0 n ++ (d.at i).extract n 256) = fallM d l (fun j => left j && !(j == i)) := by
  funext j
  unfold fallM setF
  by_cases e : j = i
  · subst e
    have h1 : d.fallen l j = some (s.extract 0 n ++ (d.at j).extract n 256) := by unfold Dk.fallen; rw [hc]; simp only [hk]
    rw [h1]; simp
  · simp [e]
theorem fallM_range {d : Dk} (hd : d.Ok0) (l : List (Int × Int)) (left : Int → Bool) (j : Int) (h : (fallM d l left j).isSome = true) : 0 ≤ j ∧ j < d.n := by
  unfold fallM at h
  split at h
  · exact hd.km j h
  · unfold Dk.fallen at h
    cases hc : d.c j with
    | none => rw [hc] at h; exact hd.km j h
    | some s => exact hd.kc j (by rw [hc]; rfl)
theorem fallM_at {d : Dk} {l : List (Int × Int)} {left : Int → Bool} {i : Int} (h : left i = true) (c' : Int → Option ByteArray) : ({ d with m := fallM d l left, c := c' } : Dk).at i = d.at i := by
  unfold Dk.at fallM; simp [h]
end Go.Proofs.YtdbiebnnogjccaaGreatDoor
