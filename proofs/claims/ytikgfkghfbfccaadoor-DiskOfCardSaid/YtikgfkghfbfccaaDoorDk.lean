/- Disks (layer 19): Crash. -/
import Derived.Test.YtikgfkghfbfccaaDoorDj
import Derived.Deep.RegionHeld3
namespace Go.Proofs.YtikgfkghfbfccaaDoor
open Go.RowKit Go.Maps
theorem firstI_kept (l : List (Int × Int)) (i : Int) : (firstI (fun x => x.1 == i) l = -1 ∧ keptN l i = none) ∨ ∃ k : Nat, ∃ h : k < l.length, firstI (fun x => x.1 == i) l = k ∧ keptN l i = some (min (max l[k].2 0) 256).toNat := by
  by_cases h : l.findIdx (fun x => x.1 == i) < l.length
  · right
    refine ⟨_, h, by unfold firstI; rw [if_pos h], ?_⟩
    have h1 : l.find? (fun x => x.1 == i) = some l[l.findIdx (fun x => x.1 == i)] := by
      rw [List.find?_eq_some_iff_getElem]
      exact ⟨List.findIdx_getElem (w := h), _, h, rfl, fun j hj => by have := List.not_of_lt_findIdx hj; simpa using this⟩
    unfold keptN
    rw [h1]; rfl
  · left
    refine ⟨by unfold firstI; rw [if_neg h], ?_⟩
    have h1 : l.find? (fun x => x.1 == i) = none := by
      rw [List.find?_eq_none]
      intro x hx hp
      exact h (List.findIdx_lt_length_of_exists ⟨x, hx, hp⟩)
    unfold keptN
    rw [h1]; rfl
theorem Fr.grown {S : Nat → Prop} {a w w' : World} {row : Option Nat} (h : Fr S a w) (hg : w.grownBy w' row) (hr : ∀ k, row = some k → S k ∨ a.heap.size ≤ k) : Fr S a w' :=
  ⟨hg.os.trans h.os, hg.tape.trans h.tape, hg.output.trans h.output, Nat.le_trans h.size hg.size, fun k hk hs => (hg.block k (Nat.lt_of_lt_of_le hk h.size) (fun e => by
    rcases hr k e.symm with h1 | h1
    · exact hs h1
    · omega)).trans (h.block k hk hs)⟩
/-- The blocks of a disk. -/
def DkS (g mb cb q : Nat) : Prop := q = g ∨ q = mb ∨ q = cb
theorem DiskAt.lt {w : World} {g mb cb k : Nat} {kv : Value} {d : Dk} (h : DiskAt w g mb cb k kv d) : g < w.heap.size := blk_lt h.blk
theorem DiskAt.moved {w wr : World} {g mb cb k k' : Nat} {kv : Value} {d : Dk} {m' c' : Int → Option ByteArray} (h : DiskAt w g mb cb k kv d) (hf : Fr (fun q => q = mb ∨ q = cb) w wr) (hm : MapS wr mb k' m') (hc : MapS wr cb k' c') : DiskAt wr g mb cb k' kv { d with m := m', c := c' } :=
  ⟨blk_fr h.blk hf (by rintro (h1 | h1); exact h.gm h1; exact h.gc h1), hm, hc, h.hk.fr hf (fun b off n c e => by have := h.kn b off n c e; rintro (h1 | h1); exact this.2.1 h1; exact this.2.2 h1), h.n0, h.n1, h.gm, h.gc, h.mc, h.kn⟩
theorem MapS.t4096 {w : World} {b n : Nat} {f : Int → Option ByteArray} (h : MapS w b n f) {N : Int} (hN : N ≤ 4096) (hf : ∀ i, (f i).isSome = true → 0 ≤ i ∧ i < N) : MapS w b 4096 f :=
  h.tight fun i _ hi => by have := hf i hi; omega
theorem run_put_sec {w : World} {b n : Nat} {f : Int → Option ByteArray} (hown : MapS w b n f) (hn : n < maxLen) (i : Int) (hi : wf64 i) (s : ByteArray) :
    ∃ w', (Instr.mapUpdate 99 (.map (some b)) (.int .i64 i) (.agg #[.string s])).run Tryd.prog w = .ok () w' ∧ MapS w' b (n + 1) (setF f i s) ∧ w.grownBy w' (some b) := by
  obtain ⟨D, h1, h2⟩ := hown
  obtain ⟨w', h3, h4, h5⟩ := h1.update lawI Tryd.underlying99 hn (keyOf_int_mk Tryd.underlying3 hi) (secE_mk s)
  exact ⟨w', h3, mapS_put h1 h2 h4, h5⟩
/-- What is durable while a crash goes on: 'left' says which places are still to come. -/
def fallM (d : Dk) (l : List (Int × Int)) (left : Int → Bool) (j : Int) : Option ByteArray := if left j then d.m j else d.fallen l j
theorem fallM_start (d : Dk) (l : List (Int × Int)) : fallM d l (fun i => (d.c i).isSome) = d.m := by
  funext j
  unfold fallM Dk.fallen
  cases h : d.c j with
  | none => simp [h]
  | some s => simp [h]
theorem fallM_end {d : Dk} {l : List (Int × Int)} {left : Int → Bool} {j : Int} (h : left j = false) : fallM d l left j = d.fallen l j := by unfold fallM; rw [h]; rfl
theorem fallM_skip {d : Dk} {l : List (Int × Int)} {left : Int → Bool} {i : Int} {s : ByteArray} (hc : d.c i = some s) (hk : keptN l i = none) : fallM d l (fun j => left j && !(j == i)) = fallM d l left := by
  funext j
  unfold fallM
  by_cases e : j = i
  · subst e
    have h1 : d.fallen l j = d.m j := by unfold Dk.fallen; rw [hc, hk]
    rw [h1]; simp
  · simp [e]
theorem fallM_put {d : Dk} {l : List (Int × Int)} {left : Int → Bool} {i : Int} {s : ByteArray} {n : Nat} (hc : d.c i = some s) (hk : keptN l i = some n) : setF (fallM d l left) i (s.extract 0 n ++ (d.at i).extract n 256) = fallM d l (fun j => left j && !(j == i)) := by
  funext j
  unfold fallM setF
  by_cases e : j = i
  · subst e
    have h1 : d.fallen l j = some (s.extract 0 n ++ (d.at j).extract n 256) := by unfold Dk.fallen; rw [hc]; simp only [hk]
    rw [h1]; simp
  · simp [e]
theorem fallM_range {d : Dk} (hd : d.Ok0) (l : List (Int × Int)) (left : Int → Bool) (j : Int) (h : (fallM d l left j).isSome = true) : 0 ≤ j ∧ j < d.n := by
  unfold fallM at h
  split at h
  · exact hd.km j h
  · unfold Dk.fallen at h
    cases hc : d.c j with
    | none => rw [hc] at h; exact hd.km j h
    | some s => exact hd.kc j (by rw [hc]; rfl)
theorem fallM_at {d : Dk} {l : List (Int × Int)} {left : Int → Bool} {i : Int} (h : left i = true) (c' : Int → Option ByteArray) : ({ d with m := fallM d l left, c := c' } : Dk).at i = d.at i := by
  unfold Dk.at fallM; simp [h]
end Go.Proofs.YtikgfkghfbfccaaDoor
