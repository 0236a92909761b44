/- Disks (layer 19): the law's wakes. -/
import Derived.Test.YtoebldemcgahnaaGreatDoorDq
namespace Go.Proofs.YtoebldemcgahnaaGreatDoor
open Go.RowKit
theorem dirty01 (a b : ByteArray) : (((Dk.new 8).put 0 a).put 1 b).dirty = [0, 1] := by rfl
theorem wk_read0 (a b : ByteArray) (hb : a.size = 256) : (((((Dk.new 8).put 0 a).put 1 b).crash [(0, 1)]).start.read 0) = (a.extract 0 1 ++ nil256.extract 1 256, 0) := by
  rw [read_ok rfl ⟨by decide, by show (_ : Int) < 8; decide⟩]
  have _ := hb
  rfl
theorem wk_read1 (a b : ByteArray) : (((((Dk.new 8).put 0 a).put 1 b).crash [(0, 1)]).start.read 1) = (nil256, 0) := by
  rw [read_ok rfl ⟨by decide, by show (_ : Int) < 8; decide⟩]
  rfl
theorem wk_first : (blk 97).extract 0 1 ++ nil256.extract 1 256 = (⟨#[97]⟩ : ByteArray) ++ ofL (List.replicate 255 0) := by
  refine bytes_ext ?_
  rw [list_append, list_append, extract_list, extract_list, blk, nil256, ofL_list, ofL_list, ofL_list]
  decide +kernel
theorem wk_size (b : Int) : (⟨#[97]⟩ : ByteArray).size + (ofL (List.replicate 255 0)).size ≤ 256 + b.toNat * 0 := by rw [ofL_size, List.length_replicate]; show 1 + 255 ≤ _; omega
theorem self_eq (X : ByteArray) : (X.toList == X.toList) = true := by simp
end Go.Proofs.YtoebldemcgahnaaGreatDoor

/- Disks (layer 19): steps; fair; a disk that nobody made. -/
namespace Go.Proofs.YtoebldemcgahnaaGreatDoor
open Go.RowKit
/-- A step in plain words. -/
structure Stp where
  k : Int
  n : Int
  s : ByteArray
  l : List (Int × Int)
/-- Steps in memory, four cells each. -/
structure StpsAt (w : World) (b off : Nat) (L : List Stp) : Prop where
  lt : L ≠ [] → b < w.heap.size
  kind : ∀ i (h : i < L.length), w.cell? ⟨b, off + i * 4, none⟩ = some (.int .i64 L[i].k)
  num : ∀ i (h : i < L.length), w.cell? ⟨b, off + i * 4 + 1, none⟩ = some (.int .i64 L[i].n)
  str : ∀ i (h : i < L.length), w.cell? ⟨b, off + i * 4 + 2, none⟩ = some (.string L[i].s)
  kep : ∀ i (h : i < L.length), ∃ v, w.cell? ⟨b, off + i * 4 + 3, none⟩ = some v ∧ SlKept w v L[i].l
theorem StpsAt.below {w w' : World} {b off : Nat} {L : List Stp} (h : StpsAt w b off L) (hb : Below w.heap.size w w') : StpsAt w' b off L := by
  by_cases hl : L = []
  · subst hl
    exact ⟨fun h => absurd rfl h, fun i h => absurd h (by simp), fun i h => absurd h (by simp), fun i h => absurd h (by simp), fun i h => absurd h (by simp)⟩
  · have hlt := h.lt hl
    exact ⟨fun _ => Nat.lt_of_lt_of_le hlt hb.size, fun i hi => by rw [hb.cell (p := ⟨b, off + i * 4, none⟩) hlt]; exact h.kind i hi, fun i hi => by rw [hb.cell (p := ⟨b, off + i * 4 + 1, none⟩) hlt]; exact h.num i hi, fun i hi => by rw [hb.cell (p := ⟨b, off + i * 4 + 2, none⟩) hlt]; exact h.str i hi, fun i hi => by
      obtain ⟨v, h1, h2⟩ := h.kep i hi
      exact ⟨v, by rw [hb.cell (p := ⟨b, off + i * 4 + 3, none⟩) hlt]; exact h1, h2.below hb⟩⟩
def SlStps (w : World) (v : Value) (L : List Stp) : Prop := (v = .slice none 0 0 ∧ L = []) ∨ ∃ b off cap, v = .slice (some ⟨b, off, none⟩) L.length cap ∧ L.length ≤ cap ∧ StpsAt w b off L
theorem SlStps.below {w w' : World} {v : Value} {L : List Stp} (h : SlStps w v L) (hb : Below w.heap.size w w') : SlStps w' v L := by
  rcases h with h | ⟨b, off, cap, e, hc, h⟩
  · exact .inl h
  · exact .inr ⟨b, off, cap, e, hc, h.below hb⟩
theorem SlStps.form {w : World} {v : Value} {L : List Stp} (h : SlStps w v L) : ∃ p c, v = .slice p L.length c ∧ L.length ≤ c := by
  rcases h with ⟨h, e⟩ | ⟨b, off, cap, e, hc, h⟩
  · subst e; exact ⟨none, 0, h, Nat.le_refl _⟩
  · exact ⟨_, _, e, hc⟩
theorem SlStps.atN {w : World} {p : Option Addr} {n c k : Nat} {L : List Stp} (hn : n = L.length) (h : SlStps w (.slice p n c) L) (hk : k < L.length) : ∃ b off, p = some ⟨b, off, none⟩ ∧ StpsAt w b off L := by
  subst hn
  rcases h with ⟨_, h2⟩ | ⟨b, off, cap, e, _, h⟩
  · subst h2; exact absurd hk (by simp)
  · injection e with e1 e2 e3
    exact ⟨b, off, e1, h⟩
/-- Is a list of steps not too long? -/
def fairB (L : List Stp) : Bool := (L.all fun x => decide (x.s.size ≤ 1000) && decide (x.l.length ≤ 50)) && decide (L.length ≤ 150)
theorem fairB_true {L : List Stp} (h : fairB L = true) : L.length ≤ 150 ∧ ∀ i (h : i < L.length), L[i].s.size ≤ 1000 ∧ L[i].l.length ≤ 50 := by
  unfold fairB at h
  simp only [Bool.and_eq_true, List.all_eq_true, decide_eq_true_eq] at h
  exact ⟨h.2, fun i hi => h.1 _ (List.getElem_mem hi)⟩
theorem fairB_no {L : List Stp} {i : Nat} (hi : i < L.length) (h : 1000 < L[i].s.size ∨ 50 < L[i].l.length) : fairB L = false := by
  cases hf : fairB L with
  | false => rfl
  | true => have := (fairB_true hf).2 i hi; omega
theorem fairB_yes {L : List Stp} (h : ∀ i (h : i < L.length), ¬ (1000 < L[i].s.size ∨ 50 < L[i].l.length)) : fairB L = decide (L.length ≤ 150) := by
  unfold fairB
  have : (L.all fun x => decide (x.s.size ≤ 1000) && decide (x.l.length ≤ 50)) = true := by
    rw [List.all_eq_true]
    intro x hx
    obtain ⟨i, hi, rfl⟩ := List.getElem_of_mem hx
    have := h i hi
    simp only [Bool.and_eq_true, decide_eq_true_eq]; omega
  rw [this]; rfl
theorem SlKept.formC {w : World} {v : Value} {l : List (Int × Int)} (h : SlKept w v l) : ∃ p c, v = .slice p l.length c := h.form
end Go.Proofs.YtoebldemcgahnaaGreatDoor
