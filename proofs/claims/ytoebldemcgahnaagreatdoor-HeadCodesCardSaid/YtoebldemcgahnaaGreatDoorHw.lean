/- Disks (layer 19): plain words for the laws; an array of eight texts. -/
import Derived.Test.YtoebldemcgahnaaGreatDoorOpd
import Derived.Test.YtoebldemcgahnaaGreatDoorFf
import Derived.Test.YtoebldemcgahnaaGreatDoorDb
namespace Go.Proofs.YtoebldemcgahnaaGreatDoor
open Go.RowKit
theorem tell_put (d : Dk) (i : Int) (s : ByteArray) (j : Int) : (d.put i s).tell j = if j = i then s else d.tell j := by
  unfold Dk.tell Dk.put setF
  by_cases h : j = i
  · simp [h]
  · simp [h]; rfl
theorem pour_at (d : Dk) (j : Int) : d.pour.at j = d.tell j := by
  unfold Dk.tell Dk.at Dk.pour
  cases h : d.c j <;> simp [h]
theorem pour_tell (d : Dk) (j : Int) : d.pour.tell j = d.tell j := by
  exact (show d.pour.tell j = d.pour.at j from rfl).trans (pour_at d j)
theorem dirty_pour (d : Dk) : d.pour.dirty = [] := by
  unfold Dk.dirty Dk.pour
  rw [List.filter_eq_nil_iff]
  intro a _ h
  cases h
theorem new_tell (n : Int) (j : Int) : (Dk.new n).tell j = nil256 := rfl
theorem new_at (n : Int) (j : Int) : (Dk.new n).at j = nil256 := rfl
/-- Eight texts' cells. -/
def arr8 (f : Nat → ByteArray) : Array Value := #[.string (f 0), .string (f 1), .string (f 2), .string (f 3), .string (f 4), .string (f 5), .string (f 6), .string (f 7)]
def upd8 (f : Nat → ByteArray) (i : Nat) (s : ByteArray) : Nat → ByteArray := fun j => if j = i then s else f j
theorem lt8 {i : Nat} (h : i < 8) : i = 0 ∨ i = 1 ∨ i = 2 ∨ i = 3 ∨ i = 4 ∨ i = 5 ∨ i = 6 ∨ i = 7 := by omega
theorem arr8_get (f : Nat → ByteArray) {i : Nat} (h : i < 8) : (arr8 f)[i]? = some (.string (f i)) := by
  rcases lt8 h with rfl | rfl | rfl | rfl | rfl | rfl | rfl | rfl <;> rfl
theorem arr8_set (f : Nat → ByteArray) {i : Nat} (h : i < 8) (s : ByteArray) : (arr8 f).setIfInBounds i (.string s) = arr8 (upd8 f i s) := by
  rcases lt8 h with rfl | rfl | rfl | rfl | rfl | rfl | rfl | rfl <;> simp [arr8, upd8]
theorem SlU8.form {w : World} {v : Value} {l : List Int} (h : SlU8 w v l) : ∃ p c, v = .slice p l.length c := by
  rcases h with ⟨e, p, c, h⟩ | ⟨b, off, cap, e, _⟩
  · subst e; exact ⟨p, c, h⟩
  · exact ⟨_, _, e⟩
theorem SlU8.at {w : World} {v : Value} {l : List Int} (h : SlU8 w v l) {k : Nat} (hk : k < l.length) : ∃ b off cap, v = .slice (some ⟨b, off, none⟩) l.length cap ∧ b < w.heap.size ∧ w.cell? ⟨b, off + k, none⟩ = some (.int .u8 l[k]) := by
  rcases h with ⟨e, _⟩ | ⟨b, off, cap, e, hb, hc⟩
  · subst e; exact absurd hk (by simp)
  · exact ⟨b, off, cap, e, hb (fun e => by subst e; exact absurd hk (by simp)), hc k hk⟩
theorem SlU8.below {w w' : World} {v : Value} {l : List Int} (h : SlU8 w v l) (hb : Below w.heap.size w w') : SlU8 w' v l := by
  rcases h with h | ⟨b, off, cap, e, h1, h2⟩
  · exact .inl h
  · by_cases hl : l = []
    · subst hl
      exact .inl ⟨rfl, _, _, e⟩
    · have := h1 hl
      exact .inr ⟨b, off, cap, e, fun _ => Nat.lt_of_lt_of_le this hb.size, fun i hi => by rw [hb.cell (p := ⟨b, off + i, none⟩) this]; exact h2 i hi⟩
/-- The first k texts, one behind the other. -/
def cat8 (f : Nat → ByteArray) (k : Nat) : List UInt8 := ((List.range k).map fun i => (f i).data.toList).flatten
theorem cat8_succ (f : Nat → ByteArray) (k : Nat) : cat8 f (k + 1) = cat8 f k ++ (f k).data.toList := by
  unfold cat8; rw [List.range_succ, List.map_append, List.flatten_append]; simp
theorem cat8_len {f : Nat → ByteArray} (hf : ∀ i, i < 8 → (f i).size = 256) : ∀ {k : Nat}, k ≤ 8 → (cat8 f k).length = k * 256
  | 0, _ => by simp [cat8]
  | k + 1, h => by rw [cat8_succ, List.length_append, cat8_len hf (by omega), size_list, hf k (by omega)]; omega
/-- A disk that is neither dead nor armed, of n sectors. -/
structure Dk.Calm (d : Dk) (n : Int) : Prop where
  ok : d.Ok
  dead : d.dead = false
  armed : d.armed = false
  n : d.n = n
theorem Dk.Calm.put {d : Dk} {n : Int} (h : d.Calm n) {i : Int} {s : ByteArray} (hi : 0 ≤ i ∧ i < n) (hs : s.size = 256) : (d.put i s).Calm n := ⟨h.ok.put (by rw [h.n]; exact hi) hs, h.dead, h.armed, h.n⟩
theorem Dk.Calm.pour {d : Dk} {n : Int} (h : d.Calm n) : d.pour.Calm n := ⟨h.ok.pour, h.dead, h.armed, h.n⟩
theorem Dk.Calm.write {d : Dk} {n : Int} (h : d.Calm n) {i : Int} {s : ByteArray} (hi : 0 ≤ i ∧ i < n) (hs : s.size = 256) : d.write i s = (d.put i s, 0) := write_ok h.dead h.armed (by rw [h.n]; exact hi) hs
theorem Dk.Calm.flush {d : Dk} {n : Int} (h : d.Calm n) : d.flush = (d.pour, 0) := flush_ok h.dead h.armed h.ok.n0
theorem Dk.Calm.read {d : Dk} {n : Int} (h : d.Calm n) {i : Int} (hi : 0 ≤ i ∧ i < n) : d.read i = (d.tell i, 0) := read_ok h.dead (by rw [h.n]; exact hi)
theorem calm_new {n : Int} (h0 : 1 ≤ n) (h1 : n ≤ 4096) : (Dk.new n).Calm n := ⟨Dk.Ok.new h0 h1, rfl, rfl, rfl⟩
theorem bytes_cat {d : Dk} {f : Nat → ByteArray} (hn : d.n = 8) (h : ∀ i : Nat, i < 8 → d.at (i : Int) = f i) : d.bytes = cat8 f 8 := by
  unfold Dk.bytes Dk.firstB cat8
  rw [hn]
  congr 1
  refine List.map_congr_left fun i hi => ?_
  rw [h i (by have := List.mem_range.1 hi; omega)]
end Go.Proofs.YtoebldemcgahnaaGreatDoor

/- The laid variables of frames and disks together. -/
namespace Go.Proofs.YtoebldemcgahnaaGreatDoor
open Go.RowKit
/-- The laid variables of both packages. -/
structure HwW (w : World) (a0 a1 a2 aD aA : Addr) : Prop where
  f : FrW w a0 a1 a2
  d : DkW w aD aA
theorem HwW.below {w w' : World} {a0 a1 a2 aD aA : Addr} (h : HwW w a0 a1 a2 aD aA) (hb : Below w.heap.size w w') : HwW w' a0 a1 a2 aD aA := ⟨h.f.below hb, h.d.below hb⟩
end Go.Proofs.YtoebldemcgahnaaGreatDoor
