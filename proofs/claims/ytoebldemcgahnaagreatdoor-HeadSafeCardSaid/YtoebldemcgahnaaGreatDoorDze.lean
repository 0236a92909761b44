/- Disks (layer 19): DiskLast. -/
import Derived.Test.YtoebldemcgahnaaGreatDoorJl
import Derived.Test.YtoebldemcgahnaaGreatDoorDz
import Derived.BigQuiet
namespace Go.Proofs.YtoebldemcgahnaaGreatDoor
open Go.RowKit
theorem b8 (b : Int) (h0 : 0 ≤ b) (h1 : b < 256) : ∃ r : Nat, r < 8 ∧ b % 8 = (r : Int) ∧ b.tmod 8 = (r : Int) := by
  refine ⟨(b % 8).toNat, by omega, by omega, ?_⟩
  rw [Int.tmod_eq_emod_of_nonneg h0]; omega
theorem DiskAt.setOther {w : World} {g mb cb k q : Nat} {d : Dk} (h : DiskAt w g mb cb k (.slice none 0 0) d) (h1 : q ≠ g) (h2 : q ≠ mb) (h3 : q ≠ cb) (o : Nat) (v : Value) : DiskAt (w.setCell ⟨q, o, none⟩ v) g mb cb k (.slice none 0 0) d :=
  h.fr (fr_set (S := fun x => x = q) (g := q) rfl o v) h1.symm h2.symm h3.symm (fun b off n c e => by cases e)
theorem ifs_step {i : Nat} {A B : ByteArray} : (upd8 (fun j => if j < i then A else B) i A) = fun j => if j < i + 1 then A else B := by
  funext j
  unfold upd8
  by_cases h : j = i
  · subst h; simp
  · by_cases h2 : j < i
    · rw [if_neg h]; dsimp only; rw [if_pos h2, if_pos (by omega)]
    · rw [if_neg h]; dsimp only; rw [if_neg h2, if_neg (by omega)]
theorem set_far {W : World} {b q o o' : Nat} {u : Option Value} (h : W.cell? ⟨b, o, none⟩ = u) (hne : b ≠ q) (v : Value) : (W.setCell ⟨q, o', none⟩ v).cell? ⟨b, o, none⟩ = u :=
  (World.cell?_of_block (w := W) (Below.heap_setCell W ⟨q, o', none⟩ v b hne)).trans h
theorem upd8_same (f : Nat → ByteArray) (i : Nat) (s : ByteArray) : upd8 f i s i = s := by unfold upd8; rw [if_pos rfl]
end Go.Proofs.YtoebldemcgahnaaGreatDoor

/- Disks (layer 19): the law DiskKeeps. -/
namespace Go.Proofs.YtoebldemcgahnaaGreatDoor
open Go.RowKit
theorem keptN_drop {l : List (Int × Int)} {i : Int} {k : Nat} (hk : k < l.length) : keptN (l.drop k) i = if l[k].1 = i then some (min (max l[k].2 0) 256).toNat else keptN (l.drop (k + 1)) i := by
  rw [List.drop_eq_getElem_cons hk]
  unfold keptN
  rw [List.find?_cons]
  by_cases h : l[k].1 = i
  · have : (l[k].1 == i) = true := by rw [beq_iff_eq]; exact h
    rw [this, if_pos h]; rfl
  · have : (l[k].1 == i) = false := by rw [beq_eq_false_iff_ne]; exact h
    rw [this, if_neg h]
/-- What is in the cache, what is durable. -/
def CaP (d : Dk) (f g : Nat → ByteArray) : Prop := ∀ j : Nat, j < 8 → d.at (j : Int) = f j ∧ (f j).size = 256 ∧ ((g j = ⟨#[]⟩ ∧ d.c (j : Int) = none) ∨ (d.c (j : Int) = some (g j) ∧ (g j).size = 256))
theorem CaP.put {d : Dk} {f g : Nat → ByteArray} (h : CaP d f g) {r : Nat} {S : ByteArray} (hS : S.size = 256) : CaP (d.put (r : Int) S) f (upd8 g r S) := fun j hj => by
  obtain ⟨h1, h2, h3⟩ := h j hj
  refine ⟨h1, h2, ?_⟩
  unfold upd8 Dk.put setF
  by_cases e : j = r
  · subst e; right; exact ⟨by simp, by rw [if_pos rfl]; exact hS⟩
  · have : ¬ (j : Int) = (r : Int) := by omega
    rw [if_neg e]
    dsimp only
    rw [if_neg this]; exact h3
theorem CaP.of_pour {d : Dk} {f : Nat → ByteArray} (h : ∀ j : Nat, j < 8 → d.tell (j : Int) = f j ∧ (f j).size = 256) : CaP d.pour f (fun _ => ⟨#[]⟩) := fun j hj =>
  ⟨by rw [pour_at]; exact (h j hj).1, (h j hj).2, .inl ⟨rfl, rfl⟩⟩
theorem start_at (d : Dk) (i : Int) : d.start.at i = d.at i := rfl
theorem crash_tell {d : Dk} (h : d.dead = false) (l : List (Int × Int)) (i : Int) : (d.crash l).start.tell i = d.fat l i := by
  unfold Dk.tell
  rw [start_at, crash_at h]
  unfold Dk.crash; rw [if_neg (by rw [h]; decide)]; rfl
end Go.Proofs.YtoebldemcgahnaaGreatDoor
