/- Disks (layer 19): plain words: what a crash, a write, a flush make of a disk; what stays true of it. -/
import Derived.Test.YtikgfkghfbfccaaDoorDh
namespace Go.Proofs.YtikgfkghfbfccaaDoor
/-- What stays true of a disk. -/
structure Dk.Ok (d : Dk) : Prop where
  n0 : 1 ≤ d.n
  n1 : d.n ≤ 4096
  km : ∀ i, (d.m i).isSome = true → 0 ≤ i ∧ i < d.n
  kc : ∀ i, (d.c i).isSome = true → 0 ≤ i ∧ i < d.n
  sm : ∀ i s, d.m i = some s → s.size = 256
  sc : ∀ i s, d.c i = some s → s.size = 256
  lf : d.armed = true → 0 ≤ d.left ∧ d.left ≤ 100000
  kl : d.keep.length ≤ 65536
theorem nil256_size : nil256.size = 256 := by unfold nil256; rw [ofL_size, List.length_replicate]
theorem Dk.Ok.at_size {d : Dk} (h : d.Ok) (i : Int) : (d.at i).size = 256 := by
  unfold Dk.at
  cases hm : d.m i with
  | none => exact nil256_size
  | some s => exact h.sm i s hm
theorem Dk.Ok.tell_size {d : Dk} (h : d.Ok) (i : Int) : (d.tell i).size = 256 := by
  unfold Dk.tell
  cases hc : d.c i with
  | none => exact h.at_size i
  | some s => exact h.sc i s hc
/-- How many bytes are kept there; none: nothing is said. -/
def keptN (l : List (Int × Int)) (i : Int) : Option Nat := (l.find? fun x => x.1 == i).map fun x => (min (max x.2 0) 256).toNat
theorem keptN_le {l : List (Int × Int)} {i : Int} {n : Nat} (h : keptN l i = some n) : n ≤ 256 := by
  unfold keptN at h
  rw [Option.map_eq_some_iff] at h
  obtain ⟨x, _, rfl⟩ := h
  omega
/-- What is durable behind a crash. -/
def Dk.fallen (d : Dk) (l : List (Int × Int)) (i : Int) : Option ByteArray :=
  match d.c i with
  | none => d.m i
  | some s => match keptN l i with
    | none => d.m i
    | some n => some (s.extract 0 n ++ (d.at i).extract n 256)
def Dk.crash (d : Dk) (l : List (Int × Int)) : Dk := if d.dead then d else { d with m := d.fallen l, c := fun _ => none, dead := true, armed := false }
theorem Dk.Ok.crash {d : Dk} (h : d.Ok) (l : List (Int × Int)) : (d.crash l).Ok := by
  unfold Dk.crash
  split
  · exact h
  · refine ⟨h.n0, h.n1, fun i hi => ?_, (fun i hi => by cases hi), fun i s hs => ?_, (fun i s hs => by cases hs), (fun hi => by cases hi), h.kl⟩
    · show 0 ≤ i ∧ i < d.n
      have hi : (d.fallen l i).isSome = true := hi
      unfold Dk.fallen at hi
      cases hc : d.c i with
      | none => rw [hc] at hi; exact h.km i hi
      | some s => exact h.kc i (by rw [hc]; rfl)
    · have hs : d.fallen l i = some s := hs
      unfold Dk.fallen at hs
      cases hc : d.c i with
      | none => rw [hc] at hs; exact h.sm i s hs
      | some t =>
        rw [hc] at hs
        cases hk : keptN l i with
        | none => simp only [hk] at hs; exact h.sm i s hs
        | some n =>
          simp only [hk] at hs
          injection hs with hs
          have h1 := keptN_le hk
          have h2 := h.sc i t hc
          have h3 := h.at_size i
          rw [← hs, ByteArray.size_append, ByteArray.size_extract, ByteArray.size_extract]
          omega
end Go.Proofs.YtikgfkghfbfccaaDoor
