/- Disks (layer 19): a map whose keys lie below a number has no more entries than that. -/
import Derived.Test.YtikgfkghfbfccaaDoorDf
namespace Go.Proofs.YtikgfkghfbfccaaDoor
open Go.RowKit Go.Maps
theorem nodup_below : ∀ (N : Nat) (l : List Nat), l.Nodup → (∀ x ∈ l, x < N) → l.length ≤ N
  | 0, [], _, _ => Nat.le_refl _
  | 0, x :: _, _, h => absurd (h x List.mem_cons_self) (by omega)
  | N + 1, l, hd, h => by
    by_cases hm : N ∈ l
    · have h1 := nodup_below N (l.erase N) (hd.erase N) fun x hx => by
        have h2 := h x (List.mem_of_mem_erase hx)
        have h3 := (hd.mem_erase_iff.1 hx).1
        omega
      rw [List.length_erase_of_mem hm] at h1
      omega
    · have h1 := nodup_below N l hd fun x hx => by
        have h2 := h x hx
        have h3 : x ≠ N := fun e => hm (e ▸ hx)
        omega
      omega
def litN : Lit → Nat
  | .int _ i => i.toNat
  | _ => 0
theorem MapS.tight {w : World} {b n N : Nat} {f : Int → Option ByteArray} (h : MapS w b n f) (hN : ∀ i, wf64 i → (f i).isSome = true → 0 ≤ i ∧ i < (N : Int)) : MapS w b N f := by
  obtain ⟨D, ⟨es, clock, hb, F, hs, rfl⟩, h2⟩ := h
  refine ⟨_, ⟨es, clock, hb, F, ?_, rfl⟩, h2⟩
  have hap := Maps.fit_apart lawI F
  have hk : ∀ p ∈ es.toList.map (WideElems.rg Tryd.prog 3 secE), ∃ i, p.1 = .int .i64 i ∧ 0 ≤ i ∧ i < (N : Int) := by
    intro p hp
    have hp0 := hp
    obtain ⟨x, hx, rfl⟩ := List.mem_map.1 hp
    obtain ⟨y, hy⟩ := F.reads x hx
    have hkey := WideElems.rd_key hy
    obtain ⟨i, _, hi, hwf⟩ := Maps.keyOf_int_inv Tryd.underlying3 hkey
    have e : (WideElems.rg Tryd.prog 3 secE x).1 = .int .i64 i := by unfold WideElems.rg; rw [hy]; exact hi
    have hh : Maps.has (DataW.map ((es.toList.map (WideElems.rg Tryd.prog 3 secE)).foldr DataW.insert [])) (.int .i64 i) = true := by
      rw [has_eq, List.any_eq_true]
      exact ⟨_, mem_sorted.2 hp0, by rw [e, same_int]; simp⟩
    rw [(h2 i hwf).1] at hh
    exact ⟨i, e, hN i hwf hh⟩
  have hlen : es.size = ((es.toList.map (WideElems.rg Tryd.prog 3 secE)).map fun p => litN p.1).length := by simp
  rw [hlen]
  refine nodup_below N _ ?_ ?_
  · rw [List.Nodup, List.pairwise_map]
    refine hap.imp_of_mem fun {p q} hp hq hne => ?_
    obtain ⟨i, ei, i0, _⟩ := hk p hp
    obtain ⟨j, ej, j0, _⟩ := hk q hq
    rw [ei, ej] at hne ⊢
    intro e
    apply hne
    have : i = j := by simp only [litN] at e; omega
    rw [this]
  · intro x hx
    obtain ⟨p, hp, rfl⟩ := List.mem_map.1 hx
    obtain ⟨i, ei, i0, i1⟩ := hk p hp
    rw [ei]
    simp only [litN]
    omega
end Go.Proofs.YtikgfkghfbfccaaDoor
