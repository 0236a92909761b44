/- Disks (layer 19): clear of a map; IndexFunc over what is kept, by the closure of Crash. -/
import Derived.Test.YtikgfkghfbfccaaDoorDc
namespace Go.Proofs.YtikgfkghfbfccaaDoor
open Go.RowKit Go.ChangeMaps Go.MapKept
theorem run_clear_map {w : World} {b n : Nat} {f : Int → Option ByteArray} (h : MapS w b n f) (ty : TypeId) :
    ∃ w', (Builtin.clear_ #[99] ty #[.map (some b)]).run Tryd.prog w = .ok (.tuple #[]) w' ∧ MapS w' b 0 (fun _ => none) ∧ w.grownBy w' (some b) := by
  obtain ⟨D, ⟨es, clock, hb, F, _, _⟩, _⟩ := h
  refine ⟨setBlock w b (.map #[] clock), ?_, ⟨.map [], ⟨#[], clock, heap_setBlock_same hb _, ⟨by simp, MapKept.stamped_empty clock, by simp⟩, Nat.le_refl _, rfl⟩, fun i _ => ⟨rfl, fun s h => by cases h⟩⟩, ⟨rfl, rfl, rfl, by simp [setBlock], fun i _ hi => heap_setBlock_other hb _ (fun e => hi (by rw [e]))⟩⟩
  simp [Builtin.clear_, run_underlying Tryd.underlying99, MapKept.run_getObj_map hb, MapKept.run_setObj_map _ hb, Result.andThen, setBlock]
end Go.Proofs.YtikgfkghfbfccaaDoor
