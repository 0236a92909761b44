/- Frames (layer 18): the reference's Make. -/
import Derived.Test.YtikgfkghfbfccaaDoorFc
namespace Go.Proofs.YtikgfkghfbfccaaDoor
open Go.RowKit
theorem Tryd.info5 : (Tryd.prog.info? 5).map (fun i => (i.zero, i.size, i.bytes)) = some (some (.int .u8 0), 1, 1) := by kernel_rfl
/-- make([]byte, m) and its bytes as a string. -/
theorem make_zeros (m : Nat) (hm : m ≤ 16777216) : ∃ MC : Array Value, (∀ W : World, (Instr.makeSlice 41 (.int .i64 (m : Int)) (.int .i64 (m : Int))).run Tryd.prog W = .ok (.slice (some ⟨W.heap.size, 0, none⟩) m m) (W.alloc (.cells MC 5))) ∧
    (∀ W : World, (convert 41 9 (.slice (some ⟨W.heap.size, 0, none⟩) m m)).run Tryd.prog (W.alloc (.cells MC 5)) = .ok (.string (strOfNums (List.replicate m 0))) (W.alloc (.cells MC 5))) := by
  obtain ⟨i0, ih, i1, i2, i3⟩ := info_parts Tryd.info5
  refine ⟨madeCells #[.int .u8 0] m, fun W => ?_, fun W => ?_⟩
  · have := run_make (P := Tryd.prog) W 41 5 i0 (.int .u8 0) Tryd.underlying41 ih i1 .i64 .i64 (m : Int) (m : Int) (by omega) (Int.le_refl _) (by rw [i3]; omega) (by omega)
    rw [i2] at this
    simpa [Value.cells] using this
  · refine run_convert_bytes_arg _ 41 5 Tryd.underlying41 Tryd.underlying5 W.heap.size 0 m m (List.replicate m 0) (by simp) (fun i hi => ?_) 9 Tryd.underlying9
    rw [Nat.zero_add, World.cell?_alloc_new, ← Array.getElem?_toList, toList_madeCells_one]
    simp [hi]
end Go.Proofs.YtikgfkghfbfccaaDoor
