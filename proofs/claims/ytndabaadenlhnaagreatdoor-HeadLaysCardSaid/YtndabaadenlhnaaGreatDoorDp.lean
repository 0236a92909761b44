/- Disks (layer 19): Bytes, Of. -/
import Derived.Test.YtndabaadenlhnaaGreatDoorDo
namespace Go.Proofs.YtndabaadenlhnaaGreatDoor
open Go.RowKit Go.Maps
theorem bld_below {T e : TypeId} {B b : Nat} {bs : List Value} {w w' : World} (h : Lib.IsBuilder T e B b bs w) (hb : Below w.heap.size w w') : Lib.IsBuilder T e B b bs w' := by
  rcases h with ⟨h1, v, h2, h3, h4⟩ | ⟨h1, v, h2, h3, h4⟩
  · exact .inl ⟨h1, v, blk_below h2 hb, row_bel h3 hb, h4⟩
  · exact .inr ⟨h1, v, blk_below h2 hb, row_bel h3 hb, h4⟩
/-- The first k sectors' durable bytes. -/
def Dk.firstB (d : Dk) (k : Nat) : List UInt8 := ((List.range k).map fun (i : Nat) => (d.at (i : Int)).data.toList).flatten
def Dk.bytes (d : Dk) : List UInt8 := d.firstB d.n.toNat
theorem Dk.firstB_succ (d : Dk) (k : Nat) : d.firstB (k + 1) = d.firstB k ++ (d.at (k : Int)).data.toList := by
  unfold Dk.firstB; rw [List.range_succ, List.map_append, List.flatten_append]; simp
theorem Dk.firstB_len {d : Dk} (ok : d.Ok0) : ∀ k, (d.firstB k).length = k * 256
  | 0 => by simp [Dk.firstB]
  | k + 1 => by rw [Dk.firstB_succ, List.length_append, firstB_len ok k, size_list, ok.at_size]; omega
set_option maxHeartbeats 1000000 in
theorem disk_New_bad (n : Int) (h : n < 1 ∨ 4096 < n) (w : World) :
    Calls Tryz.prog 16 #[.int .i64 n] w fun e w' => e = .returned (.tuple #[.pointer none, .int .i64 1]) ∧ w = w' := by
  by_cases h0 : n < 1
  · clear h
    go_enter Tryz.func16, Tryz.ntmps16
    go_wp2_with fail
    go_ret2
    exact ⟨rfl, rfl⟩
  · have h1 : 4096 < n := by omega
    clear h
    go_enter Tryz.func16, Tryz.ntmps16
    go_wp2_with fail
    go_ret2
    exact ⟨rfl, rfl⟩
end Go.Proofs.YtndabaadenlhnaaGreatDoor
