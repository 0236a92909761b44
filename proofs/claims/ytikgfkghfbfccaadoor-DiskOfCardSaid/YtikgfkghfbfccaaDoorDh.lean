/- Disks (layer 19): a disk that nobody made. -/
import Derived.Test.YtikgfkghfbfccaaDoorDg
namespace Go.Proofs.YtikgfkghfbfccaaDoor
open Go.RowKit
set_option maxHeartbeats 1000000 in
theorem nil_Start (w : World) : Calls Tryd.prog 24 #[.pointer none] w fun e w' => e = .returned (.tuple #[]) ∧ w = w' := by
  go_enter Tryd.func24, Tryd.ntmps24
  go_wp2_with fail
  refine bodyPost_end (v := .tuple #[]) (by simp [results, Tryd.results24, go_sem]) rfl ?_
  exact ⟨rfl, rfl⟩
set_option maxHeartbeats 1000000 in
theorem nil_Dead (w : World) : Calls Tryd.prog 30 #[.pointer none] w fun e w' => e = .returned (.bool false) ∧ w = w' := by
  go_enter Tryd.func30, Tryd.ntmps30
  go_wp2_with fail
  go_ret
  exact ⟨rfl, rfl⟩
set_option maxHeartbeats 1000000 in
theorem nil_Size (w : World) : Calls Tryd.prog 29 #[.pointer none] w fun e w' => e = .returned (.int .i64 0) ∧ w = w' := by
  go_enter Tryd.func29, Tryd.ntmps29
  go_wp2_with fail
  go_ret
  exact ⟨rfl, rfl⟩
set_option maxHeartbeats 1000000 in
theorem nil_Crash (kv : Value) (w : World) : Calls Tryd.prog 22 #[.pointer none, kv] w fun e w' => e = .returned (.tuple #[]) ∧ w = w' := by
  go_enter Tryd.func22, Tryd.ntmps22
  go_wp2_with fail
  refine bodyPost_ret (v := .tuple #[]) (by simp [results, Tryd.results22, go_sem]) rfl ?_
  exact ⟨rfl, rfl⟩
set_option maxHeartbeats 1000000 in
theorem nil_Arm (n : Int) (kv : Value) (w : World) : Calls Tryd.prog 37 #[.pointer none, .int .i64 n, kv] w fun e w' => e = .returned (.int .i64 1) ∧ w = w' := by
  go_enter Tryd.func37, Tryd.ntmps37
  go_wp2_with fail
  go_ret
  exact ⟨rfl, rfl⟩
set_option maxHeartbeats 1000000 in
theorem nil_Dirty (w : World) : Calls Tryd.prog 28 #[.pointer none] w fun e w' => e = .returned (.slice none 0 0) ∧ w = w' := by
  go_enter Tryd.func28, Tryd.ntmps28
  go_wp2_with fail
  go_ret
  exact ⟨rfl, rfl⟩
set_option maxHeartbeats 1000000 in
theorem nil_Bytes (w : World) : Calls Tryd.prog 27 #[.pointer none] w fun e w' => e = .returned (.string ⟨#[]⟩) ∧ w = w' := by
  go_enter Tryd.func27, Tryd.ntmps27
  go_wp2_with fail
  go_ret
  exact ⟨rfl, rfl⟩
set_option maxHeartbeats 1000000 in
theorem nil_may (i : Int) (aD aA : Addr) (w : World) (hw : DkW w aD aA) : Calls Tryd.prog 60 #[.pointer none, .int .i64 i] w fun e w' => MayP 1 aD aA e w' ∧ Below w.heap.size w w' := by
  have vA := hw.vA
  clear hw
  go_enter Tryd.func60, Tryd.ntmps60
  go_wp2_with fail
  go_ret
  refine ⟨?_, below_alloc1 _ _⟩
  exact ⟨_, rfl, by rw [blk_cell (blk_new _ _)]; rfl⟩
set_option maxHeartbeats 1000000 in
theorem nil_Read (i : Int) (aD aA : Addr) (w : World) (hw : DkW w aD aA) : Calls Tryd.prog 23 #[.pointer none, .int .i64 i] w fun e w' => e = .returned (.tuple #[.string ⟨#[]⟩, .int .i64 1]) ∧ Below w.heap.size w w' := by
  have MY := Lib.hid (nil_may i aD aA w hw)
  have HW := Lib.hid hw
  clear hw
  go_enter Tryd.func23, Tryd.ntmps23
  go_wp2_with fail
  refine MY.out.mono ?_; rintro e w1 ⟨hp, hb1⟩
  unfold MayP at hp
  rw [if_neg (by decide)] at hp
  obtain ⟨p, rfl, hp1⟩ := hp
  have TL := Lib.hid (disk_told 1 (.inl rfl) p aD aA w1 (HW.out.below hb1) hp1)
  have B1 := Lib.hid hb1
  clear hb1 hp1
  go_wp2_with fail
  refine TL.out.mono ?_; rintro e w2 ⟨rfl, rfl⟩
  go_wp2_with fail
  go_ret2
  exact ⟨rfl, B1.out⟩
set_option maxHeartbeats 1000000 in
theorem nil_Flush (aD aA : Addr) (w : World) (hw : DkW w aD aA) : Calls Tryd.prog 21 #[.pointer none] w fun e w' => e = .returned (.int .i64 1) ∧ Below w.heap.size w w' := by
  have MY := Lib.hid (nil_may 0 aD aA w hw)
  have HW := Lib.hid hw
  clear hw
  go_enter Tryd.func21, Tryd.ntmps21
  go_wp2_with fail
  refine MY.out.mono ?_; rintro e w1 ⟨hp, hb1⟩
  unfold MayP at hp
  rw [if_neg (by decide)] at hp
  obtain ⟨p, rfl, hp1⟩ := hp
  have TL := Lib.hid (disk_told 1 (.inl rfl) p aD aA w1 (HW.out.below hb1) hp1)
  have B1 := Lib.hid hb1
  clear hb1 hp1
  go_wp2_with fail
  refine TL.out.mono ?_; rintro e w2 ⟨rfl, rfl⟩
  go_wp2_with fail
  go_ret
  exact ⟨rfl, B1.out⟩
set_option maxHeartbeats 1000000 in
theorem nil_Write (i : Int) (s : ByteArray) (aD aA : Addr) (w : World) (hw : DkW w aD aA) : Calls Tryd.prog 20 #[.pointer none, .int .i64 i, .string s] w fun e w' => e = .returned (.int .i64 1) ∧ Below w.heap.size w w' := by
  have MY := Lib.hid (nil_may i aD aA w hw)
  have HW := Lib.hid hw
  clear hw
  go_enter Tryd.func20, Tryd.ntmps20
  go_wp2_with fail
  refine MY.out.mono ?_; rintro e w1 ⟨hp, hb1⟩
  unfold MayP at hp
  rw [if_neg (by decide)] at hp
  obtain ⟨p, rfl, hp1⟩ := hp
  have TL := Lib.hid (disk_told 1 (.inl rfl) p aD aA w1 (HW.out.below hb1) hp1)
  have B1 := Lib.hid hb1
  clear hb1 hp1
  go_wp2_with fail
  refine TL.out.mono ?_; rintro e w2 ⟨rfl, rfl⟩
  go_wp2_with fail
  go_ret
  exact ⟨rfl, B1.out⟩
end Go.Proofs.YtikgfkghfbfccaaDoor
