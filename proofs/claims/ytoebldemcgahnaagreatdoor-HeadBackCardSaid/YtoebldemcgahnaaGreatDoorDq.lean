/- Disks (layer 19): a sector of one byte; pannierkeep.Zeros; plain words of writes that do not fall. -/
import Derived.Test.YtoebldemcgahnaaGreatDoorDp
import Derived.Test.YtoebldemcgahnaaGreatDoorFd
namespace Go.Proofs.YtoebldemcgahnaaGreatDoor
open Go.RowKit
set_option maxHeartbeats 1000000 in
theorem keep_Zeros' (m : Nat) (hm : m ≤ 16777216) (w : World) : Calls Tryz.prog 96 #[.int .i64 (m : Int)] w fun e w' => e = .returned (.string (ofL (List.replicate m 0))) ∧ Below w.heap.size w w' := by
  obtain ⟨MC, hmk, hcv⟩ := make_zeros m hm
  have hZ : strOfNums (List.replicate m 0) = ofL (List.replicate m 0) := bytes_ext (by rw [strOfNums_data, ofL_list]; simp)
  rw [hZ] at hcv
  have h0 : ¬ (m : Int) < 0 := by omega
  clear hZ
  go_enter Tryz.func96, Tryz.ntmps96
  go_wp2_with fail
  go_ret
  exact ⟨rfl, below_a1 _ _⟩
/-- A sector of one byte. -/
def blk (b : Int) : ByteArray := ofL (List.replicate 256 (UInt8.ofNat b.toNat))
theorem blk_size (b : Int) : (blk b).size = 256 := by unfold blk; rw [ofL_size, List.length_replicate]
def blkC (b : Int) (i : Nat) : Array Value := (List.replicate i (Value.int .u8 b) ++ List.replicate (256 - i) (Value.int .u8 0)).toArray
theorem blkC_set (b : Int) {i : Nat} (h : i < 256) : (blkC b i).setIfInBounds i (.int .u8 b) = blkC b (i + 1) := by
  unfold blkC
  rw [List.setIfInBounds_toArray]
  congr 1
  obtain ⟨k, hk⟩ : ∃ k, 256 - i = k + 1 := ⟨255 - i, by omega⟩
  rw [hk, show 256 - (i + 1) = k by omega, List.replicate_succ, List.set_append, if_neg (by simp), List.length_replicate, Nat.sub_self, List.set_cons_zero, List.replicate_succ']
  simp
theorem blkC_get (b : Int) {i j : Nat} (h : i < 256) (hj : j = i) : (blkC b i)[j]? = some (.int .u8 0) := by
  subst hj
  unfold blkC
  rw [List.getElem?_toArray, List.getElem?_append_right (by simp), List.length_replicate, Nat.sub_self, List.getElem?_replicate, if_pos (by omega)]
theorem blkC_end (b : Int) {j : Nat} (h : j < 256) : (blkC b 256)[j]? = some (.int .u8 b) := by
  unfold blkC
  rw [List.getElem?_toArray, List.getElem?_append_left (by rw [List.length_replicate]; exact h), List.getElem?_replicate, if_pos h]
theorem write_ok {d : Dk} {i : Int} {s : ByteArray} (hd : d.dead = false) (ha : d.armed = false) (hi : 0 ≤ i ∧ i < d.n) (hs : s.size = 256) : d.write i s = (d.put i s, 0) := by
  have h0 : d.may i = 0 := by unfold Dk.may; rw [hd, if_neg (by decide), if_neg (by omega)]
  have hf : d.falls = false := by unfold Dk.falls; rw [ha]; rfl
  have ht : (d.put i s).tick = d.put i s := by unfold Dk.tick; rw [show (d.put i s).armed = false from ha]; rfl
  unfold Dk.write
  rw [if_neg (by simpa using h0), if_neg (by simpa using hs), if_neg (by rw [hf]; decide), ht]
theorem flush_ok {d : Dk} (hd : d.dead = false) (ha : d.armed = false) (hn : 1 ≤ d.n) : d.flush = (d.pour, 0) := by
  have h0 : d.may 0 = 0 := by unfold Dk.may; rw [hd, if_neg (by decide), if_neg (by omega)]
  have hf : d.falls = false := by unfold Dk.falls; rw [ha]; rfl
  have ht : d.tick = d := by unfold Dk.tick; rw [ha]; rfl
  unfold Dk.flush
  rw [if_neg (by simpa using h0), if_neg (by rw [hf]; decide), ht]
theorem read_ok {d : Dk} {i : Int} (hd : d.dead = false) (hi : 0 ≤ i ∧ i < d.n) : d.read i = (d.tell i, 0) := by
  have h0 : d.may i = 0 := by unfold Dk.may; rw [hd, if_neg (by decide), if_neg (by omega)]
  unfold Dk.read
  rw [if_pos h0]
theorem frb {a w w' : World} {g mb cb : Nat} (hb : Below a.heap.size a w) (hf : Fr (DkS g mb cb) w w') (hg : a.heap.size ≤ g) (hm : a.heap.size ≤ mb) (hc : a.heap.size ≤ cb) : Below a.heap.size a w' :=
  ⟨hf.os.trans hb.os, hf.tape.trans hb.tape, hf.output.trans hb.output, Nat.le_trans hb.size hf.size, fun k hk => (hf.block k (Nat.lt_of_lt_of_le hk hb.size) (by rintro (h | h | h) <;> omega)).trans (hb.block k hk)⟩
end Go.Proofs.YtoebldemcgahnaaGreatDoor
