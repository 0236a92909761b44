/- Disks (layer 19): a sector of one byte; pannierkeep.Zeros; plain words of writes that do not fall. -/
import Derived.Test.YtikgfkghfbfccaaDoorDp
import Derived.Test.YtikgfkghfbfccaaDoorFd
namespace Go.Proofs.YtikgfkghfbfccaaDoor
open Go.RowKit
set_option maxHeartbeats 1000000 in
theorem keep_Zeros' (m : Nat) (hm : m ≤ 16777216) (w : World) : Calls Tryd.prog 18 #[.int .i64 (m : Int)] w fun e w' => e = .returned (.string (ofL (List.replicate m 0))) ∧ Below w.heap.size w w' := by
  obtain ⟨MC, hmk, hcv⟩ := make_zeros m hm
  have hZ : strOfNums (List.replicate m 0) = ofL (List.replicate m 0) := bytes_ext (by rw [strOfNums_data, ofL_list]; simp)
  rw [hZ] at hcv
  have h0 : ¬ (m : Int) < 0 := by omega
  clear hZ
  go_enter Tryd.func18, Tryd.ntmps18
  go_wp2_with fail
  go_ret
  exact ⟨rfl, below_a1 _ _⟩
/-- A sector of one byte. -/
def blk (b : Int) : ByteArray := ofL (List.replicate 256 (UInt8.ofNat b.toNat))
theorem blk_size (b : Int) : (blk b).size = 256 := by unfold blk; rw [ofL_size, List.length_replicate]
def blkC (b : Int) (i : Nat) : Array Value := (List.replicate i (Value.int .u8 b) ++ List.replicate (256 - i) (Value.int .u8 0)).toArray
theorem blkC_set (b : Int) {i : Nat} (h : i < 256) : (blkC b i).setIfInBounds i (.int .u8 b) = blkC b (i + 1) := by
  unfold blkC
  rw [List.setIfInBounds_toArray]
  congr 1
  obtain ⟨k, hk⟩ : ∃ k, 256 - i = k + 1 := ⟨255 - i, by omega⟩
  rw [hk, show 256 - (i + 1) = k by omega, List.replicate_succ, List.set_append, if_neg (by simp), List.length_replicate, Nat.sub_self, List.set_cons_zero, List.replicate_succ']
  simp
theorem blkC_get (b : Int) {i j : Nat} (h : i < 256) (hj : j = i) : (blkC b i)[j]? = some (.int .u8 0) := by
  subst hj
  unfold blkC
  rw [List.getElem?_toArray, List.getElem?_append_right (by simp), List.length_replicate, Nat.sub_self, List.getElem?_replicate, if_pos (by omega)]
theorem blkC_end (b : Int) {j : Nat} (h : j < 256) : (blkC b 256)[j]? = some (.int .u8 b) := by
  unfold blkC
  rw [List.getElem?_toArray, List.getElem?_append_left (by rw [List.length_replicate]; exact h), List.getElem?_replicate, if_pos h]
set_option maxRecDepth 20000 in
set_option maxHeartbeats 1000000 in
theorem law19_Block (b : Int) (h0 : 0 ≤ b) (h1 : b < 256) (w : World) : Calls Tryd.prog 19 #[.int .u8 b] w fun e w' => e = .returned (.string (blk b)) ∧ Below w.heap.size w w' := by
  obtain ⟨i0, ih, i1, i2, i3⟩ := info_parts Tryd.info5
  have hmk : ∀ W : World, (Instr.makeSlice 41 (.int .i64 256) (.int .i64 256)).run Tryd.prog W = .ok (.slice (some ⟨W.heap.size, 0, none⟩) 256 256) (W.alloc (.cells (blkC b 0) 5)) := fun W => by
    have := run_make (P := Tryd.prog) W 41 5 i0 (.int .u8 0) Tryd.underlying41 ih i1 .i64 .i64 256 256 (by omega) (Int.le_refl _) (by rw [i3]; omega) (by omega)
    rw [i2] at this
    have e : madeCells #[.int .u8 0] 256 = blkC b 0 := by
      apply Array.toList_inj.1
      rw [toList_madeCells_one]
      simp [blkC]
    have e2 : madeCells (Value.int .u8 0).cells ((256 : Int).toNat * 1) = blkC b 0 := e
    rw [e2] at this
    exact this
  have hcv : ∀ W : World, W.heap[w.heap.size]? = some (.cells (blkC b 256) 5 (0, 0)) → (convert 41 9 (.slice (some ⟨w.heap.size, 0, none⟩) 256 256)).run Tryd.prog W = .ok (.string (blk b)) W := fun W hW => by
    have := run_convert_bytes_arg W 41 5 Tryd.underlying41 Tryd.underlying5 w.heap.size 0 256 256 (List.replicate 256 b) (by rw [List.length_replicate]) (fun i hi => by
      rw [Nat.zero_add, blk_cell hW, blkC_end b hi, List.getD_eq_getElem?_getD, List.getElem?_replicate, if_pos hi]; rfl) 9 Tryd.underlying9
    have e : strOfNums (List.replicate 256 b) = blk b := bytes_ext (by rw [strOfNums_data, blk, ofL_list, List.map_replicate])
    rw [this, e]
  have HCV := Lib.hid hcv
  clear i1 i2 i3 hcv
  go_enter Tryd.func19, Tryd.ntmps19
  go_wp2_with fail
  go_loopw [4] (fun c wr => ∃ i : Nat, i ≤ 256 ∧ c = .int .i64 i ∧ wr.heap[w.heap.size]? = some (.cells (blkC b i) 5 (0, 0)) ∧ Below w.heap.size w wr) (fun c _ => 256 - (intOf c).toNat)
  case atStart => exact ⟨0, Nat.zero_le _, rfl, blk_new _ _, below_a1 _ _⟩
  case round =>
    obtain ⟨i, hik, rfl, hb, hB⟩ := hrel
    have Hb := Lib.hid hb; have HB := Lib.hid hB
    clear hb hB hmk
    by_cases hlt : i < 256
    · have hi : (i : Int) < 256 := by omega
      have hi0 : (0 : Int) ≤ (i : Int) := by omega
      have hc : wr.cell? ⟨w.heap.size, i, none⟩ = some (.int .u8 0) := by rw [blk_cell Hb.out, blkC_get b hlt rfl]
      have hf := blk_frozen Hb.out
      have hS : Hid ((wr.setCell ⟨w.heap.size, i, none⟩ (.int .u8 b)).heap[w.heap.size]? = some (.cells (blkC b (i + 1)) 5 (0, 0))) := by show _ = _; rw [blk_set Hb.out, blkC_set b hlt]
      go_wp2_with fail
      go_roundw
      case rel => exact ⟨i + 1, by omega, by go_num, hS.out, HB.out.setCell (Nat.le_refl _) _⟩
      case measure => simp [intOf]; omega
    · have hi : ¬ (i : Int) < 256 := by omega
      obtain rfl : i = 256 := by omega
      have hcv := HCV.out wr Hb.out
      go_wp2_with fail
      go_ret
      exact ⟨rfl, HB.out⟩
theorem write_ok {d : Dk} {i : Int} {s : ByteArray} (hd : d.dead = false) (ha : d.armed = false) (hi : 0 ≤ i ∧ i < d.n) (hs : s.size = 256) : d.write i s = (d.put i s, 0) := by
  have h0 : d.may i = 0 := by unfold Dk.may; rw [hd, if_neg (by decide), if_neg (by omega)]
  have hf : d.falls = false := by unfold Dk.falls; rw [ha]; rfl
  have ht : (d.put i s).tick = d.put i s := by unfold Dk.tick; rw [show (d.put i s).armed = false from ha]; rfl
  unfold Dk.write
  rw [if_neg (by simpa using h0), if_neg (by simpa using hs), if_neg (by rw [hf]; decide), ht]
theorem flush_ok {d : Dk} (hd : d.dead = false) (ha : d.armed = false) (hn : 1 ≤ d.n) : d.flush = (d.pour, 0) := by
  have h0 : d.may 0 = 0 := by unfold Dk.may; rw [hd, if_neg (by decide), if_neg (by omega)]
  have hf : d.falls = false := by unfold Dk.falls; rw [ha]; rfl
  have ht : d.tick = d := by unfold Dk.tick; rw [ha]; rfl
  unfold Dk.flush
  rw [if_neg (by simpa using h0), if_neg (by rw [hf]; decide), ht]
theorem read_ok {d : Dk} {i : Int} (hd : d.dead = false) (hi : 0 ≤ i ∧ i < d.n) : d.read i = (d.tell i, 0) := by
  have h0 : d.may i = 0 := by unfold Dk.may; rw [hd, if_neg (by decide), if_neg (by omega)]
  unfold Dk.read
  rw [if_pos h0]
theorem frb {a w w' : World} {g mb cb : Nat} (hb : Below a.heap.size a w) (hf : Fr (DkS g mb cb) w w') (hg : a.heap.size ≤ g) (hm : a.heap.size ≤ mb) (hc : a.heap.size ≤ cb) : Below a.heap.size a w' :=
  ⟨hf.os.trans hb.os, hf.tape.trans hb.tape, hf.output.trans hb.output, Nat.le_trans hb.size hf.size, fun k hk => (hf.block k (Nat.lt_of_lt_of_le hk hb.size) (by rintro (h | h | h) <;> omega)).trans (hb.block k hk)⟩
end Go.Proofs.YtikgfkghfbfccaaDoor
