/- Disks (layer 19): Bytes, Of. -/
import Derived.Test.YtdbiebnnogjccaaGreatDoorDo
import Derived.Test.YtdbiebnnogjccaaGreatDoorFd
namespace Go.Proofs.YtdbiebnnogjccaaGreatDoor
open Go.RowKit Go.Maps
theorem bld_below {T e : TypeId} {B b : Nat} {bs : List Value} {w w' : World} (h : Lib.IsBuilder T e B b bs w) (hb : Below w.heap.size w w') : Lib.IsBuilder T e B b bs w' := by
  rcases h with ⟨h1, v, h2, h3, h4⟩ | ⟨h1, v, h2, h3, h4⟩
  · exact .inl ⟨h1, v, blk_below h2 hb, row_bel h3 hb, h4⟩
  · exact .inr ⟨h1, v, blk_below h2 hb, row_bel h3 hb, h4⟩
/-- The first k sectors' durable bytes. -/
def Dk.firstB (d : Dk) (k : Nat) : List UInt8 := ((List.range k).map fun (i : Nat) => (d.at (i : Int)).data.toList).flatten
def Dk.bytes (d : Dk) : List UInt8 := d.firstB d.n.toNat
theorem Dk.firstB_succ (d : Dk) (k : Nat) : d.firstB (k + 1) = d.firstB k ++ (d.at (k : Int)).data.toList := by
  unfold Dk.firstB; rw [List.range_succ, List.map_append, List.flatten_append]; simp
theorem Dk.firstB_len {d : Dk} (ok : d.Ok0) : ∀ k, (d.firstB k).length = k * 256
  | 0 => by simp [Dk.firstB]
  | k + 1 => by rw [Dk.firstB_succ, List.length_append, firstB_len ok k, size_list, ok.at_size]; omega
set_option maxRecDepth 20000 in
set_option maxHeartbeats 2000000 in
theorem disk_Bytes (g mb cb : Nat) (kv : Value) (d : Dk) (w : World) (hd : DiskAt w g mb cb 4096 kv d) (ok : d.Ok0) :
    Calls Tryz.prog 98 #[.pointer (some ⟨g, 0, none⟩)] w fun e w' => e = .returned (.string (ofL d.bytes)) ∧ Below w.heap.size w w' := by
  obtain ⟨n, hn⟩ : ∃ n : Nat, (n : Int) = d.n := ⟨d.n.toNat, by have := ok.n0; omega⟩
  have hn1 : n ≤ 4096 := by have := ok.n1; omega
  have HD := Lib.hid hd
  have OK := Lib.hid ok
  have hc := blk_cell hd.blk
  unfold dkCells at hc
  rw [← hn] at hc
  have Hn := Lib.hid hn
  clear hd ok hn
  go_enter Tryz.func98, Tryz.ntmps98
  go_upto_region 4 with (fail)
  obtain ⟨w3, hw3⟩ : ∃ w3, w.alloc (.cells #[.pointer none, .slice none 0 0] 194) = w3 := ⟨_, rfl⟩
  have I3 : Hid (Lib.IsBuilder 194 5 w.heap.size w.heap.size (Lib.byteCells []) w3) := by show Lib.IsBuilder _ _ _ _ _ _; rw [← hw3]; exact Lib.fresh_isBuilder _ _ _
  have D3 : Hid (Below w.heap.size w w3) := by show Below _ _ _; rw [← hw3]; exact below_a1 _ _
  have hc3 := blk_cell (blk_below HD.out.blk D3.out)
  unfold dkCells at hc3
  rw [← Hn.out] at hc3
  rw [hw3]
  clear hw3 hc
  go_wp2_with fail
  go_loopw [11] (fun c wr => ∃ i : Nat, i ≤ n ∧ c = .int .i64 i ∧ Lib.IsBuilder 194 5 w.heap.size w.heap.size (Lib.byteCells (d.firstB i)) wr ∧ Below w.heap.size w wr) (fun c _ => n - (intOf c).toNat)
  case atStart => exact ⟨0, Nat.zero_le _, rfl, by rw [show d.firstB 0 = [] by simp [Dk.firstB]]; exact I3.out, D3.out⟩
  case round =>
    obtain ⟨i, hik, rfl, hI, hB⟩ := hrel
    have HI := Lib.hid hI; have HB := Lib.hid hB
    clear hI hB
    by_cases hlt : i < n
    · have hi : (i : Int) < (n : Int) := by omega
      have hwf : wf64 (i : Int) := wf64_of (by omega) (by omega)
      have AT := Lib.hid (fun W h => disk_at (i : Int) hwf g mb cb 4096 kv d W h)
      obtain ⟨Y, hY⟩ : ∃ Y, Y = d.at (i : Int) := ⟨_, rfl⟩
      have hYz : Y.size = 256 := by rw [hY]; exact OK.out.at_size _
      have hsn : Hid (Lib.byteCells (d.firstB (i + 1)) = Lib.byteCells (d.firstB i) ++ Lib.strCells Y) := by
        show _ = _
        rw [Dk.firstB_succ, ← hY]; simp [Lib.byteCells, Lib.strCells]
      rw [← hY] at AT
      clear hY hwf
      have HYz := Lib.hid hYz
      clear hYz
      go_wp2_with fail
      refine (AT.out _ (HD.out.below HB.out)).mono ?_; rintro e y1 ⟨rfl, hb1⟩
      have B3 := Lib.hid (bstep HB.out hb1)
      have I4 := Lib.hid (bld_below HI.out hb1)
      clear hb1
      go_wp2_with fail
      refine (Tryz.Builder_WriteString_r w.heap.size w.heap.size _ Y _ I4.out (by rw [Lib.byteCells, List.length_map, Dk.firstB_len OK.out, HYz.out]; omega) B3.out.size).mono ?_; rintro e y3 ⟨rfl, hI3, hb3⟩
      have B5 := Lib.hid (B3.out.trans hb3)
      have I6 := Lib.hid hI3
      clear hI3 hb3
      go_wp2_with fail
      go_roundw
      case rel => exact ⟨i + 1, by omega, by go_num, by rw [hsn.out]; exact .inr I6.out, B5.out⟩
      case measure => simp [intOf]; omega
    · have hi : ¬ (i : Int) < (n : Int) := by omega
      obtain rfl : i = n := by omega
      obtain ⟨B, hB⟩ : ∃ B, B = d.firstB i := ⟨_, rfl⟩
      have HQ : Hid (ofL d.bytes = ⟨B.toArray⟩) := by
        show _ = _
        rw [Dk.bytes, ← Hn.out, Int.toNat_natCast, ← hB]; rfl
      rw [← hB] at HI
      clear hB
      go_wp2_with fail
      refine (Tryz.Builder_String_r w.heap.size w.heap.size B _ HI.out HB.out.size).mono ?_; rintro e y1 ⟨rfl, hb1⟩
      have B3 := Lib.hid (HB.out.trans hb1)
      clear hb1
      go_wp2_with fail
      go_ret
      exact ⟨by rw [HQ.out]; rfl, B3.out⟩
set_option maxHeartbeats 1000000 in
theorem disk_New_bad (n : Int) (h : n < 1 ∨ 4096 < n) (w : World) :
    Calls Tryz.prog 11 #[.int .i64 n] w fun e w' => e = .returned (.tuple #[.pointer none, .int .i64 1]) ∧ w = w' := by
  by_cases h0 : n < 1
  · clear h
    go_enter Tryz.func11, Tryz.ntmps11
    go_wp2_with fail
    go_ret2
    exact ⟨rfl, rfl⟩
  · have h1 : 4096 < n := by omega
    clear h
    go_enter Tryz.func11, Tryz.ntmps11
    go_wp2_with fail
    go_ret2
    exact ⟨rfl, rfl⟩
end Go.Proofs.YtdbiebnnogjccaaGreatDoor

/- Disks (layer 19): a sector of one byte; pannierkeep.Zeros; plain words of writes that do not fall. -/
namespace Go.Proofs.YtdbiebnnogjccaaGreatDoor
open Go.RowKit
set_option maxHeartbeats 1000000 in
theorem keep_Zeros' (m : Nat) (hm : m ≤ 16777216) (w : World) : Calls Tryz.prog 94 #[.int .i64 (m : Int)] w fun e w' => e = .returned (.string (ofL (List.replicate m 0))) ∧ Below w.heap.size w w' := by
  obtain ⟨MC, hmk, hcv⟩ := make_zeros m hm
  have hZ : strOfNums (List.replicate m 0) = ofL (List.replicate m 0) := bytes_ext (by rw [strOfNums_data, ofL_list]; simp)
  rw [hZ] at hcv
  have h0 : ¬ (m : Int) < 0 := by omega
  clear hZ
  go_enter Tryz.func94, Tryz.ntmps94
  go_wp2_with fail
  go_ret
  exact ⟨rfl, below_a1 _ _⟩
/-- A sector of one byte. -/
def blk (b : Int) : ByteArray := ofL (List.replicate 256 (UInt8.ofNat b.toNat))
theorem blk_size (b : Int) : (blk b).size = 256 := by unfold blk; rw [ofL_size, List.length_replicate]
def blkC (b : Int) (i : Nat) : Array Value := (List.replicate i (Value.int .u8 b) ++ List.replicate (256 - i) (Value.int .u8 0)).toArray
theorem blkC_set (b : Int) {i : Nat} (h : i < 256) : (blkC b i).setIfInBounds i (.int .u8 b) = blkC b (i + 1) := by
  unfold blkC
  rw [List.setIfInBounds_toArray]
  congr 1
  obtain ⟨k, hk⟩ : ∃ k, 256 - i = k + 1 := ⟨255 - i, by omega⟩
  rw [hk, show 256 - (i + 1) = k by omega, List.replicate_succ, List.set_append, if_neg (by simp), List.length_replicate, Nat.sub_self, List.set_cons_zero, List.replicate_succ']
  simp
theorem blkC_get (b : Int) {i j : Nat} (h : i < 256) (hj : j = i) : (blkC b i)[j]? = some (.int .u8 0) := by
  subst hj
  unfold blkC
  rw [List.getElem?_toArray, List.getElem?_append_right (by simp), List.length_replicate, Nat.sub_self, List.getElem?_replicate, if_pos (by omega)]
theorem blkC_end (b : Int) {j : Nat} (h : j < 256) : (blkC b 256)[j]? = some (.int .u8 b) := by
  unfold blkC
  rw [List.getElem?_toArray, List.getElem?_append_left (by rw [List.length_replicate]; exact h), List.getElem?_replicate, if_pos h]
theorem write_ok {d : Dk} {i : Int} {s : ByteArray} (hd : d.dead = false) (ha : d.armed = false) (hi : 0 ≤ i ∧ i < d.n) (hs : s.size = 256) : d.write i s = (d.put i s, 0) := by
  have h0 : d.may i = 0 := by unfold Dk.may; rw [hd, if_neg (by decide), if_neg (by omega)]
  have hf : d.falls = false := by unfold Dk.falls; rw [ha]; rfl
  have ht : (d.put i s).tick = d.put i s := by unfold Dk.tick; rw [show (d.put i s).armed = false from ha]; rfl
  unfold Dk.write
  rw [if_neg (by simpa using h0), if_neg (by simpa using hs), if_neg (by rw [hf]; decide), ht]
theorem flush_ok {d : Dk} (hd : d.dead = false) (ha : d.armed = false) (hn : 1 ≤ d.n) : d.flush = (d.pour, 0) := by
  have h0 : d.may 0 = 0 := by unfold Dk.may; rw [hd, if_neg (by decide), if_neg (by omega)]
  have hf : d.falls = false := by unfold Dk.falls; rw [ha]; rfl
  have ht : d.tick = d := by unfold Dk.tick; rw [ha]; rfl
  unfold Dk.flush
  rw [if_neg (by simpa using h0), if_neg (by rw [hf]; decide), ht]
theorem read_ok {d : Dk} {i : Int} (hd : d.dead = false) (hi : 0 ≤ i ∧ i < d.n) : d.read i = (d.tell i, 0) := by
  have h0 : d.may i = 0 := by unfold Dk.may; rw [hd, if_neg (by decide), if_neg (by omega)]
  unfold Dk.read
  rw [if_pos h0]
theorem frb {a w w' : World} {g mb cb : Nat} (hb : Below a.heap.size a w) (hf : Fr (DkS g mb cb) w w') (hg : a.heap.size ≤ g) (hm : a.heap.size ≤ mb) (hc : a.heap.size ≤ cb) : Below a.heap.size a w' :=
  ⟨hf.os.trans hb.os, hf.tape.trans hb.tape, hf.output.trans hb.output, Nat.le_trans hb.size hf.size, fun k hk => (hf.block k (Nat.lt_of_lt_of_le hk hb.size) (by rintro (h | h | h) <;> omega)).trans (hb.block k hk)⟩
end Go.Proofs.YtdbiebnnogjccaaGreatDoor
