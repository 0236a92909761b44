/- Disks (layer 19): Bytes, Of. -/
import Derived.Test.YtdbiebnnogjccaaGreatDoorDo
import Derived.Test.YtdbiebnnogjccaaGreatDoorFd
import Derived.Test.YtdbiebnnogjccaaGreatDoorFq
import Derived.Test.YtdbiebnnogjccaaGreatDoorGb
import Derived.Test.YtdbiebnnogjccaaGreatDoorIs
namespace Go.Proofs.YtdbiebnnogjccaaGreatDoor
open Go.RowKit Go.Maps
theorem bld_below {T e : TypeId} {B b : Nat} {bs : List Value} {w w' : World} (h : Lib.IsBuilder T e B b bs w) (hb : Below w.heap.size w w') : Lib.IsBuilder T e B b bs w' := by
  rcases h with ⟨h1, v, h2, h3, h4⟩ | ⟨h1, v, h2, h3, h4⟩
  · exact .inl ⟨h1, v, blk_below h2 hb, row_bel h3 hb, h4⟩
  · exact .inr ⟨h1, v, blk_below h2 hb, row_bel h3 hb, h4⟩
/-- The first k sectors' durable bytes. -/
def Dk.firstB (d : Dk) (k : Nat) : List UInt8 := ((List.range k).map fun (i : Nat) => (d.at (i : Int)).data.toList).flatten
def Dk.bytes (d : Dk) : List UInt8 := d.firstB d.n.toNat
theorem Dk.firstB_succ (d : Dk) (k : Nat) : d.firstB (k + 1) = d.firstB k ++ (d.at (k : Int)).data.toList := by
  unfold Dk.firstB; rw [List.range_succ, List.map_append, List.flatten_append]; simp
theorem Dk.firstB_len {d : Dk} (ok : d.Ok0) : ∀ k, (d.firstB k).length = k * 256
  | 0 => by simp [Dk.firstB]
  | k + 1 => by rw [Dk.firstB_succ, List.length_append, firstB_len ok k, size_list, ok.at_size]; omega
set_option maxRecDepth 20000 in
set_option maxHeartbeats 2000000 in
theorem disk_Bytes (g mb cb : Nat) (kv : Value) (d : Dk) (w : World) (hd : DiskAt w g mb cb 4096 kv d) (ok : d.Ok0) :
    Calls Tryz.prog 98 #[.pointer (some ⟨g, 0, none⟩)] w fun e w' => e = .returned (.string (ofL d.bytes)) ∧ Below w.heap.size w w' := by
  obtain ⟨n, hn⟩ : ∃ n : Nat, (n : Int) = d.n := ⟨d.n.toNat, by have := ok.n0; omega⟩
  have hn1 : n ≤ 4096 := by have := ok.n1; omega
  have HD := Lib.hid hd
  have OK := Lib.hid ok
  have hc := blk_cell hd.blk
  unfold dkCells at hc
  rw [← hn] at hc
  have Hn := Lib.hid hn
  clear hd ok hn
  go_enter Tryz.func98, Tryz.ntmps98
  go_upto_region 4 with (fail)
  obtain ⟨w3, hw3⟩ : ∃ w3, w.alloc (.cells #[.pointer none, .slice none 0 0] 194) = w3 := ⟨_, rfl⟩
  have I3 : Hid (Lib.IsBuilder 194 5 w.heap.size w.heap.size (Lib.byteCells []) w3) := by show Lib.IsBuilder _ _ _ _ _ _; rw [← hw3]; exact Lib.fresh_isBuilder _ _ _
  have D3 : Hid (Below w.heap.size w w3) := by show Below _ _ _; rw [← hw3]; exact below_a1 _ _
  have hc3 := blk_cell (blk_below HD.out.blk D3.out)
  unfold dkCells at hc3
  rw [← Hn.out] at hc3
  rw [hw3]
  clear hw3 hc
  go_wp2_with fail
  go_loopw [11] (fun c wr => ∃ i : Nat, i ≤ n ∧ c = .int .i64 i ∧ Lib.IsBuilder 194 5 w.heap.size w.heap.size (Lib.byteCells (d.firstB i)) wr ∧ Below w.heap.size w wr) (fun c _ => n - (intOf c).toNat)
  case atStart => exact ⟨0, Nat.zero_le _, rfl, by rw [show d.firstB 0 = [] by simp [Dk.firstB]]; exact I3.out, D3.out⟩
  case round =>
    obtain ⟨i, hik, rfl, hI, hB⟩ := hrel
    have HI := Lib.hid hI; have HB := Lib.hid hB
    clear hI hB
    by_cases hlt : i < n
    · have hi : (i : Int) < (n : Int) := by omega
      have hwf : wf64 (i : Int) := wf64_of (by omega) (by omega)
      have AT := Lib.hid (fun W h => disk_at (i : Int) hwf g mb cb 4096 kv d W h)
      obtain ⟨Y, hY⟩ : ∃ Y, Y = d.at (i : Int) := ⟨_, rfl⟩
      have hYz : Y.size = 256 := by rw [hY]; exact OK.out.at_size _
      have hsn : Hid (Lib.byteCells (d.firstB (i + 1)) = Lib.byteCells (d.firstB i) ++ Lib.strCells Y) := by
        show _ = _
        rw [Dk.firstB_succ, ← hY]; simp [Lib.byteCells, Lib.strCells]
      rw [← hY] at AT
      clear hY hwf
      have HYz := Lib.hid hYz
      clear hYz
      go_wp2_with fail
      refine (AT.out _ (HD.out.below HB.out)).mono ?_; rintro e y1 ⟨rfl, hb1⟩
      have B3 := Lib.hid (bstep HB.out hb1)
      have I4 := Lib.hid (bld_below HI.out hb1)
      clear hb1
      go_wp2_with fail
      refine (Tryz.Builder_WriteString_r w.heap.size w.heap.size _ Y _ I4.out (by rw [Lib.byteCells, List.length_map, Dk.firstB_len OK.out, HYz.out]; omega) B3.out.size).mono ?_; rintro e y3 ⟨rfl, hI3, hb3⟩
      have B5 := Lib.hid (B3.out.trans hb3)
      have I6 := Lib.hid hI3
      clear hI3 hb3
      go_wp2_with fail
      go_roundw
      case rel => exact ⟨i + 1, by omega, by go_num, by rw [hsn.out]; exact .inr I6.out, B5.out⟩
      case measure => simp [intOf]; omega
    · have hi : ¬ (i : Int) < (n : Int) := by omega
      obtain rfl : i = n := by omega
      obtain ⟨B, hB⟩ : ∃ B, B = d.firstB i := ⟨_, rfl⟩
      have HQ : Hid (ofL d.bytes = ⟨B.toArray⟩) := by
        show _ = _
        rw [Dk.bytes, ← Hn.out, Int.toNat_natCast, ← hB]; rfl
      rw [← hB] at HI
      clear hB
      go_wp2_with fail
      refine (Tryz.Builder_String_r w.heap.size w.heap.size B _ HI.out HB.out.size).mono ?_; rintro e y1 ⟨rfl, hb1⟩
      have B3 := Lib.hid (HB.out.trans hb1)
      clear hb1
      go_wp2_with fail
      go_ret
      exact ⟨by rw [HQ.out]; rfl, B3.out⟩
set_option maxHeartbeats 1000000 in
theorem disk_New_bad (n : Int) (h : n < 1 ∨ 4096 < n) (w : World) :
    Calls Tryz.prog 11 #[.int .i64 n] w fun e w' => e = .returned (.tuple #[.pointer none, .int .i64 1]) ∧ w = w' := by
  by_cases h0 : n < 1
  · clear h
    go_enter Tryz.func11, Tryz.ntmps11
    go_wp2_with fail
    go_ret2
    exact ⟨rfl, rfl⟩
  · have h1 : 4096 < n := by omega
    clear h
    go_enter Tryz.func11, Tryz.ntmps11
    go_wp2_with fail
    go_ret2
    exact ⟨rfl, rfl⟩
end Go.Proofs.YtdbiebnnogjccaaGreatDoor

/- Disks (layer 19): a sector of one byte; pannierkeep.Zeros; plain words of writes that do not fall. -/
namespace Go.Proofs.YtdbiebnnogjccaaGreatDoor
open Go.RowKit
set_option maxHeartbeats 1000000 in
theorem keep_Zeros' (m : Nat) (hm : m ≤ 16777216) (w : World) : Calls Tryz.prog 94 #[.int .i64 (m : Int)] w fun e w' => e = .returned (.string (ofL (List.replicate m 0))) ∧ Below w.heap.size w w' := by
  obtain ⟨MC, hmk, hcv⟩ := make_zeros m hm
  have hZ : strOfNums (List.replicate m 0) = ofL (List.replicate m 0) := bytes_ext (by rw [strOfNums_data, ofL_list]; simp)
  rw [hZ] at hcv
  have h0 : ¬ (m : Int) < 0 := by omega
  clear hZ
  go_enter Tryz.func94, Tryz.ntmps94
  go_wp2_with fail
  go_ret
  exact ⟨rfl, below_a1 _ _⟩
/-- A sector of one byte. -/
def blk (b : Int) : ByteArray := ofL (List.replicate 256 (UInt8.ofNat b.toNat))
theorem blk_size (b : Int) : (blk b).size = 256 := by unfold blk; rw [ofL_size, List.length_replicate]
def blkC (b : Int) (i : Nat) : Array Value := (List.replicate i (Value.int .u8 b) ++ List.replicate (256 - i) (Value.int .u8 0)).toArray
theorem blkC_set (b : Int) {i : Nat} (h : i < 256) : (blkC b i).setIfInBounds i (.int .u8 b) = blkC b (i + 1) := by
  unfold blkC
  rw [List.setIfInBounds_toArray]
  congr 1
  obtain ⟨k, hk⟩ : ∃ k, 256 - i = k + 1 := ⟨255 - i, by omega⟩
  rw [hk, show 256 - (i + 1) = k by omega, List.replicate_succ, List.set_append, if_neg (by simp), List.length_replicate, Nat.sub_self, List.set_cons_zero, List.replicate_succ']
  simp
theorem blkC_get (b : Int) {i j : Nat} (h : i < 256) (hj : j = i) : (blkC b i)[j]? = some (.int .u8 0) := by
  subst hj
  unfold blkC
  rw [List.getElem?_toArray, List.getElem?_append_right (by simp), List.length_replicate, Nat.sub_self, List.getElem?_replicate, if_pos (by omega)]
theorem blkC_end (b : Int) {j : Nat} (h : j < 256) : (blkC b 256)[j]? = some (.int .u8 b) := by
  unfold blkC
  rw [List.getElem?_toArray, List.getElem?_append_left (by rw [List.length_replicate]; exact h), List.getElem?_replicate, if_pos h]
theorem write_ok {d : Dk} {i : Int} {s : ByteArray} (hd : d.dead = false) (ha : d.armed = false) (hi : 0 ≤ i ∧ i < d.n) (hs : s.size = 256) : d.write i s = (d.put i s, 0) := by
  have h0 : d.may i = 0 := by unfold Dk.may; rw [hd, if_neg (by decide), if_neg (by omega)]
  have hf : d.falls = false := by unfold Dk.falls; rw [ha]; rfl
  have ht : (d.put i s).tick = d.put i s := by unfold Dk.tick; rw [show (d.put i s).armed = false from ha]; rfl
  unfold Dk.write
  rw [if_neg (by simpa using h0), if_neg (by simpa using hs), if_neg (by rw [hf]; decide), ht]
theorem flush_ok {d : Dk} (hd : d.dead = false) (ha : d.armed = false) (hn : 1 ≤ d.n) : d.flush = (d.pour, 0) := by
  have h0 : d.may 0 = 0 := by unfold Dk.may; rw [hd, if_neg (by decide), if_neg (by omega)]
  have hf : d.falls = false := by unfold Dk.falls; rw [ha]; rfl
  have ht : d.tick = d := by unfold Dk.tick; rw [ha]; rfl
  unfold Dk.flush
  rw [if_neg (by simpa using h0), if_neg (by rw [hf]; decide), ht]
theorem read_ok {d : Dk} {i : Int} (hd : d.dead = false) (hi : 0 ≤ i ∧ i < d.n) : d.read i = (d.tell i, 0) := by
  have h0 : d.may i = 0 := by unfold Dk.may; rw [hd, if_neg (by decide), if_neg (by omega)]
  unfold Dk.read
  rw [if_pos h0]
theorem frb {a w w' : World} {g mb cb : Nat} (hb : Below a.heap.size a w) (hf : Fr (DkS g mb cb) w w') (hg : a.heap.size ≤ g) (hm : a.heap.size ≤ mb) (hc : a.heap.size ≤ cb) : Below a.heap.size a w' :=
  ⟨hf.os.trans hb.os, hf.tape.trans hb.tape, hf.output.trans hb.output, Nat.le_trans hb.size hf.size, fun k hk => (hf.block k (Nat.lt_of_lt_of_le hk hb.size) (by rintro (h | h | h) <;> omega)).trans (hb.block k hk)⟩
end Go.Proofs.YtdbiebnnogjccaaGreatDoor

/- The log (layer 21): what a log is in memory; its small calls. -/
namespace Go.Proofs.YtdbiebnnogjccaaGreatDoor
open Go.RowKit
/-- The laid variables of frames, disks and the log. -/
structure WlW (w : World) (a0 a1 a2 aD aA bD bL bF : Addr) : Prop where
  h : HwW w a0 a1 a2 aD aA
  vD : w.cell? ⟨5, 0, none⟩ = some (.iface 308 (.pointer (some bD)))
  vL : w.cell? ⟨6, 0, none⟩ = some (.iface 308 (.pointer (some bL)))
  vF : w.cell? ⟨7, 0, none⟩ = some (.iface 308 (.pointer (some bF)))
  kD : ∃ c t, w.heap[bD.block]? = some (.cells c t (0, 0))
  kL : ∃ c t, w.heap[bL.block]? = some (.cells c t (0, 0))
  kF : ∃ c t, w.heap[bF.block]? = some (.cells c t (0, 0))
  n1 : bD ≠ bL
  n2 : bD ≠ bF
  n3 : bL ≠ bF
theorem WlW.below {w w' : World} {a0 a1 a2 aD aA bD bL bF : Addr} (h : WlW w a0 a1 a2 aD aA bD bL bF) (hb : Below w.heap.size w w') : WlW w' a0 a1 a2 aD aA bD bL bF :=
  ⟨h.h.below hb, dk_cell h.vD hb, dk_cell h.vL hb, dk_cell h.vF hb, dk_blk h.kD hb, dk_blk h.kL hb, dk_blk h.kF hb, h.n1, h.n2, h.n3⟩
/-- The log's cells. -/
def lgCells (g : Nat) (n : Int) (lg : Nat) (rv : Value) (x : Wl) : Array Value := #[.pointer (some ⟨g, 0, none⟩), .int .i64 2, .int .i64 (lg : Int), .int .i64 (2 + (lg : Int)), .int .i64 (n - 2 - (lg : Int)), rv, .int .u64 x.next, .int .i64 (x.used : Int), .bool x.dead]
/-- A log in memory: its struct at p, its records in a row at or above B. -/
structure LogAt (w : World) (B p g : Nat) (n : Int) (lg : Nat) (rv : Value) (x : Wl) : Prop where
  blk : w.heap[p]? = some (.cells (lgCells g n lg rv x) 116 (0, 0))
  row : w.ownsRow B 9 1 rv x.recs.length (x.recs.map Value.string)
  rp : rv.ownBlock ≠ some p
  x0 : 1 ≤ x.next
  x1 : x.next ≤ 2147483649
  us : x.used ≤ lg
  rl : x.recs.length ≤ x.used
  l1 : lg ≤ 1023
theorem row_fr {S : Nat → Prop} {w w' : World} {B : Nat} {e : TypeId} {s n : Nat} {v : Value} {xs : List Value} (h : w.ownsRow B e s v n xs) (hf : Fr S w w') (hs : ∀ b, v.ownBlock = some b → ¬ S b) : w'.ownsRow B e s v n xs := by
  refine ⟨h.1, ?_⟩
  rcases h.2 with hn | ⟨g, cap, cur, rfl, hb, hgg, rest⟩
  · exact .inl hn
  · exact .inr ⟨g, cap, cur, rfl, hb, blk_fr hgg hf (hs g rfl), rest⟩
section
variable {w w' : World} {B p g : Nat} {n : Int} {lg : Nat} {rv : Value} {x : Wl}
theorem LogAt.fr {S : Nat → Prop} (h : LogAt w B p g n lg rv x) (hf : Fr S w w') (hp : ¬ S p) (hr : ∀ b, rv.ownBlock = some b → ¬ S b) : LogAt w' B p g n lg rv x :=
  ⟨blk_fr h.blk hf hp, row_fr h.row hf hr, h.rp, h.x0, h.x1, h.us, h.rl, h.l1⟩
theorem LogAt.below (h : LogAt w B p g n lg rv x) (hb : Below w.heap.size w w') : LogAt w' B p g n lg rv x :=
  ⟨blk_below h.blk hb, row_bel h.row hb, h.rp, h.x0, h.x1, h.us, h.rl, h.l1⟩
/-- The cell of a number or of the mark is written. -/
theorem LogAt.set {x' : Wl} (h : LogAt w B p g n lg rv x) (o : Nat) (v : Value) (he : (lgCells g n lg rv x).setIfInBounds o v = lgCells g n lg rv x') (hr : x'.recs = x.recs) (x0 : 1 ≤ x'.next) (x1 : x'.next ≤ 2147483649) (us : x'.used ≤ lg) (ul : x'.recs.length ≤ x'.used) : LogAt (w.setCell ⟨p, o, none⟩ v) B p g n lg rv x' := by
  refine ⟨by rw [blk_set h.blk, he], ?_, h.rp, x0, x1, us, ul, h.l1⟩
  rw [hr]
  exact row_fr h.row (fr_set (S := fun q => q = p) rfl o v) fun b hb e => h.rp (by rw [hb, e])
end
/-- The sentinel behind a number. -/
def whyB (bD bL bF : Addr) (c : Int) : Addr := if c = 74 then bD else if c = 2 then bL else bF
set_option maxHeartbeats 1000000 in
theorem wal_told (c : Int) (hc : c = 74 ∨ c = 2 ∨ c = 73) (a0 a1 a2 aD aA bD bL bF : Addr) (w : World) (hw : WlW w a0 a1 a2 aD aA bD bL bF) :
    Calls Tryz.prog 74 #[.iface 308 (.pointer (some (whyB bD bL bF c)))] w fun e w' => e = .returned (.int .i64 c) ∧ w = w' := by
  obtain ⟨cD, tD, hD⟩ := hw.kD
  obtain ⟨cL, tL, hL⟩ := hw.kL
  obtain ⟨cF, tF, hF⟩ := hw.kF
  have v1 := hw.vD
  have v2 := hw.vL
  have v3 := hw.vF
  rcases hc with rfl | rfl | rfl
  · show Calls _ _ #[.iface _ (.pointer (some bD))] _ _
    have I1 := Lib.hid (is_same bD w)
    clear hw hD hL hF
    go_enter Tryz.func74, Tryz.ntmps74
    go_wp2_with fail
    refine I1.out.mono ?_; rintro e w1 ⟨rfl, rfl⟩
    go_wp2_with fail
    go_ret
    exact ⟨rfl, rfl⟩
  · show Calls _ _ #[.iface _ (.pointer (some bL))] _ _
    have I1 := Lib.hid (is_other bL bD cL cD tL tD w hw.n1.symm hL hD)
    have I2 := Lib.hid (is_same bL w)
    clear hw hD hL hF
    go_enter Tryz.func74, Tryz.ntmps74
    go_wp2_with fail
    refine I1.out.mono ?_; rintro e w1 ⟨rfl, rfl⟩
    go_wp2_with fail
    refine I2.out.mono ?_; rintro e w1 ⟨rfl, rfl⟩
    go_wp2_with fail
    go_ret
    exact ⟨rfl, rfl⟩
  · show Calls _ _ #[.iface _ (.pointer (some bF))] _ _
    have I1 := Lib.hid (is_other bF bD cF cD tF tD w hw.n2.symm hF hD)
    have I2 := Lib.hid (is_other bF bL cF cL tF tL w hw.n3.symm hF hL)
    have I3 := Lib.hid (is_same bF w)
    clear hw hD hL hF
    go_enter Tryz.func74, Tryz.ntmps74
    go_wp2_with fail
    refine I1.out.mono ?_; rintro e w1 ⟨rfl, rfl⟩
    go_wp2_with fail
    refine I2.out.mono ?_; rintro e w1 ⟨rfl, rfl⟩
    go_wp2_with fail
    refine I3.out.mono ?_; rintro e w1 ⟨rfl, rfl⟩
    go_wp2_with fail
    go_ret
    exact ⟨rfl, rfl⟩
section
variable {B p g : Nat} {n : Int} {lg : Nat} {rv : Value} {x : Wl}
set_option maxHeartbeats 1000000 in
theorem wal_Next (w : World) (h : LogAt w B p g n lg rv x) : Calls Tryz.prog 16 #[.pointer (some ⟨p, 0, none⟩)] w fun e w' => e = .returned (.int .u32 x.next) ∧ w = w' := by
  have x0 := h.x0
  have x1 := h.x1
  have u1 : IntKind.u32.wrap x.next = x.next := by rw [IntKind.wrap_u32]; omega
  have hc := blk_cell h.blk
  unfold lgCells at hc
  clear h
  go_enter Tryz.func16, Tryz.ntmps16
  go_wp2_with fail
  go_ret
  exact ⟨rfl, rfl⟩
set_option maxHeartbeats 1000000 in
theorem wal_Left (w : World) (h : LogAt w B p g n lg rv x) : Calls Tryz.prog 72 #[.pointer (some ⟨p, 0, none⟩)] w fun e w' => e = .returned (.int .i64 ((lg : Int) - (x.used : Int))) ∧ ∃ k, w' = w.drewN k := by
  have us := h.us
  have l1 := h.l1
  have u1 : IntKind.i64.wrap ((lg : Int) - (x.used : Int)) = (lg : Int) - (x.used : Int) := IntWalk.i64_in _ (by omega)
  have hc := blk_cell h.blk
  unfold lgCells at hc
  clear h
  go_enter Tryz.func72, Tryz.ntmps72
  go_wp2_with fail
  go_quiet (fail)
  go_wp2_with fail
  go_ret
  exact ⟨rfl, _, rfl⟩
set_option maxHeartbeats 1000000 in
theorem wal_Empty (w : World) (h : LogAt w B p g n lg rv x) : Calls Tryz.prog 31 #[.pointer (some ⟨p, 0, none⟩)] w fun e w' => e = .returned (.tuple #[]) ∧ LogAt w' B p g n lg (.slice none 0 0) ⟨[], x.next, 0, x.dead⟩ ∧ Fr (fun q => q = p) w w' := by
  have H := Lib.hid h
  have hc := blk_cell h.blk
  have hf := blk_frozen h.blk
  have h1 : (w.setCell ⟨p, 5, none⟩ (.slice none 0 0)).heap[p]? = some (.cells (lgCells g n lg (.slice none 0 0) x) 116 (0, 0)) := by rw [blk_set h.blk]; rfl
  have hf1 := blk_frozen h1
  have H2 : Hid (LogAt ((w.setCell ⟨p, 5, none⟩ (.slice none 0 0)).setCell ⟨p, 7, none⟩ (.int .i64 0)) B p g n lg (.slice none 0 0) ⟨[], x.next, 0, x.dead⟩) :=
    ⟨by rw [blk_set h1]; rfl, ⟨rfl, .inl ⟨rfl, rfl⟩⟩, (fun e => by cases e), h.x0, h.x1, Nat.zero_le _, Nat.le_refl _, h.l1⟩
  have F2 : Hid (Fr (fun q => q = p) w ((w.setCell ⟨p, 5, none⟩ (.slice none 0 0)).setCell ⟨p, 7, none⟩ (.int .i64 0))) := (fr_set (S := fun q => q = p) rfl _ _).trans (fr_set (S := fun q => q = p) rfl _ _)
  unfold lgCells at hc
  clear h h1
  go_enter Tryz.func31, Tryz.ntmps31
  go_wp2_with fail
  refine bodyPost_end (v := .tuple #[]) (by simp [results, Tryz.results31, go_sem]) rfl ?_
  exact ⟨rfl, H2.out, F2.out⟩
end
/-- What may hands back. -/
def whyV (bD bL bF : Addr) (c : Int) : Value := if c = 0 then .nilIface else .iface 308 (.pointer (some (whyB bD bL bF c)))
theorem walmay_cases (x : Wl) (lg : Nat) (s : ByteArray) : x.may lg s = 74 ∨ x.may lg s = 2 ∨ x.may lg s = 73 ∨ x.may lg s = 0 := by
  unfold Wl.may
  split
  · exact .inl rfl
  · split
    · exact .inr (.inl rfl)
    · split
      · exact .inr (.inr (.inl rfl))
      · exact .inr (.inr (.inr rfl))
section
variable {B p g : Nat} {n : Int} {lg : Nat} {rv : Value} {x : Wl}
set_option maxHeartbeats 2000000 in
theorem wal_may (s : ByteArray) (a0 a1 a2 aD aA bD bL bF : Addr) (w : World) (hw : WlW w a0 a1 a2 aD aA bD bL bF) (h : LogAt w B p g n lg rv x) :
    Calls Tryz.prog 73 #[.pointer (some ⟨p, 0, none⟩), .string s] w fun e w' => e = .returned (whyV bD bL bF (x.may lg s)) ∧ ∃ k, w' = w.drewN k := by
  have hv1 := hw.vD
  have hv2 := hw.vL
  have hv3 := hw.vF
  have LF := Lib.hid (wal_Left w h)
  have FS := Lib.hid (frame_Size (s.size : Int) w)
  have hc := blk_cell h.blk
  unfold lgCells at hc
  clear hw h
  cases hd : x.dead with
  | true =>
    rw [hd] at hc
    rw [show x.may lg s = 74 by unfold Wl.may; rw [if_pos hd]]
    clear hd
    go_enter Tryz.func73, Tryz.ntmps73
    go_wp2_with fail
    go_ret
    exact ⟨rfl, 0, rfl⟩
  | false =>
    rw [hd] at hc
    by_cases h1 : 2000 < s.size
    · have q1 : (2000 : Int) < (s.size : Int) := by omega
      rw [show x.may lg s = 2 by unfold Wl.may; rw [if_neg (by rw [hd]; decide), if_pos h1]]
      clear hd h1
      go_enter Tryz.func73, Tryz.ntmps73
      go_wp2_with fail
      go_ret
      exact ⟨rfl, 0, rfl⟩
    · have q1 : ¬ (2000 : Int) < (s.size : Int) := by omega
      obtain ⟨z, hz⟩ : ∃ z, z = sizeF (s.size : Int) := ⟨_, rfl⟩
      obtain ⟨y, hy⟩ : ∃ y, y = (lg : Int) - (x.used : Int) := ⟨_, rfl⟩
      rw [← hz] at FS
      rw [← hy] at LF
      by_cases h2 : y < z
      · rw [show x.may lg s = 73 by unfold Wl.may; rw [if_neg (by rw [hd]; decide), if_neg h1, if_pos (.inl (by rw [← hy, ← hz]; exact h2))]]
        clear hd h1 hz hy
        go_enter Tryz.func73, Tryz.ntmps73
        go_wp2_with fail
        refine FS.out.mono ?_; rintro e w1 ⟨rfl, rfl⟩
        go_wp2_with fail
        refine LF.out.mono ?_; rintro e w1 ⟨rfl, k, rfl⟩
        go_wp2_with fail
        go_ret
        exact ⟨rfl, k, rfl⟩
      · by_cases h3 : 2147483648 < x.next
        · rw [show x.may lg s = 73 by unfold Wl.may; rw [if_neg (by rw [hd]; decide), if_neg h1, if_pos (.inr h3)]]
          clear hd h1 hz hy
          go_enter Tryz.func73, Tryz.ntmps73
          go_wp2_with fail
          refine FS.out.mono ?_; rintro e w1 ⟨rfl, rfl⟩
          go_wp2_with fail
          refine LF.out.mono ?_; rintro e w1 ⟨rfl, k, rfl⟩
          go_wp2_with fail
          go_ret
          exact ⟨rfl, k, rfl⟩
        · rw [show x.may lg s = 0 by unfold Wl.may; rw [if_neg (by rw [hd]; decide), if_neg h1, if_neg (by rw [← hy, ← hz]; rintro (h | h); exact h2 h; exact h3 h)]]
          clear hd h1 hz hy
          go_enter Tryz.func73, Tryz.ntmps73
          go_wp2_with fail
          refine FS.out.mono ?_; rintro e w1 ⟨rfl, rfl⟩
          go_wp2_with fail
          refine LF.out.mono ?_; rintro e w1 ⟨rfl, k, rfl⟩
          go_wp2_with fail
          go_ret
          exact ⟨rfl, k, rfl⟩
end
end Go.Proofs.YtdbiebnnogjccaaGreatDoor
