import Derived.Test.YtikgfkghfbfccaaDoorDq
/- Disks (layer 19): the law's wakes. -/
namespace Go.Proofs.YtikgfkghfbfccaaDoor
open Go.RowKit
theorem dirty01 (a b : ByteArray) : (((Dk.new 8).put 0 a).put 1 b).dirty = [0, 1] := by rfl
theorem wk_read0 (a b : ByteArray) (hb : a.size = 256) : (((((Dk.new 8).put 0 a).put 1 b).crash [(0, 1)]).start.read 0) = (a.extract 0 1 ++ nil256.extract 1 256, 0) := by
  rw [read_ok rfl ⟨by decide, by show (_ : Int) < 8; decide⟩]
  have _ := hb
  rfl
theorem wk_read1 (a b : ByteArray) : (((((Dk.new 8).put 0 a).put 1 b).crash [(0, 1)]).start.read 1) = (nil256, 0) := by
  rw [read_ok rfl ⟨by decide, by show (_ : Int) < 8; decide⟩]
  rfl
theorem wk_first : (blk 97).extract 0 1 ++ nil256.extract 1 256 = (⟨#[97]⟩ : ByteArray) ++ ofL (List.replicate 255 0) := by
  refine bytes_ext ?_
  rw [list_append, list_append, extract_list, extract_list, blk, nil256, ofL_list, ofL_list, ofL_list]
  decide +kernel
theorem wk_size (b : Int) : (⟨#[97]⟩ : ByteArray).size + (ofL (List.replicate 255 0)).size ≤ 256 + b.toNat * 0 := by rw [ofL_size, List.length_replicate]; show 1 + 255 ≤ _; omega
theorem self_eq (X : ByteArray) : (X.toList == X.toList) = true := by simp
set_option maxRecDepth 100000 in
set_option maxHeartbeats 4000000 in
theorem wakes19 (aD aA : Addr) (w : World) (hw : DkW w aD aA) : Calls Tryd.prog 17 #[] w fun e w' => e = .returned (.bool true) ∧ Below w.heap.size w w' := by
  have HW := Lib.hid hw
  clear hw
  have NW := Lib.hid (disk_New 8 (by omega) (by omega) w)
  obtain ⟨g, hg⟩ : ∃ g, g = w.heap.size + 2 := ⟨_, rfl⟩
  obtain ⟨cb, hcb⟩ : ∃ cb, cb = w.heap.size + 1 := ⟨_, rfl⟩
  obtain ⟨mb, hmb⟩ : ∃ mb, mb = w.heap.size := ⟨_, rfl⟩
  have lg : Hid (w.heap.size ≤ g) := by show _ ≤ _; omega
  have lm : Hid (w.heap.size ≤ mb) := by show _ ≤ _; omega
  have lc : Hid (w.heap.size ≤ cb) := by show _ ≤ _; omega
  rw [← hg, ← hcb] at NW
  have NW' : Hid (Calls Tryd.prog 16 #[.int .i64 8] w fun e w' => e = .returned (.tuple #[.pointer (some ⟨g, 0, none⟩), .int .i64 0]) ∧ DiskAt w' g mb cb 0 (.slice none 0 0) (Dk.new 8) ∧ Below w.heap.size w w') := by rw [hmb]; exact NW.out
  clear NW hg hcb hmb
  have BA := Lib.hid (fun W => law19_Block 97 (by omega) (by omega) W)
  have BB := Lib.hid (fun W => law19_Block 98 (by omega) (by omega) W)
  have Z1 := Lib.hid (fun W => keep_Zeros' 255 (by omega) W)
  have Z2 := Lib.hid (fun W => keep_Zeros' 256 (by omega) W)
  have d0o : Hid ((Dk.new 8).Ok) := Dk.Ok.new (by omega) (by omega)
  obtain ⟨d0, hd0⟩ : ∃ d, d = Dk.new 8 := ⟨_, rfl⟩
  obtain ⟨d1, hd1⟩ : ∃ d, d = d0.put 0 (blk 97) := ⟨_, rfl⟩
  obtain ⟨d2, hd2⟩ : ∃ d, d = d1.put 1 (blk 98) := ⟨_, rfl⟩
  obtain ⟨d3, hd3⟩ : ∃ d, d = d2.crash [(0, 1)] := ⟨_, rfl⟩
  obtain ⟨d4, hd4⟩ : ∃ d, d = d3.start := ⟨_, rfl⟩
  have e1 : Hid (d0.write 0 (blk 97) = (d1, 0)) := by show _ = _; rw [hd1]; exact write_ok (by rw [hd0]; rfl) (by rw [hd0]; rfl) (by rw [hd0]; exact ⟨by decide, by decide⟩) (blk_size _)
  have e2 : Hid (d1.write 1 (blk 98) = (d2, 0)) := by show _ = _; rw [hd2]; exact write_ok (by rw [hd1, hd0]; rfl) (by rw [hd1, hd0]; rfl) (by rw [hd1, hd0]; exact ⟨by decide, by decide⟩) (blk_size _)
  have e3 : Hid (d2.dirty = [0, 1]) := by show _ = _; rw [hd2, hd1, hd0]; exact dirty01 _ _
  have e4 : Hid (d3.dead = true) := by show _ = _; rw [hd3, hd2, hd1, hd0]; rfl
  have e5 : Hid (d4.read 0 = ((⟨#[97]⟩ : ByteArray) ++ ofL (List.replicate 255 0), 0)) := by show _ = _; rw [hd4, hd3, hd2, hd1, hd0, wk_read0 _ _ (blk_size _), wk_first]
  have e6 : Hid (d4.read 1 = (ofL (List.replicate 256 0), 0)) := by show _ = _; rw [hd4, hd3, hd2, hd1, hd0, wk_read1]; rfl
  have e7 : Hid (d4.n = 8) := by show _ = _; rw [hd4, hd3, hd2, hd1, hd0]; rfl
  have o0 : Hid d0.Ok := by show Dk.Ok _; rw [hd0]; exact d0o.out
  have o1 : Hid d1.Ok := by show Dk.Ok _; rw [hd1]; exact o0.out.put (by rw [hd0]; exact ⟨by decide, by decide⟩) (blk_size _)
  have o2 : Hid d2.Ok := by show Dk.Ok _; rw [hd2]; exact o1.out.put (by rw [hd1, hd0]; exact ⟨by decide, by decide⟩) (blk_size _)
  have o3 : Hid d3.Ok := by show Dk.Ok _; rw [hd3]; exact o2.out.crash _
  have o4 : Hid d4.Ok := by show Dk.Ok _; rw [hd4]; exact o3.out.start
  have E3 : Hid (d2.crash [(0, 1)] = d3) := hd3.symm
  have E4 : Hid (d3.start = d4) := hd4.symm
  rw [← hd0] at NW'
  clear d0o hd0 hd1 hd2 hd3 hd4
  have hz := wk_size 0
  have q1 : ¬ 9223372036854775807 < (⟨#[97]⟩ : ByteArray).size + (ofL (List.replicate 255 0)).size := by omega
  have q2 := self_eq ((⟨#[97]⟩ : ByteArray) ++ ofL (List.replicate 255 0))
  have q3 := self_eq (ofL (List.replicate 256 0))
  obtain ⟨Z255, hZ1⟩ : ∃ Z, Z = ofL (List.replicate 255 0) := ⟨_, rfl⟩
  obtain ⟨Z256, hZ2⟩ : ∃ Z, Z = ofL (List.replicate 256 0) := ⟨_, rfl⟩
  rw [← hZ1] at e5 q1 q2 Z1
  rw [← hZ2] at e6 q3 Z2
  clear hz hZ1 hZ2
  obtain ⟨BLA, hBA⟩ : ∃ b, b = blk 97 := ⟨_, rfl⟩
  obtain ⟨BLB, hBB⟩ : ∃ b, b = blk 98 := ⟨_, rfl⟩
  rw [← hBA] at BA e1
  rw [← hBB] at BB e2
  clear hBA hBB
  go_enter Tryd.func17, Tryd.ntmps17
  go_wp2_with fail
  refine NW'.out.mono ?_; rintro e w1 ⟨rfl, hd, hb1⟩
  have D1 : Hid (DiskAt w1 g mb cb 4096 (.slice none 0 0) d0) := ⟨hd.blk, hd.hm.mono (by omega), hd.hc.mono (by omega), hd.hk, hd.n0, hd.n1, hd.gm, hd.gc, hd.mc, hd.kn⟩
  have B1 := Lib.hid hb1
  clear hd hb1 NW'
  go_wp2_with fail
  refine (BA.out _).mono ?_; rintro e w2 ⟨rfl, hb⟩
  have D2 := Lib.hid (D1.out.below hb)
  have B2 := Lib.hid (bstep B1.out hb)
  clear hb
  go_wp2_with fail
  refine (disk_Write 0 (wf64_of (by omega) (by omega)) BLA g mb cb _ d0 aD aA _ (HW.out.below B2.out) D2.out o0.out).mono ?_; rintro e w3 ⟨rfl, hd, hf⟩
  rw [e1.out] at hd ⊢
  have D3 := Lib.hid hd
  have B3 := Lib.hid (frb B2.out hf lg.out lm.out lc.out)
  clear hd hf
  go_wp2_with fail
  refine (BB.out _).mono ?_; rintro e w4 ⟨rfl, hb⟩
  have D4 := Lib.hid (D3.out.below hb)
  have B4 := Lib.hid (bstep B3.out hb)
  clear hb
  go_wp2_with fail
  refine (disk_Write 1 (wf64_of (by omega) (by omega)) BLB g mb cb _ d1 aD aA _ (HW.out.below B4.out) D4.out o1.out).mono ?_; rintro e w5 ⟨rfl, hd, hf⟩
  rw [e2.out] at hd ⊢
  have D5 := Lib.hid hd
  have B5 := Lib.hid (frb B4.out hf lg.out lm.out lc.out)
  clear hd hf
  go_wp2_with fail
  refine (disk_Dirty g mb cb _ d2 _ D5.out o2.out.ok0).mono ?_; rintro e w6 ⟨v, rfl, hv, hb⟩
  rw [e3.out] at hv
  have D6 := Lib.hid (D5.out.below hb)
  have B6 := Lib.hid (bstep B5.out hb)
  have HV := Lib.hid hv
  clear hb hv
  obtain ⟨W, hW⟩ : ∃ W, W = w6.alloc (.cells #[.int .i64 0, .int .i64 1] 3) := ⟨_, rfl⟩
  have BW : Hid (Below w6.heap.size w6 W) := by show Below _ _ _; rw [hW]; exact below_alloc1 _ _
  have SW : Hid (SlIl W (.slice (some ⟨w6.heap.size, 0, none⟩) 2 2) [0, 1]) := by
    have hblk : W.heap[w6.heap.size]? = some (.cells #[.int .i64 0, .int .i64 1] 3 (0, 0)) := by rw [hW]; exact blk_new _ _
    refine .inr ⟨w6.heap.size, 0, 2, rfl, Nat.le_refl _, ⟨fun _ => blk_lt hblk, fun i hi => ?_⟩⟩
    have h0 : i = 0 ∨ i = 1 := by simp at hi; omega
    rcases h0 with rfl | rfl <;> (rw [blk_cell hblk]; simp)
  go_wp2_with fail
  rw [← hW]
  clear hW
  refine (keep_Ints v _ [0, 1] [0, 1] (by simp) W (HV.out.below BW.out) SW.out).mono ?_; rintro e w7 ⟨rfl, hb⟩
  have D7 := Lib.hid (D6.out.below (bstep BW.out hb))
  have B7 := Lib.hid (bstep B6.out (bstep BW.out hb))
  clear hb BW SW HV
  go_wp2_with fail
  obtain ⟨W8, hW⟩ : ∃ W, W = w7.alloc (.cells #[.int .i64 0, .int .i64 1] 56) := ⟨_, rfl⟩
  have BW : Hid (Below w7.heap.size w7 W8) := by show Below _ _ _; rw [hW]; exact below_alloc1 _ _
  have SW : Hid (SlKept W8 (.slice (some ⟨w7.heap.size, 0, none⟩) 1 1) [(0, 1)]) := by
    have hblk : W8.heap[w7.heap.size]? = some (.cells #[.int .i64 0, .int .i64 1] 56 (0, 0)) := by rw [hW]; exact blk_new _ _
    refine .inr ⟨w7.heap.size, 0, 1, rfl, Nat.le_refl _, ⟨fun _ => blk_lt hblk, fun i hi => ?_, fun i hi => ?_⟩⟩
    · obtain rfl : i = 0 := by simpa using hi
      rw [blk_cell hblk]; rfl
    · obtain rfl : i = 0 := by simpa using hi
      rw [blk_cell hblk]; rfl
  have D8 := Lib.hid (D7.out.below BW.out)
  have B8 := Lib.hid (bstep B7.out BW.out)
  have hgl := D7.out.lt
  have hml := D7.out.hm.lt
  have hcl := D7.out.hc.lt
  have NW : Hid (∀ b off n c, Value.slice (some ⟨w7.heap.size, 0, none⟩) 1 1 = .slice (some ⟨b, off, none⟩) n c → ¬ DkS g mb cb b) := fun b off n c e h => by
    injection e with e _ _
    injection e with e
    injection e with e _ _
    subst e
    rcases h with h | h | h <;> omega
  rw [← hW]
  clear hW hgl hml hcl BW
  refine (disk_Crash _ [(0, 1)] (by simp) g mb cb _ d2 W8 D8.out o2.out.ok0 SW.out NW.out).mono ?_; rintro e w9 ⟨rfl, hd, hf⟩
  rw [E3.out] at hd
  have D9 := Lib.hid hd
  have B9 := Lib.hid (frb B8.out hf lg.out lm.out lc.out)
  clear hd hf SW NW
  go_wp2_with fail
  refine (disk_Dead g mb cb 4096 _ d3 w9 D9.out).mono ?_; rintro e w10 ⟨rfl, rfl⟩
  rw [e4.out]
  go_wp2_with fail
  refine (disk_Start g mb cb 4096 _ d3 w9 D9.out).mono ?_; rintro e w10 ⟨rfl, hd, hf⟩
  rw [E4.out] at hd
  have D10 := Lib.hid hd
  have B10 := Lib.hid (frb B9.out (hf.mono (fun _ h => .inl h)) lg.out lm.out lc.out)
  clear hd hf
  go_wp2_with fail
  refine (disk_Read 0 (wf64_of (by omega) (by omega)) g mb cb 4096 _ d4 aD aA _ (HW.out.below B10.out) D10.out).mono ?_; rintro e w11 ⟨rfl, hb⟩
  rw [e5.out]
  have D11 := Lib.hid (D10.out.below hb)
  have B11 := Lib.hid (bstep B10.out hb)
  clear hb
  go_wp2_with fail
  refine (disk_Read 1 (wf64_of (by omega) (by omega)) g mb cb 4096 _ d4 aD aA _ (HW.out.below B11.out) D11.out).mono ?_; rintro e w12 ⟨rfl, hb⟩
  rw [e6.out]
  have D12 := Lib.hid (D11.out.below hb)
  have B12 := Lib.hid (bstep B11.out hb)
  clear hb
  go_wp2_with fail
  refine (Z1.out _).mono ?_; rintro e w13 ⟨rfl, hb⟩
  have D13 := Lib.hid (D12.out.below hb)
  have B13 := Lib.hid (bstep B12.out hb)
  clear hb
  go_wp2_with fail
  refine (Z2.out _).mono ?_; rintro e w14 ⟨rfl, hb⟩
  have D14 := Lib.hid (D13.out.below hb)
  have B14 := Lib.hid (bstep B13.out hb)
  clear hb
  go_wp2_with fail
  refine (disk_Size g mb cb 4096 _ d4 _ D14.out).mono ?_; rintro e w15 ⟨rfl, rfl⟩
  rw [e7.out]
  go_wp2_with fail
  go_ret
  exact ⟨rfl, B14.out⟩
end Go.Proofs.YtikgfkghfbfccaaDoor

/- Disks (layer 19): steps; fair; a disk that nobody made. -/
namespace Go.Proofs.YtikgfkghfbfccaaDoor
open Go.RowKit
/-- A step in plain words. -/
structure Stp where
  k : Int
  n : Int
  s : ByteArray
  l : List (Int × Int)
/-- Steps in memory, four cells each. -/
structure StpsAt (w : World) (b off : Nat) (L : List Stp) : Prop where
  lt : L ≠ [] → b < w.heap.size
  kind : ∀ i (h : i < L.length), w.cell? ⟨b, off + i * 4, none⟩ = some (.int .i64 L[i].k)
  num : ∀ i (h : i < L.length), w.cell? ⟨b, off + i * 4 + 1, none⟩ = some (.int .i64 L[i].n)
  str : ∀ i (h : i < L.length), w.cell? ⟨b, off + i * 4 + 2, none⟩ = some (.string L[i].s)
  kep : ∀ i (h : i < L.length), ∃ v, w.cell? ⟨b, off + i * 4 + 3, none⟩ = some v ∧ SlKept w v L[i].l
theorem StpsAt.below {w w' : World} {b off : Nat} {L : List Stp} (h : StpsAt w b off L) (hb : Below w.heap.size w w') : StpsAt w' b off L := by
  by_cases hl : L = []
  · subst hl
    exact ⟨fun h => absurd rfl h, fun i h => absurd h (by simp), fun i h => absurd h (by simp), fun i h => absurd h (by simp), fun i h => absurd h (by simp)⟩
  · have hlt := h.lt hl
    exact ⟨fun _ => Nat.lt_of_lt_of_le hlt hb.size, fun i hi => by rw [hb.cell (p := ⟨b, off + i * 4, none⟩) hlt]; exact h.kind i hi, fun i hi => by rw [hb.cell (p := ⟨b, off + i * 4 + 1, none⟩) hlt]; exact h.num i hi, fun i hi => by rw [hb.cell (p := ⟨b, off + i * 4 + 2, none⟩) hlt]; exact h.str i hi, fun i hi => by
      obtain ⟨v, h1, h2⟩ := h.kep i hi
      exact ⟨v, by rw [hb.cell (p := ⟨b, off + i * 4 + 3, none⟩) hlt]; exact h1, h2.below hb⟩⟩
def SlStps (w : World) (v : Value) (L : List Stp) : Prop := (v = .slice none 0 0 ∧ L = []) ∨ ∃ b off cap, v = .slice (some ⟨b, off, none⟩) L.length cap ∧ L.length ≤ cap ∧ StpsAt w b off L
theorem SlStps.below {w w' : World} {v : Value} {L : List Stp} (h : SlStps w v L) (hb : Below w.heap.size w w') : SlStps w' v L := by
  rcases h with h | ⟨b, off, cap, e, hc, h⟩
  · exact .inl h
  · exact .inr ⟨b, off, cap, e, hc, h.below hb⟩
theorem SlStps.form {w : World} {v : Value} {L : List Stp} (h : SlStps w v L) : ∃ p c, v = .slice p L.length c ∧ L.length ≤ c := by
  rcases h with ⟨h, e⟩ | ⟨b, off, cap, e, hc, h⟩
  · subst e; exact ⟨none, 0, h, Nat.le_refl _⟩
  · exact ⟨_, _, e, hc⟩
theorem SlStps.atN {w : World} {p : Option Addr} {n c k : Nat} {L : List Stp} (hn : n = L.length) (h : SlStps w (.slice p n c) L) (hk : k < L.length) : ∃ b off, p = some ⟨b, off, none⟩ ∧ StpsAt w b off L := by
  subst hn
  rcases h with ⟨_, h2⟩ | ⟨b, off, cap, e, _, h⟩
  · subst h2; exact absurd hk (by simp)
  · injection e with e1 e2 e3
    exact ⟨b, off, e1, h⟩
/-- Is a list of steps not too long? -/
def fairB (L : List Stp) : Bool := (L.all fun x => decide (x.s.size ≤ 1000) && decide (x.l.length ≤ 50)) && decide (L.length ≤ 150)
theorem fairB_true {L : List Stp} (h : fairB L = true) : L.length ≤ 150 ∧ ∀ i (h : i < L.length), L[i].s.size ≤ 1000 ∧ L[i].l.length ≤ 50 := by
  unfold fairB at h
  simp only [Bool.and_eq_true, List.all_eq_true, decide_eq_true_eq] at h
  exact ⟨h.2, fun i hi => h.1 _ (List.getElem_mem hi)⟩
theorem fairB_no {L : List Stp} {i : Nat} (hi : i < L.length) (h : 1000 < L[i].s.size ∨ 50 < L[i].l.length) : fairB L = false := by
  cases hf : fairB L with
  | false => rfl
  | true => have := (fairB_true hf).2 i hi; omega
theorem fairB_yes {L : List Stp} (h : ∀ i (h : i < L.length), ¬ (1000 < L[i].s.size ∨ 50 < L[i].l.length)) : fairB L = decide (L.length ≤ 150) := by
  unfold fairB
  have : (L.all fun x => decide (x.s.size ≤ 1000) && decide (x.l.length ≤ 50)) = true := by
    rw [List.all_eq_true]
    intro x hx
    obtain ⟨i, hi, rfl⟩ := List.getElem_of_mem hx
    have := h i hi
    simp only [Bool.and_eq_true, decide_eq_true_eq]; omega
  rw [this]; rfl
theorem SlKept.formC {w : World} {v : Value} {l : List (Int × Int)} (h : SlKept w v l) : ∃ p c, v = .slice p l.length c := h.form
set_option maxRecDepth 20000 in
set_option maxHeartbeats 2000000 in
theorem law19_fair (v : Value) (L : List Stp) (hL : L.length ≤ 9223372036854775807) (w : World) (hv : SlStps w v L) :
    Calls Tryd.prog 31 #[v] w fun e w' => e = .returned (.bool (fairB L)) ∧ w = w' := by
  obtain ⟨p, cp, rfl, hcp⟩ := hv.form
  have HV := Lib.hid hv
  obtain ⟨n, hn⟩ : ∃ n, n = L.length := ⟨_, rfl⟩
  have Hn := Lib.hid hn
  rw [← hn]
  rw [← hn] at HV hL
  clear hv hcp hn
  go_enter Tryd.func31, Tryd.ntmps31
  go_wp2_with fail
  go_loop [3] (fun c => ∃ i : Nat, i ≤ n ∧ c = .int .i64 i ∧ ∀ j (h : j < L.length), j < i → ¬ (1000 < L[j].s.size ∨ 50 < L[j].l.length)) (fun c => n - (intOf c).toNat)
  case atStart => exact ⟨0, Nat.zero_le _, rfl, fun j _ h => absurd h (by omega)⟩
  case round =>
    obtain ⟨i, hi, rfl, hP⟩ := hrel
    have HP := Lib.hid hP
    clear hP
    by_cases hlt : i < n
    · have hi1 : (i : Int) < (n : Int) := by omega
      have hi0 : (0 : Int) ≤ (i : Int) := by omega
      have h1 : i < L.length := by rw [← Hn.out]; exact hlt
      obtain ⟨b, off, rfl, hS⟩ := SlStps.atN Hn.out HV.out h1
      have c1 := hS.str i h1
      obtain ⟨kv, c2, hk⟩ := hS.kep i h1
      obtain ⟨q, cq, rfl⟩ := hk.form
      by_cases hs : 1000 < L[i].s.size
      · have HE := Lib.hid (fairB_no h1 (.inl hs))
        have hs1 : (1000 : Int) < (L[i].s.size : Int) := by omega
        obtain ⟨x, hx⟩ : ∃ x, x = L[i].s := ⟨_, rfl⟩
        rw [← hx] at c1 hs1
        clear hS hk hx hs c2
        go_wp2_with fail
        go_ret
        exact ⟨by rw [HE.out]; rfl, rfl⟩
      · have hs1 : ¬ (1000 : Int) < (L[i].s.size : Int) := by omega
        by_cases hl : 50 < L[i].l.length
        · have HE := Lib.hid (fairB_no h1 (.inr hl))
          have hl1 : (50 : Int) < (L[i].l.length : Int) := by omega
          obtain ⟨x, hx⟩ : ∃ x, x = L[i].s := ⟨_, rfl⟩
          obtain ⟨y, hy⟩ : ∃ y, y = L[i].l.length := ⟨_, rfl⟩
          rw [← hx] at c1 hs1
          rw [← hy] at c2 hl1
          clear hS hk hx hy hs hl
          go_wp2_with fail
          go_ret
          exact ⟨by rw [HE.out]; rfl, rfl⟩
        · have hl1 : ¬ (50 : Int) < (L[i].l.length : Int) := by omega
          have HN : Hid (¬ (1000 < L[i].s.size ∨ 50 < L[i].l.length)) := by show ¬ _; omega
          obtain ⟨x, hx⟩ : ∃ x, x = L[i].s := ⟨_, rfl⟩
          obtain ⟨y, hy⟩ : ∃ y, y = L[i].l.length := ⟨_, rfl⟩
          rw [← hx] at c1 hs1
          rw [← hy] at c2 hl1
          clear hS hk hx hy hs hl
          go_wp2_with fail
          go_round
          case rel =>
            refine ⟨i + 1, by omega, by go_num, fun j h hj => ?_⟩
            by_cases hji : j < i
            · exact HP.out j h hji
            · obtain rfl : j = i := by omega
              exact HN.out
          case measure => simp [intOf]; omega
    · have hi1 : ¬ (i : Int) < (n : Int) := by omega
      have HE : Hid (fairB L = decide ((n : Int) ≤ 150)) := by
        show _ = _
        rw [fairB_yes (fun j h => HP.out j h (by have := Hn.out; omega)), ← Hn.out, decide_eq_decide]
        omega
      go_wp2_with fail
      go_ret
      exact ⟨by rw [HE.out]; rfl, rfl⟩
end Go.Proofs.YtikgfkghfbfccaaDoor
