import Derived.Test.YtikgfkghfbfccaaDoorDzb
/- Disks (layer 19): Of; the law DiskOf. -/
namespace Go.Proofs.YtikgfkghfbfccaaDoor
open Go.RowKit
def Dk.ofTo (s : ByteArray) (i : Nat) : Dk := { Dk.ofS s with m := fun j => if 0 ≤ j ∧ j < (i : Int) then some (secS s j.toNat) else none }
theorem ofTo_set (s : ByteArray) (i : Nat) : setF (Dk.ofTo s i).m (i : Int) (secS s i) = (Dk.ofTo s (i + 1)).m := by
  funext j
  unfold setF Dk.ofTo
  dsimp only
  by_cases e : j = (i : Int)
  · subst e; rw [if_pos rfl, if_pos (by omega), Int.toNat_natCast]
  · rw [if_neg e]
    by_cases h : 0 ≤ j ∧ j < (i : Int)
    · rw [if_pos h, if_pos (by omega)]
    · rw [if_neg h, if_neg (by omega)]
theorem ofTo_range {s : ByteArray} {i : Nat} {n : Int} (h : (i : Int) ≤ n) : ∀ j, ((Dk.ofTo s i).m j).isSome = true → 0 ≤ j ∧ j < n := fun j hj => by
  unfold Dk.ofTo at hj
  dsimp only at hj
  by_cases h : 0 ≤ j ∧ j < (i : Int)
  · omega
  · rw [if_neg h] at hj; cases hj
set_option maxHeartbeats 1000000 in
theorem ref_Of_bad (s : ByteArray) (hs : s.size ≤ 140737488351232) (h : s.size % 256 ≠ 0 ∨ s.size < 256 ∨ 1048576 < s.size) (w : World) :
    Calls Tryd.prog 26 #[.string s] w fun e w' => e = .returned (.tuple #[.pointer none, .int .i64 1]) ∧ w = w' := by
  by_cases h0 : s.size % 256 = 0
  · have q1 : ((s.size : Int) % 256 != 0) = false := by rw [show (s.size : Int) % 256 = 0 by omega]; rfl
    by_cases h1 : s.size < 256
    · have q2 : (s.size : Int) < 256 := by omega
      clear h h0 h1
      go_enter Tryd.func26, Tryd.ntmps26
      go_wp2_with fail
      go_ret2
      exact ⟨rfl, rfl⟩
    · have q2 : ¬ (s.size : Int) < 256 := by omega
      have q3 : (1048576 : Int) < (s.size : Int) := by omega
      clear h h0 h1
      go_enter Tryd.func26, Tryd.ntmps26
      go_wp2_with fail
      go_ret2
      exact ⟨rfl, rfl⟩
  · have q1 : ((s.size : Int) % 256 != 0) = true := by rw [bne_iff_ne]; omega
    clear h h0
    go_enter Tryd.func26, Tryd.ntmps26
    go_wp2_with fail
    go_ret2
    exact ⟨rfl, rfl⟩
set_option maxHeartbeats 1000000 in
theorem disk_Of_bad (s : ByteArray) (hs : s.size ≤ 140737488351232) (h : s.size % 256 ≠ 0 ∨ s.size < 256 ∨ 1048576 < s.size) (w : World) :
    Calls Tryd.prog 25 #[.string s] w fun e w' => e = .returned (.tuple #[.pointer none, .int .i64 1]) ∧ w = w' := by
  by_cases h0 : s.size % 256 = 0
  · have q1 : ((s.size : Int) % 256 != 0) = false := by rw [show (s.size : Int) % 256 = 0 by omega]; rfl
    have NB := Lib.hid (fun W => disk_New_bad ((s.size : Int) / 256) (by omega) W)
    clear h h0
    go_enter Tryd.func25, Tryd.ntmps25
    go_wp2_with fail
    refine (NB.out _).mono ?_; rintro e w1 ⟨rfl, rfl⟩
    go_wp2_with fail
    go_ret2
    exact ⟨rfl, rfl⟩
  · have q1 : ((s.size : Int) % 256 != 0) = true := by rw [bne_iff_ne]; omega
    clear h h0
    go_enter Tryd.func25, Tryd.ntmps25
    go_wp2_with fail
    go_ret2
    exact ⟨rfl, rfl⟩
set_option maxRecDepth 20000 in
set_option maxHeartbeats 2000000 in
theorem disk_Of' (s : ByteArray) (h0 : 256 ≤ s.size) (h1 : s.size ≤ 1048576) (hm : s.size % 256 = 0) (w : World) (g mb cb : Nat) (hg : g = w.heap.size + 2) (hcb : cb = w.heap.size + 1) (hmb : mb = w.heap.size) :
    Calls Tryd.prog 25 #[.string s] w fun e w' => e = .returned (.tuple #[.pointer (some ⟨g, 0, none⟩), .int .i64 0]) ∧ DiskAt w' g mb cb 4096 (.slice none 0 0) (Dk.ofS s) ∧ Below w.heap.size w w' := by
  have q1 : ((s.size : Int) % 256 != 0) = false := by rw [show (s.size : Int) % 256 = 0 by omega]; rfl
  obtain ⟨n, hn⟩ : ∃ n, n = s.size / 256 := ⟨_, rfl⟩
  have NW := Lib.hid (disk_New ((s.size : Int) / 256) (by omega) (by omega) w)
  have en : (s.size : Int) / 256 = (n : Int) := by omega
  rw [en] at NW
  have hn4 : n ≤ 4096 := by omega
  have hsn : Hid (s.size = n * 256) := by show _ = _; omega
  have HN := Lib.hid hn
  rw [← hg, ← hcb] at NW
  have lm : Hid (w.heap.size ≤ mb) := by show _ ≤ _; omega
  have NW' : Hid (Calls Tryd.prog 16 #[.int .i64 (n : Int)] w fun e w' => e = .returned (.tuple #[.pointer (some ⟨g, 0, none⟩), .int .i64 0]) ∧ DiskAt w' g mb cb 0 (.slice none 0 0) (Dk.new (n : Int)) ∧ Below w.heap.size w w') := by rw [hmb]; exact NW.out
  clear NW hg hcb hmb hn h0 h1 hm
  go_enter Tryd.func25, Tryd.ntmps25
  go_wp2_with fail
  refine NW'.out.mono ?_; rintro e w1 ⟨rfl, hd, hb1⟩
  have D1 : Hid (DiskAt w1 g mb cb 4096 (.slice none 0 0) (Dk.ofTo s 0)) := ⟨by have := hd.blk; unfold dkCells at this ⊢; rw [this]; show some (Obj.cells #[.int .i64 (n : Int), _, _, _, _, _, _] _ _) = some (Obj.cells #[.int .i64 ((s.size / 256 : Nat) : Int), _, _, _, _, _, _] _ _); rw [← HN.out]; rfl, by
    have e : (Dk.ofTo s 0).m = fun _ => none := by funext j; unfold Dk.ofTo; dsimp only; rw [if_neg (by omega)]
    rw [e]; exact hd.hm.mono (by omega), hd.hc.mono (by omega), hd.hk, by show (1 : Int) ≤ ((s.size / 256 : Nat) : Int); rw [← HN.out]; exact hd.n0, by show ((s.size / 256 : Nat) : Int) ≤ 4096; rw [← HN.out]; exact hd.n1, hd.gm, hd.gc, hd.mc, hd.kn⟩
  have B1 := Lib.hid hb1
  clear hd hb1 NW'
  have hcells : Hid (∀ (W : World) (i : Nat), DiskAt W g mb cb 4096 (.slice none 0 0) (Dk.ofTo s i) → ∀ o, W.cell? ⟨g, o, none⟩ = (#[.int .i64 (n : Int), .map (some mb), .map (some cb), .bool false, .int .i64 0, .slice none 0 0, .bool false] : Array Value)[o]?) := fun W i h o => by
    have := blk_cell h.blk o
    unfold dkCells at this
    rw [this, show (Dk.ofTo s i).n = (n : Int) by show ((s.size / 256 : Nat) : Int) = _; rw [← HN.out]]
    rfl
  have hc1 := hcells.out w1 0 D1.out
  go_wp2_with fail
  clear hc1
  go_loopw [25] (fun c wr => ∃ i : Nat, i ≤ n ∧ c = .int .i64 i ∧ DiskAt wr g mb cb 4096 (.slice none 0 0) (Dk.ofTo s i) ∧ Below w.heap.size w wr) (fun c _ => n - (intOf c).toNat)
  case atStart => exact ⟨0, Nat.zero_le _, rfl, D1.out, B1.out⟩
  case round =>
    obtain ⟨i, hin, rfl, hD, hB⟩ := hrel
    have HD := Lib.hid hD; have HB := Lib.hid hB
    clear hD hB
    by_cases hlt : i < n
    · have hi : (i : Int) < (n : Int) := by omega
      have hi0 : (0 : Int) ≤ (i : Int) := by omega
      go_upto_region 9 with (fail)
      have e1 : IntKind.i64.wrap ((i : Int) * 256) = (i : Int) * 256 := IntWalk.i64_in _ (by omega)
      have e2 : IntKind.i64.wrap ((i : Int) + 1) = (i : Int) + 1 := IntWalk.i64_in _ (by omega)
      have e3 : IntKind.i64.wrap (((i : Int) + 1) * 256) = ((i : Int) + 1) * 256 := IntWalk.i64_in _ (by omega)
      have hsl : ∀ wx, (Instr.slice 9 (.string s) (some (.int .i64 ((i : Int) * 256))) (some (.int .i64 (((i : Int) + 1) * 256))) none).run Tryd.prog wx = .ok (.string (secS s i)) wx := fun wx => by
        rw [run_slice_string (P := Tryd.prog) wx 9 s .i64 .i64 ((i : Int) * 256) (((i : Int) + 1) * 256) Tryd.underlying9 (by omega) (by omega) (by have := hsn.out; omega), show ((i : Int) * 256).toNat = i * 256 by omega, show (((i : Int) + 1) * 256).toNat = (i + 1) * 256 by omega]
        rfl
      have D0 : Hid (Below wr.heap.size wr wr.drew) := ⟨rfl, rfl, rfl, Nat.le_refl _, fun _ _ => rfl⟩
      obtain ⟨w9, hup, hM9, hG9⟩ := run_put_sec (HD.out.below D0.out).hm (by unfold maxLen; omega) (i : Int) (wf64_of (by omega) (by omega)) (secS s i)
      rw [ofTo_set] at hM9
      have D9 : Hid (DiskAt w9 g mb cb 4096 (.slice none 0 0) (Dk.ofTo s (i + 1))) := (HD.out.below D0.out).moved (m' := (Dk.ofTo s (i + 1)).m) (c' := (Dk.ofTo s i).c) ((Fr.refl _ _).grown hG9 (fun k e => by injection e with e; exact .inl (.inl e.symm))) (hM9.t4096 (N := (n : Int)) (by omega) (ofTo_range (by omega))) ((HD.out.below D0.out).hc.kept hG9 (fun e => HD.out.mc (by injection e with e; exact e.symm)))
      have B9 : Hid (Below w.heap.size w w9) := ⟨hG9.os.trans HB.out.os, hG9.tape.trans HB.out.tape, hG9.output.trans HB.out.output, Nat.le_trans HB.out.size hG9.size, fun k hk => (hG9.block k (Nat.lt_of_lt_of_le hk HB.out.size) (fun e => by injection e with e; have := lm.out; omega)).trans (HB.out.block k hk)⟩
      have S0 := hcells.out wr.drew i (HD.out.below D0.out)
      have S9 := hcells.out w9 (i + 1) D9.out
      clear hM9 hG9
      go_region_held3 (fun w' => ∀ o, w'.cell? ⟨g, o, none⟩ = (#[.int .i64 (n : Int), .map (some mb), .map (some cb), .bool false, .int .i64 0, .slice none 0 0, .bool false] : Array Value)[o]?) (first | exact S0 | exact S9 | assumption) (fail)
      go_wp2_with fail
      go_roundw
      case rel => exact ⟨i + 1, by omega, by go_num, D9.out, B9.out⟩
      case measure => simp [intOf]; omega
    · have hi : ¬ (i : Int) < (n : Int) := by omega
      obtain rfl : i = n := by omega
      go_wp2_with fail
      go_ret2
      refine ⟨rfl, ?_, HB.out⟩
      have e : Dk.ofS s = Dk.ofTo s i := by unfold Dk.ofTo Dk.ofS; rw [HN.out]
      rw [e]; exact HD.out
theorem disk_Of (s : ByteArray) (h0 : 256 ≤ s.size) (h1 : s.size ≤ 1048576) (hm : s.size % 256 = 0) (w : World) :
    Calls Tryd.prog 25 #[.string s] w fun e w' => e = .returned (.tuple #[.pointer (some ⟨w.heap.size + 2, 0, none⟩), .int .i64 0]) ∧ DiskAt w' (w.heap.size + 2) w.heap.size (w.heap.size + 1) 4096 (.slice none 0 0) (Dk.ofS s) ∧ Below w.heap.size w w' := disk_Of' s h0 h1 hm w _ _ _ rfl rfl rfl
end Go.Proofs.YtikgfkghfbfccaaDoor

/- Disks (layer 19): the law DiskOf. -/
namespace Go.Proofs.YtikgfkghfbfccaaDoor
open Go.RowKit
theorem ofS_firstB {s : ByteArray} : ∀ k, k ≤ s.size / 256 → (Dk.ofS s).firstB k = s.data.toList.take (k * 256)
  | 0, _ => by simp [Dk.firstB]
  | k + 1, h => by
    have e1 : (k + 1) * 256 - k * 256 = 256 := by omega
    have e2 : (k + 1) * 256 = k * 256 + 256 := by omega
    rw [Dk.firstB_succ, ofS_firstB k (by omega), ofS_at (by omega), secS, extract_list, e1, e2, List.take_add]
theorem ofS_bytes {s : ByteArray} (h : s.size % 256 = 0) : ofL (Dk.ofS s).bytes = s := by
  refine bytes_ext ?_
  rw [ofL_list]
  unfold Dk.bytes
  rw [show (Dk.ofS s).n.toNat = s.size / 256 by show (((s.size / 256 : Nat) : Int)).toNat = _; rw [Int.toNat_natCast], ofS_firstB _ (Nat.le_refl _)]
  exact List.take_of_length_le (by rw [size_list]; omega)
theorem ofS_dirty (s : ByteArray) : (Dk.ofS s).dirty = [] := by
  unfold Dk.dirty Dk.ofS
  rw [List.filter_eq_nil_iff]
  intro a _ h
  cases h
set_option maxRecDepth 100000 in
set_option maxHeartbeats 4000000 in
theorem law19_DiskOf (s : ByteArray) (hs : s.size ≤ 140737488351232) (aD aA : Addr) (w : World) (hw : DkW w aD aA) :
    Calls Tryd.prog 5 #[.string s] w fun e w' => e = .returned (.bool true) ∧ Below w.heap.size w w' := by
  have HW := Lib.hid hw
  have WK := Lib.hid (fun W h => wakes19 aD aA W h)
  clear hw
  by_cases h0 : 30000 < s.size
  · have q0 : (30000 : Int) < (s.size : Int) := by omega
    clear h0
    go_enter Tryd.func5, Tryd.ntmps5
    go_wp2_with fail
    refine (WK.out _ HW.out).mono ?_; rintro e y ⟨rfl, hby⟩
    have By := Lib.hid hby
    clear hby
    go_wp2_with fail
    go_ret
    exact ⟨rfl, By.out⟩
  have q0 : ¬ (30000 : Int) < (s.size : Int) := by omega
  by_cases hb : s.size % 256 ≠ 0 ∨ s.size < 256 ∨ 1048576 < s.size
  · have DB := Lib.hid (fun W => disk_Of_bad s hs hb W)
    have RB := Lib.hid (fun W => ref_Of_bad s hs hb W)
    clear h0 hb
    go_enter Tryd.func5, Tryd.ntmps5
    go_wp2_with fail
    refine (DB.out _).mono ?_; rintro e w1 ⟨rfl, rfl⟩
    go_wp2_with fail
    refine (RB.out _).mono ?_; rintro e w1 ⟨rfl, rfl⟩
    go_wp2_with fail
    refine (WK.out _ HW.out).mono ?_; rintro e y ⟨rfl, hby⟩
    have By := Lib.hid hby
    clear hby
    go_wp2_with fail
    go_ret
    exact ⟨rfl, By.out⟩
  have hm : s.size % 256 = 0 := by omega
  have h1 : 256 ≤ s.size := by omega
  have h2 : s.size ≤ 1048576 := by omega
  obtain ⟨g, hg⟩ : ∃ g, g = w.heap.size + 2 := ⟨_, rfl⟩
  obtain ⟨cb, hcb⟩ : ∃ cb, cb = w.heap.size + 1 := ⟨_, rfl⟩
  obtain ⟨mb, hmb⟩ : ∃ mb, mb = w.heap.size := ⟨_, rfl⟩
  have DO := Lib.hid (disk_Of' s h1 h2 hm w g mb cb hg hcb hmb)
  have RO := Lib.hid (fun W => ref_Of s h1 h2 hm W)
  have OK := Lib.hid (ofS_ok h1 h2 hm)
  have RE : Hid ((Dk.ofS s).read 0 = (s.extract 0 256, 0)) := by
    show _ = _
    rw [read_ok rfl ⟨by omega, by show (0 : Int) < ((s.size / 256 : Nat) : Int); omega⟩]
    have : (Dk.ofS s).tell 0 = (Dk.ofS s).at ((0 : Nat) : Int) := rfl
    rw [this, ofS_at (by omega)]
    unfold secS
    rfl
  have BE := Lib.hid (ofS_bytes hm)
  have NE : Hid ((Dk.ofS s).n = (s.size : Int) / 256) := by show ((s.size / 256 : Nat) : Int) = _; omega
  have DE := Lib.hid (ofS_dirty s)
  have sl1 : ∀ wx, (Instr.slice 9 (.string s) none (some (.int .i64 256)) none).run Tryd.prog wx = .ok (.string (s.extract 0 256)) wx := fun wx => by
    rw [run_slice_string_h (P := Tryd.prog) wx 9 s Tryd.underlying9 .i64 256 (by omega) (by omega)]; rfl
  obtain ⟨X, hX⟩ : ∃ X, X = s.extract 0 256 := ⟨_, rfl⟩
  rw [← hX] at RE sl1
  obtain ⟨d, hd⟩ : ∃ d, d = Dk.ofS s := ⟨_, rfl⟩
  rw [← hd] at DO OK RE BE NE DE
  have sx := self_eq X
  have ss := self_eq s
  have qz : ((s.size : Int) / 256 == (s.size : Int) / 256) = true := by rw [beq_iff_eq]
  clear hX hd hg hcb hmb hm h1 h2 hb h0
  go_enter Tryd.func5, Tryd.ntmps5
  go_wp2_with fail
  refine DO.out.mono ?_; rintro e w1 ⟨rfl, hd, hb⟩
  have D1 := Lib.hid hd
  have B1 := Lib.hid hb
  clear hd hb
  go_wp2_with fail
  refine (RO.out _).mono ?_; rintro e w2 ⟨rfl, _, hb⟩
  have D2 := Lib.hid (D1.out.below hb)
  have B2 := Lib.hid (bstep B1.out hb)
  clear hb
  go_wp2_with fail
  refine (disk_Read 0 (wf64_of (by omega) (by omega)) g mb cb 4096 _ d aD aA _ (HW.out.below B2.out) D2.out).mono ?_; rintro e w3 ⟨rfl, hb⟩
  rw [RE.out]
  have D3 := Lib.hid (D2.out.below hb)
  have B3 := Lib.hid (bstep B2.out hb)
  clear hb
  go_wp2_with fail
  refine (disk_Bytes g mb cb _ d _ D3.out OK.out.ok0).mono ?_; rintro e w4 ⟨rfl, hb⟩
  rw [BE.out]
  have D4 := Lib.hid (D3.out.below hb)
  have B4 := Lib.hid (bstep B3.out hb)
  clear hb
  go_wp2_with fail
  refine (disk_Dirty g mb cb _ d _ D4.out OK.out.ok0).mono ?_; rintro e w5 ⟨v', rfl, hv', hb5⟩
  rw [DE.out] at hv'
  obtain ⟨p', c', rfl, _⟩ := hv'.form
  have D5 := Lib.hid (D4.out.below hb5)
  have B5 := Lib.hid (bstep B4.out hb5)
  clear hv' hb5
  go_wp2_with fail
  refine (disk_Size g mb cb 4096 _ d _ D5.out).mono ?_; rintro e w6 ⟨rfl, rfl⟩
  rw [NE.out]
  go_wp2_with fail
  refine (WK.out _ (HW.out.below B5.out)).mono ?_; rintro e y ⟨rfl, hby⟩
  have By := Lib.hid (bstep B5.out hby)
  clear hby
  go_wp2_with fail
  go_ret
  exact ⟨rfl, By.out⟩
end Go.Proofs.YtikgfkghfbfccaaDoor
