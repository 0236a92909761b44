/- Disks (layer 19): Of; the law DiskOf. -/
import Derived.Test.YtikgfkghfbfccaaDoorDzb
namespace Go.Proofs.YtikgfkghfbfccaaDoor
open Go.RowKit
def Dk.ofTo (s : ByteArray) (i : Nat) : Dk := { Dk.ofS s with m := fun j => if 0 ≤ j ∧ j < (i : Int) then some (secS s j.toNat) else none }
theorem ofTo_set (s : ByteArray) (i : Nat) : setF (Dk.ofTo s i).m (i : Int) (secS s i) = (Dk.ofTo s (i + 1)).m := by
  funext j
  unfold setF Dk.ofTo
  dsimp only
  by_cases e : j = (i : Int)
  · subst e; rw [if_pos rfl, if_pos (by omega), Int.toNat_natCast]
  · rw [if_neg e]
    by_cases h : 0 ≤ j ∧ j < (i : Int)
    · rw [if_pos h, if_pos (by omega)]
    · rw [if_neg h, if_neg (by omega)]
theorem ofTo_range {s : ByteArray} {i : Nat} {n : Int} (h : (i : Int) ≤ n) : ∀ j, ((Dk.ofTo s i).m j).isSome = true → 0 ≤ j ∧ j < n := fun j hj => by
  unfold Dk.ofTo at hj
  dsimp only at hj
  by_cases h : 0 ≤ j ∧ j < (i : Int)
  · omega
  · rw [if_neg h] at hj; cases hj
set_option maxHeartbeats 1000000 in
theorem ref_Of_bad (s : ByteArray) (hs : s.size ≤ 140737488351232) (h : s.size % 256 ≠ 0 ∨ s.size < 256 ∨ 1048576 < s.size) (w : World) :
    Calls Tryd.prog 26 #[.string s] w fun e w' => e = .returned (.tuple #[.pointer none, .int .i64 1]) ∧ w = w' := by
  by_cases h0 : s.size % 256 = 0
  · have q1 : ((s.size : Int) % 256 != 0) = false := by rw [show (s.size : Int) % 256 = 0 by omega]; rfl
    by_cases h1 : s.size < 256
    · have q2 : (s.size : Int) < 256 := by omega
      clear h h0 h1
      go_enter Tryd.func26, Tryd.ntmps26
      go_wp2_with fail
      go_ret2
      exact ⟨rfl, rfl⟩
    · have q2 : ¬ (s.size : Int) < 256 := by omega
      have q3 : (1048576 : Int) < (s.size : Int) := by omega
      clear h h0 h1
      go_enter Tryd.func26, Tryd.ntmps26
      go_wp2_with fail
      go_ret2
      exact ⟨rfl, rfl⟩
  · have q1 : ((s.size : Int) % 256 != 0) = true := by rw [bne_iff_ne]; omega
    clear h h0
    go_enter Tryd.func26, Tryd.ntmps26
    go_wp2_with fail
    go_ret2
    exact ⟨rfl, rfl⟩
set_option maxHeartbeats 1000000 in
theorem disk_Of_bad (s : ByteArray) (hs : s.size ≤ 140737488351232) (h : s.size % 256 ≠ 0 ∨ s.size < 256 ∨ 1048576 < s.size) (w : World) :
    Calls Tryd.prog 25 #[.string s] w fun e w' => e = .returned (.tuple #[.pointer none, .int .i64 1]) ∧ w = w' := by
  by_cases h0 : s.size % 256 = 0
  · have q1 : ((s.size : Int) % 256 != 0) = false := by rw [show (s.size : Int) % 256 = 0 by omega]; rfl
    have NB := Lib.hid (fun W => disk_New_bad ((s.size : Int) / 256) (by omega) W)
    clear h h0
    go_enter Tryd.func25, Tryd.ntmps25
    go_wp2_with fail
    refine (NB.out _).mono ?_; rintro e w1 ⟨rfl, rfl⟩
    go_wp2_with fail
    go_ret2
    exact ⟨rfl, rfl⟩
  · have q1 : ((s.size : Int) % 256 != 0) = true := by rw [bne_iff_ne]; omega
    clear h h0
    go_enter Tryd.func25, Tryd.ntmps25
    go_wp2_with fail
    go_ret2
    exact ⟨rfl, rfl⟩
set_option maxRecDepth 20000 in
set_option maxHeartbeats 2000000 in
theorem disk_Of' (s : ByteArray) (h0 : 256 ≤ s.size) (h1 : s.size ≤ 1048576) (hm : s.size % 256 = 0) (w : World) (g mb cb : Nat) (hg : g = w.heap.size + 2) (hcb : cb = w.heap.size + 1) (hmb : mb = w.heap.size) :
    Calls Tryd.prog 25 #[.string s] w fun e w' => e = .returned (.tuple #[.pointer (some ⟨g, 0, none⟩), .int .i64 0]) ∧ DiskAt w' g mb cb 4096 (.slice none 0 0) (Dk.ofS s) ∧ Below w.heap.size w w' := by
  have q1 : ((s.size : Int) % 256 != 0) = false := by rw [show (s.size : Int) % 256 = 0 by omega]; rfl
  obtain ⟨n, hn⟩ : ∃ n, n = s.size / 256 := ⟨_, rfl⟩
  have NW := Lib.hid (disk_New ((s.size : Int) / 256) (by omega) (by omega) w)
  have en : (s.size : Int) / 256 = (n : Int) := by omega
  rw [en] at NW
  have hn4 : n ≤ 4096 := by omega
  have hsn : Hid (s.size = n * 256) := by show _ = _; omega
  have HN := Lib.hid hn
  rw [← hg, ← hcb] at NW
  have lm : Hid (w.heap.size ≤ mb) := by show _ ≤ _; omega
  have NW' : Hid (Calls Tryd.prog 16 #[.int .i64 (n : Int)] w fun e w' => e = .returned (.tuple #[.pointer (some ⟨g, 0, none⟩), .int .i64 0]) ∧ DiskAt w' g mb cb 0 (.slice none 0 0) (Dk.new (n : Int)) ∧ Below w.heap.size w w') := by rw [hmb]; exact NW.out
  clear NW hg hcb hmb hn h0 h1 hm
  go_enter Tryd.func25, Tryd.ntmps25
  go_wp2_with fail
  refine NW'.out.mono ?_; rintro e w1 ⟨rfl, hd, hb1⟩
  have D1 : Hid (DiskAt w1 g mb cb 4096 (.slice none 0 0) (Dk.ofTo s 0)) := ⟨by have := hd.blk; unfold dkCells at this ⊢; rw [this]; show some (Obj.cells #[.int .i64 (n : Int), _, _, _, _, _, _] _ _) = some (Obj.cells #[.int .i64 ((s.size / 256 : Nat) : Int), _, _, _, _, _, _] _ _); rw [← HN.out]; rfl, by
    have e : (Dk.ofTo s 0).m = fun _ => none := by funext j; unfold Dk.ofTo; dsimp only; rw [if_neg (by omega)]
    rw [e]; exact hd.hm.mono (by omega), hd.hc.mono (by omega), hd.hk, by show (1 : Int) ≤ ((s.size / 256 : Nat) : Int); rw [← HN.out]; exact hd.n0, by show ((s.size / 256 : Nat) : Int) ≤ 4096; rw [← HN.out]; exact hd.n1, hd.gm, hd.gc, hd.mc, hd.kn⟩
  have B1 := Lib.hid hb1
  clear hd hb1 NW'
  have hcells : Hid (∀ (W : World) (i : Nat), DiskAt W g mb cb 4096 (.slice none 0 0) (Dk.ofTo s i) → ∀ o, W.cell? ⟨g, o, none⟩ = (#[.int .i64 (n : Int), .map (some mb), .map (some cb), .bool false, .int .i64 0, .slice none 0 0, .bool false] : Array Value)[o]?) := fun W i h o => by
    have := blk_cell h.blk o
    unfold dkCells at this
    rw [this, show (Dk.ofTo s i).n = (n : Int) by show ((s.size / 256 : Nat) : Int) = _; rw [← HN.out]]
    rfl
  have hc1 := hcells.out w1 0 D1.out
  go_wp2_with fail
  clear hc1
  go_loopw [25] (fun c wr => ∃ i : Nat, i ≤ n ∧ c = .int .i64 i ∧ DiskAt wr g mb cb 4096 (.slice none 0 0) (Dk.ofTo s i) ∧ Below w.heap.size w wr) (fun c _ => n - (intOf c).toNat)
  case atStart => exact ⟨0, Nat.zero_le _, rfl, D1.out, B1.out⟩
  case round =>
    obtain ⟨i, hin, rfl, hD, hB⟩ := hrel
    have HD := Lib.hid hD; have HB := Lib.hid hB
    clear hD hB
    by_cases hlt : i < n
    · have hi : (i : Int) < (n : Int) := by omega
      have hi0 : (0 : Int) ≤ (i : Int) := by omega
      go_upto_region 9 with (fail)
      have e1 : IntKind.i64.wrap ((i : Int) * 256) = (i : Int) * 256 := IntWalk.i64_in _ (by omega)
      have e2 : IntKind.i64.wrap ((i : Int) + 1) = (i : Int) + 1 := IntWalk.i64_in _ (by omega)
      have e3 : IntKind.i64.wrap (((i : Int) + 1) * 256) = ((i : Int) + 1) * 256 := IntWalk.i64_in _ (by omega)
      have hsl : ∀ wx, (Instr.slice 9 (.string s) (some (.int .i64 ((i : Int) * 256))) (some (.int .i64 (((i : Int) + 1) * 256))) none).run Tryd.prog wx = .ok (.string (secS s i)) wx := fun wx => by
        rw [run_slice_string (P := Tryd.prog) wx 9 s .i64 .i64 ((i : Int) * 256) (((i : Int) + 1) * 256) Tryd.underlying9 (by omega) (by omega) (by have := hsn.out; omega), show ((i : Int) * 256).toNat = i * 256 by omega, show (((i : Int) + 1) * 256).toNat = (i + 1) * 256 by omega]
        rfl
      have D0 : Hid (Below wr.heap.size wr wr.drew) := ⟨rfl, rfl, rfl, Nat.le_refl _, fun _ _ => rfl⟩
      obtain ⟨w9, hup, hM9, hG9⟩ := run_put_sec (HD.out.below D0.out).hm (by unfold maxLen; omega) (i : Int) (wf64_of (by omega) (by omega)) (secS s i)
      rw [ofTo_set] at hM9
      have D9 : Hid (DiskAt w9 g mb cb 4096 (.slice none 0 0) (Dk.ofTo s (i + 1))) := (HD.out.below D0.out).moved (m' := (Dk.ofTo s (i + 1)).m) (c' := (Dk.ofTo s i).c) ((Fr.refl _ _).grown hG9 (fun k e => by injection e with e; exact .inl (.inl e.symm))) (hM9.t4096 (N := (n : Int)) (by omega) (ofTo_range (by omega))) ((HD.out.below D0.out).hc.kept hG9 (fun e => HD.out.mc (by injection e with e; exact e.symm)))
      have B9 : Hid (Below w.heap.size w w9) := ⟨hG9.os.trans HB.out.os, hG9.tape.trans HB.out.tape, hG9.output.trans HB.out.output, Nat.le_trans HB.out.size hG9.size, fun k hk => (hG9.block k (Nat.lt_of_lt_of_le hk HB.out.size) (fun e => by injection e with e; have := lm.out; omega)).trans (HB.out.block k hk)⟩
      have S0 := hcells.out wr.drew i (HD.out.below D0.out)
      have S9 := hcells.out w9 (i + 1) D9.out
      clear hM9 hG9
      go_region_held3 (fun w' => ∀ o, w'.cell? ⟨g, o, none⟩ = (#[.int .i64 (n : Int), .map (some mb), .map (some cb), .bool false, .int .i64 0, .slice none 0 0, .bool false] : Array Value)[o]?) (first | exact S0 | exact S9 | assumption) (fail)
      go_wp2_with fail
      go_roundw
      case rel => exact ⟨i + 1, by omega, by go_num, D9.out, B9.out⟩
      case measure => simp [intOf]; omega
    · have hi : ¬ (i : Int) < (n : Int) := by omega
      obtain rfl : i = n := by omega
      go_wp2_with fail
      go_ret2
      refine ⟨rfl, ?_, HB.out⟩
      have e : Dk.ofS s = Dk.ofTo s i := by unfold Dk.ofTo Dk.ofS; rw [HN.out]
      rw [e]; exact HD.out
theorem disk_Of (s : ByteArray) (h0 : 256 ≤ s.size) (h1 : s.size ≤ 1048576) (hm : s.size % 256 = 0) (w : World) :
    Calls Tryd.prog 25 #[.string s] w fun e w' => e = .returned (.tuple #[.pointer (some ⟨w.heap.size + 2, 0, none⟩), .int .i64 0]) ∧ DiskAt w' (w.heap.size + 2) w.heap.size (w.heap.size + 1) 4096 (.slice none 0 0) (Dk.ofS s) ∧ Below w.heap.size w w' := disk_Of' s h0 h1 hm w _ _ _ rfl rfl rfl
end Go.Proofs.YtikgfkghfbfccaaDoor
