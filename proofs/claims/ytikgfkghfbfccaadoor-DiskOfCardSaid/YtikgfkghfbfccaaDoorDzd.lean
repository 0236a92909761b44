/- Disks (layer 19): the law DiskOf. -/
import Derived.Test.YtikgfkghfbfccaaDoorDzc
namespace Go.Proofs.YtikgfkghfbfccaaDoor
open Go.RowKit
theorem ofS_firstB {s : ByteArray} : ∀ k, k ≤ s.size / 256 → (Dk.ofS s).firstB k = s.data.toList.take (k * 256)
  | 0, _ => by simp [Dk.firstB]
  | k + 1, h => by
    have e1 : (k + 1) * 256 - k * 256 = 256 := by omega
    have e2 : (k + 1) * 256 = k * 256 + 256 := by omega
    rw [Dk.firstB_succ, ofS_firstB k (by omega), ofS_at (by omega), secS, extract_list, e1, e2, List.take_add]
theorem ofS_bytes {s : ByteArray} (h : s.size % 256 = 0) : ofL (Dk.ofS s).bytes = s := by
  refine bytes_ext ?_
  rw [ofL_list]
  unfold Dk.bytes
  rw [show (Dk.ofS s).n.toNat = s.size / 256 by show (((s.size / 256 : Nat) : Int)).toNat = _; rw [Int.toNat_natCast], ofS_firstB _ (Nat.le_refl _)]
  exact List.take_of_length_le (by rw [size_list]; omega)
theorem ofS_dirty (s : ByteArray) : (Dk.ofS s).dirty = [] := by
  unfold Dk.dirty Dk.ofS
  rw [List.filter_eq_nil_iff]
  intro a _ h
  cases h
set_option maxRecDepth 100000 in
set_option maxHeartbeats 4000000 in
theorem law19_DiskOf (s : ByteArray) (hs : s.size ≤ 140737488351232) (aD aA : Addr) (w : World) (hw : DkW w aD aA) :
    Calls Tryd.prog 5 #[.string s] w fun e w' => e = .returned (.bool true) ∧ Below w.heap.size w w' := by
  have HW := Lib.hid hw
  have WK := Lib.hid (fun W h => wakes19 aD aA W h)
  clear hw
  by_cases h0 : 30000 < s.size
  · have q0 : (30000 : Int) < (s.size : Int) := by omega
    clear h0
    go_enter Tryd.func5, Tryd.ntmps5
    go_wp2_with fail
    refine (WK.out _ HW.out).mono ?_; rintro e y ⟨rfl, hby⟩
    have By := Lib.hid hby
    clear hby
    go_wp2_with fail
    go_ret
    exact ⟨rfl, By.out⟩
  have q0 : ¬ (30000 : Int) < (s.size : Int) := by omega
  by_cases hb : s.size % 256 ≠ 0 ∨ s.size < 256 ∨ 1048576 < s.size
  · have DB := Lib.hid (fun W => disk_Of_bad s hs hb W)
    have RB := Lib.hid (fun W => ref_Of_bad s hs hb W)
    clear h0 hb
    go_enter Tryd.func5, Tryd.ntmps5
    go_wp2_with fail
    refine (DB.out _).mono ?_; rintro e w1 ⟨rfl, rfl⟩
    go_wp2_with fail
    refine (RB.out _).mono ?_; rintro e w1 ⟨rfl, rfl⟩
    go_wp2_with fail
    refine (WK.out _ HW.out).mono ?_; rintro e y ⟨rfl, hby⟩
    have By := Lib.hid hby
    clear hby
    go_wp2_with fail
    go_ret
    exact ⟨rfl, By.out⟩
  have hm : s.size % 256 = 0 := by omega
  have h1 : 256 ≤ s.size := by omega
  have h2 : s.size ≤ 1048576 := by omega
  obtain ⟨g, hg⟩ : ∃ g, g = w.heap.size + 2 := ⟨_, rfl⟩
  obtain ⟨cb, hcb⟩ : ∃ cb, cb = w.heap.size + 1 := ⟨_, rfl⟩
  obtain ⟨mb, hmb⟩ : ∃ mb, mb = w.heap.size := ⟨_, rfl⟩
  have DO := Lib.hid (disk_Of' s h1 h2 hm w g mb cb hg hcb hmb)
  have RO := Lib.hid (fun W => ref_Of s h1 h2 hm W)
  have OK := Lib.hid (ofS_ok h1 h2 hm)
  have RE : Hid ((Dk.ofS s).read 0 = (s.extract 0 256, 0)) := by
    show _ = _
    rw [read_ok rfl ⟨by omega, by show (0 : Int) < ((s.size / 256 : Nat) : Int); omega⟩]
    have : (Dk.ofS s).tell 0 = (Dk.ofS s).at ((0 : Nat) : Int) := rfl
    rw [this, ofS_at (by omega)]
    unfold secS
    rfl
  have BE := Lib.hid (ofS_bytes hm)
  have NE : Hid ((Dk.ofS s).n = (s.size : Int) / 256) := by show ((s.size / 256 : Nat) : Int) = _; omega
  have DE := Lib.hid (ofS_dirty s)
  have sl1 : ∀ wx, (Instr.slice 9 (.string s) none (some (.int .i64 256)) none).run Tryd.prog wx = .ok (.string (s.extract 0 256)) wx := fun wx => by
    rw [run_slice_string_h (P := Tryd.prog) wx 9 s Tryd.underlying9 .i64 256 (by omega) (by omega)]; rfl
  obtain ⟨X, hX⟩ : ∃ X, X = s.extract 0 256 := ⟨_, rfl⟩
  rw [← hX] at RE sl1
  obtain ⟨d, hd⟩ : ∃ d, d = Dk.ofS s := ⟨_, rfl⟩
  rw [← hd] at DO OK RE BE NE DE
  have sx := self_eq X
  have ss := self_eq s
  have qz : ((s.size : Int) / 256 == (s.size : Int) / 256) = true := by rw [beq_iff_eq]
  clear hX hd hg hcb hmb hm h1 h2 hb h0
  go_enter Tryd.func5, Tryd.ntmps5
  go_wp2_with fail
  refine DO.out.mono ?_; rintro e w1 ⟨rfl, hd, hb⟩
  have D1 := Lib.hid hd
  have B1 := Lib.hid hb
  clear hd hb
  go_wp2_with fail
  refine (RO.out _).mono ?_; rintro e w2 ⟨rfl, _, hb⟩
  have D2 := Lib.hid (D1.out.below hb)
  have B2 := Lib.hid (bstep B1.out hb)
  clear hb
  go_wp2_with fail
  refine (disk_Read 0 (wf64_of (by omega) (by omega)) g mb cb 4096 _ d aD aA _ (HW.out.below B2.out) D2.out).mono ?_; rintro e w3 ⟨rfl, hb⟩
  rw [RE.out]
  have D3 := Lib.hid (D2.out.below hb)
  have B3 := Lib.hid (bstep B2.out hb)
  clear hb
  go_wp2_with fail
  refine (disk_Bytes g mb cb _ d _ D3.out OK.out.ok0).mono ?_; rintro e w4 ⟨rfl, hb⟩
  rw [BE.out]
  have D4 := Lib.hid (D3.out.below hb)
  have B4 := Lib.hid (bstep B3.out hb)
  clear hb
  go_wp2_with fail
  refine (disk_Dirty g mb cb _ d _ D4.out OK.out.ok0).mono ?_; rintro e w5 ⟨v', rfl, hv', hb5⟩
  rw [DE.out] at hv'
  obtain ⟨p', c', rfl, _⟩ := hv'.form
  have D5 := Lib.hid (D4.out.below hb5)
  have B5 := Lib.hid (bstep B4.out hb5)
  clear hv' hb5
  go_wp2_with fail
  refine (disk_Size g mb cb 4096 _ d _ D5.out).mono ?_; rintro e w6 ⟨rfl, rfl⟩
  rw [NE.out]
  go_wp2_with fail
  refine (WK.out _ (HW.out.below B5.out)).mono ?_; rintro e y ⟨rfl, hby⟩
  have By := Lib.hid (bstep B5.out hby)
  clear hby
  go_wp2_with fail
  go_ret
  exact ⟨rfl, By.out⟩
end Go.Proofs.YtikgfkghfbfccaaDoor
