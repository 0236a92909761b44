/- Frames (layer 18): FrameSizes. -/
import Derived.Test.YtbopppnlgicpeaaDoorFl
namespace Go.Proofs.YtbopppnlgicpeaaDoor
open Go.RowKit
set_option maxHeartbeats 1000000 in
theorem keep_Zeros (m : Nat) (hm : m ≤ 16777216) (w : World) : Calls Tryd.prog 14 #[.int .i64 (m : Int)] w fun e w' => e = .returned (.string (ofL (List.replicate m 0))) ∧ Below w.heap.size w w' := by
  obtain ⟨MC, hmk, hcv⟩ := make_zeros m hm
  have hZ : strOfNums (List.replicate m 0) = ofL (List.replicate m 0) := bytes_ext (by rw [strOfNums_data, ofL_list]; simp)
  rw [hZ] at hcv
  have h0 : ¬ (m : Int) < 0 := by omega
  clear hZ
  go_enter Tryd.func14, Tryd.ntmps14
  go_wp2_with fail
  go_ret
  exact ⟨rfl, below_a1 _ _⟩
theorem be2_small : ∀ i < 10, beBytes (i : Nat) 2 = [0, UInt8.ofNat i] := by decide
theorem sec_bytes {n : Int} {all : List UInt8} {k i : Nat} (hi : i < k) (hk : k ≤ 9) : ∃ a b c d r, secF n all k i = a :: b :: c :: d :: 0 :: UInt8.ofNat i :: 0 :: UInt8.ofNat k :: r := by
  have h := mkL_length n
  match hm : mkL n, h with
  | [a, b, c, d], _ => exact ⟨a, b, c, d, (all.drop (i * 244)).take 244 ++ [a, b, c, d], by unfold secF; rw [hm, be2_small i (by omega), be2_small k (by omega)]; rfl⟩
theorem toNat_small {i : Nat} (h : i < 256) : (UInt8.ofNat i).toNat = i := by simp; omega
set_option maxRecDepth 100000 in
set_option maxHeartbeats 8000000 in
theorem law18_FrameSizes (n : Int) (a b : Int) (h0 : 0 ≤ n) (h1 : n < 4294967296) (ha0 : 0 ≤ a) (ha1 : a < 65536) (hb0 : 0 ≤ b) (hb1 : b < 65536) (a0 a1 a2 : Addr) (w : World) (hw : FrW w a0 a1 a2) :
    Calls Tryd.prog 11 #[.int .u32 n, .int .u16 a, .int .u16 b] w fun e w' => e = .returned (.bool true) ∧ Below w.heap.size w w' := by
  have HW := Lib.hid hw
  have WK := Lib.hid (fun W h => wakes18 a0 a1 a2 W h)
  clear hw
  go_enter Tryd.func11, Tryd.ntmps11
  go_upto_region 2 with (fail)
  obtain ⟨x, hx⟩ : ∃ x : Nat, (x : Int) = min a b % 2001 := ⟨(min a b % 2001).toNat, by omega⟩
  obtain ⟨y, hy⟩ : ∃ y : Nat, (y : Int) = max a b % 2001 := ⟨(max a b % 2001).toNat, by omega⟩
  rw [← hx, ← hy]
  have hxy : x ≤ 2000 ∧ y ≤ 2000 := by omega
  clear hx hy
  go_upto_if 24 with (fail)
  go_cut [7, 8] (fun s7 s8 wc => w = wc ∧ ∃ X Y : Nat, X ≤ Y ∧ Y ≤ 2000 ∧ s7 = .int .i64 X ∧ s8 = .int .i64 Y)
  case first =>
    by_cases c : (y : Int) < (x : Int)
    · go_wp2_with fail
      go_meet
      exact ⟨rfl, y, x, by omega, by omega, rfl, rfl⟩
    · go_wp2_with fail
      go_meet
      exact ⟨rfl, x, y, by omega, by omega, rfl, rfl⟩
  case rest =>
  obtain ⟨rfl, X, Y, hXY, hY, rfl, rfl⟩ := hcut
  clear hxy ha0 ha1 hb0 hb1
  obtain ⟨k, hk⟩ : ∃ k, k = szN X := ⟨_, rfl⟩
  obtain ⟨m, hm⟩ : ∃ m, m = szN Y := ⟨_, rfl⟩
  have hkb : 1 ≤ k ∧ k ≤ m ∧ m ≤ 9 := by rw [hk, hm]; unfold szN; omega
  have F1 := Lib.hid (fun W => frame_Size (X : Int) W)
  have F2 := Lib.hid (fun W => frame_Size (Y : Int) W)
  have F3 := Lib.hid (fun W => frame_Size 2000 W)
  have F4 := Lib.hid (fun W => frame_Size 2001 W)
  have F5 := Lib.hid (fun W => frame_Size (-1) W)
  rw [sizeF_nat (by omega), ← hk] at F1
  rw [sizeF_nat (by omega), ← hm] at F2
  rw [show sizeF 2000 = 9 from rfl] at F3
  rw [show sizeF 2001 = 0 from rfl] at F4
  rw [show sizeF (-1) = 0 from rfl] at F5
  have t1 : ¬ (m : Int) < (k : Int) := by omega
  have t2 : ¬ (k : Int) < 1 := by omega
  have t3 : decide ((k : Int) < 1) = false := by simpa using t2
  have Hk := Lib.hid hk
  have KZ := Lib.hid (fun W => keep_Zeros X (by omega) W)
  obtain ⟨Z, hZ⟩ : ∃ Z, Z = ofL (List.replicate X 0) := ⟨_, rfl⟩
  rw [← hZ] at KZ
  have hZz : Z.size = X := by rw [hZ, ofL_size, List.length_replicate]
  have hZl : Z.data.toList.length = X := by rw [size_list, hZz]
  have MK := Lib.hid (fun W h g => frame_Make n h0 h1 Z (by omega) W h g)
  obtain ⟨L, hL⟩ : ∃ L, L = (makeF n Z.data.toList).1.map ofL := ⟨_, rfl⟩
  obtain ⟨c, hc⟩ : ∃ c, c = (makeF n Z.data.toList).2 := ⟨_, rfl⟩
  rw [← hL, ← hc] at MK
  clear hk hm hZ hZz
  go_wp2_with fail
  refine (F1.out _).mono ?_; rintro e w1 ⟨rfl, rfl⟩
  go_wp2_with fail
  refine (F2.out _).mono ?_; rintro e w1 ⟨rfl, rfl⟩
  go_wp2_with fail
  refine (F1.out _).mono ?_; rintro e w1 ⟨rfl, rfl⟩
  go_wp2_with fail
  refine (F3.out _).mono ?_; rintro e w1 ⟨rfl, rfl⟩
  go_wp2_with fail
  refine (F4.out _).mono ?_; rintro e w1 ⟨rfl, rfl⟩
  go_wp2_with fail
  refine (F5.out _).mono ?_; rintro e w1 ⟨rfl, rfl⟩
  go_wp2_with fail
  refine (KZ.out _).mono ?_; rintro e w2 ⟨rfl, hb2⟩
  have B2 := Lib.hid hb2
  have W2 := Lib.hid (HW.out.below hb2)
  clear hb2
  go_wp2_with fail
  refine (MK.out _ W2.out.et W2.out.tbl).mono ?_; rintro e w3 ⟨v, rfl, hv, hb3⟩
  have B3 := Lib.hid (bstep B2.out hb3)
  have W3 := Lib.hid (W2.out.below hb3)
  clear hb3
  by_cases hn : n = 0
  · subst hn
    rw [show makeF 0 Z.data.toList = ([], 1) by unfold makeF; rw [if_pos rfl]] at hL hc
    obtain rfl : c = 1 := hc
    obtain rfl : L = [] := hL
    obtain ⟨p, cp, rfl, hcp⟩ := hv.form
    clear hv
    go_wp2_with fail
    refine (WK.out _ W3.out).mono ?_; rintro e w4 ⟨rfl, hb4⟩
    have B4 := Lib.hid (bstep B3.out hb4)
    clear hb4
    go_wp2_with fail
    go_ret
    exact ⟨rfl, B4.out⟩
  have hn0 : (n == 0) = false := by rw [beq_eq_false_iff_ne]; exact hn
  have hLk : L.length = k := by
    rw [hL, List.length_map]; unfold makeF; rw [if_neg hn, if_neg (by omega), secsF_length, hZl, Hk.out]
  have hLi : Hid (∀ i (h : i < L.length), L[i] = ofL (secF n (allF Z.data.toList) k i)) := by
    intro i h
    have e : (makeF n Z.data.toList).1 = secsF n Z.data.toList := by unfold makeF; rw [if_neg hn, if_neg (by omega)]
    subst hL
    simp only [List.getElem_map, e]
    rw [secsF_get, hZl, ← Hk.out]
  have hal : Hid ((allF Z.data.toList).length = k * 244) := by show _ = _; rw [allF_length, hZl, Hk.out]
  have hc0 : c = 0 := by rw [hc]; unfold makeF; rw [if_neg hn, if_neg (by omega)]
  subst hc0
  clear hc hL hZl
  obtain ⟨p, cp, rfl, hcp⟩ := hv.form
  obtain ⟨bb, off, rfl, hS⟩ := hv.atN rfl (k := 0) (by omega)
  have HS := Lib.hid hS
  have HLk := Lib.hid hLk
  rw [hLk]
  have q0 : ((k : Int) != (k : Int)) = false := by simp
  clear hv hS hcp hLk
  go_wp2_with fail
  refine (F1.out _).mono ?_; rintro e w4 ⟨rfl, rfl⟩
  go_wp2_with fail
  go_loopw [11] (fun cc wr => ∃ i : Nat, i ≤ k ∧ cc = .int .i64 i ∧ Below w.heap.size w wr ∧ Below w3.heap.size w3 wr) (fun cc _ => k - (intOf cc).toNat)
  case atStart => exact ⟨0, Nat.zero_le _, rfl, B3.out, Below.refl _ _⟩
  case round =>
    obtain ⟨i, hi, rfl, hB, hB3⟩ := hrel
    have HB := Lib.hid hB
    have WR := Lib.hid (HW.out.below hB)
    by_cases hlt : i < k
    · have hlt1 : (i : Int) < (k : Int) := by omega
      have hi0 : (0 : Int) ≤ (i : Int) := by omega
      have hiL : i < L.length := by rw [HLk.out]; exact hlt
      have hcell := (HS.out.below hB3).at' i hiL
      have HB3 := Lib.hid hB3
      obtain ⟨A, hA⟩ : ∃ A, A = L[i] := ⟨_, rfl⟩
      rw [← hA] at hcell
      have hAl : A.data.toList = secF n (allF Z.data.toList) k i := by rw [hA, hLi.out i hiL, ofL_list]
      have hAz : A.size = 256 := by rw [← size_list, hAl]; exact sec_length hal.out hlt
      have NQ := Lib.hid (fun W => frame_NumQ A W)
      rw [hAl, sec_num h0 h1 hal.out hlt] at NQ
      have EN := Lib.hid (fun W => ref18_End (A.extract 252 256) (by simp [hAz]) W)
      rw [extract_list, hAl, sec_end hal.out hlt, List.take_of_length_le (by rw [mkL_length]; decide), valLE_mk h0 h1] at EN
      obtain ⟨d0, d1, d2, d3, r, hr⟩ := sec_bytes (n := n) (all := allF Z.data.toList) hlt (by omega : k ≤ 9)
      have hg : ∀ j (h : j < A.size), A[j] = (secF n (allF Z.data.toList) k i)[j]'(by rw [← hAl, size_list]; exact h) := by
        intro j h; simp [ByteArray.getElem_eq_getElem_data, ← hAl]
      have g4 : (A[4]'(by omega)).toNat = 0 := by rw [hg]; simp [hr]
      have g5 : (A[5]'(by omega)).toNat = i := by rw [hg]; simp only [hr, List.getElem_cons_succ, List.getElem_cons_zero]; exact toNat_small (by omega)
      have g6 : (A[6]'(by omega)).toNat = 0 := by rw [hg]; simp [hr]
      have g7 : (A[7]'(by omega)).toNat = k := by rw [hg]; simp only [hr, List.getElem_cons_succ, List.getElem_cons_zero]; exact toNat_small (by omega)
      clear hg hr hA hAl hB3 hB
      have l4 : (4 : Int) < (A.size : Int) := by omega
      have l5 : (5 : Int) < (A.size : Int) := by omega
      have l6 : (6 : Int) < (A.size : Int) := by omega
      have l7 : (7 : Int) < (A.size : Int) := by omega
      have l8 : (252 : Int) ≤ (A.size : Int) := by omega
      have z1 : ((A.size : Int) != 256) = false := by rw [hAz]; rfl
      have z2 : (n != n) = false := by simp
      have z3 : ((i : Int) != (i : Int)) = false := by simp
      go_wp2_with fail
      go_quiet (first | (go_at_call 47; exact Calls.quiet_of (NQ.out _)) | (go_at_call 48; exact Calls.quiet_of_same ((EN.out _).mono fun _ _ h => ⟨h.1, h.2.symm⟩)))
      go_wp2_with fail
      exact ⟨⟨i + 1, by omega, by rw [Int.natCast_add]; rfl, bstep HB.out (below_dN _ _), bstep HB3.out (below_dN _ _)⟩, by simp [intOf]; omega⟩
    · have hlt1 : ¬ (i : Int) < (k : Int) := by omega
      go_wp2_with fail
      refine (WK.out _ WR.out).mono ?_; rintro e w4 ⟨rfl, hb4⟩
      have B4 := Lib.hid (bstep HB.out hb4)
      clear hb4
      go_wp2_with fail
      go_ret
      exact ⟨rfl, B4.out⟩
end Go.Proofs.YtbopppnlgicpeaaDoor
