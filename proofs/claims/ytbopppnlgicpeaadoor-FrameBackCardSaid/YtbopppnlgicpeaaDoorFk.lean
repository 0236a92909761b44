/- Frames (layer 18): the law's wakes, FrameMakes. -/
import Derived.Test.YtbopppnlgicpeaaDoorFj
namespace Go.Proofs.YtbopppnlgicpeaaDoor
open Go.RowKit
theorem LL_ofL (L : List (List UInt8)) : LL (L.map ofL) = L := by
  unfold LL
  rw [List.map_map]
  have e : ((fun b : ByteArray => b.data.toList) ∘ ofL) = id := by funext l; exact ofL_list l
  rw [e, List.map_id]
set_option maxRecDepth 100000 in
set_option maxHeartbeats 4000000 in
theorem wakes18 (a0 a1 a2 : Addr) (w : World) (hw : FrW w a0 a1 a2) :
    Calls Tryd.prog 39 #[] w fun e w' => e = .returned (.bool true) ∧ Below w.heap.size w w' := by
  have HW := Lib.hid hw
  have MK := Lib.hid (frame_Make 258 (by decide) (by decide) ⟨#[97, 98]⟩ (by decide) w hw.et hw.tbl)
  have hm : makeF 258 (⟨#[97, 98]⟩ : ByteArray).data.toList = (secsF 258 [97, 98], 0) := by
    unfold makeF
    rw [if_neg (by decide), if_neg (by decide)]
  rw [hm] at MK
  have hr : readF (secsF 258 [97, 98]) = some ([97, 98], 258, 1) := by
    have := read_made (n := 258) (s := [97, 98]) (by decide) (by decide) (by decide) []
    rw [List.append_nil] at this; exact this
  obtain ⟨X, hX⟩ : ∃ X, X = ofL (secF 258 (allF [97, 98]) 1 0) := ⟨_, rfl⟩
  have hL : (secsF 258 [97, 98]).map ofL = [X] := by rw [hX]; rfl
  have hz : X.size = 256 := by rw [hX, ofL_size]; exact sec_length (allF_length [97, 98]) (by decide)
  have h4 : ((X.extract 0 4).toList == [2, 1, 0, 0]) = true := by
    rw [Lib.toList_data, extract_list, hX, ofL_list, List.drop_zero, sec_take4]; decide
  have hn : numF X.data.toList = 258 := by rw [hX, ofL_list]; exact sec_num (by decide) (by decide) (allF_length [97, 98]) (by decide)
  rw [hL] at MK
  have RD := Lib.hid (fun v W h1 h2 => frame_Read v [X] (by simp) a0 a1 a2 W h1 h2)
  have hll : LL [X] = secsF 258 [97, 98] := by rw [← hL, LL_ofL]
  rw [hll, hr] at RD
  have NB := Lib.hid (fun W => frame_Num X W)
  rw [hn] at NB
  have Z1 := Lib.hid (fun W => frame_Size 236 W)
  have Z2 := Lib.hid (fun W => frame_Size 237 W)
  have s1 : sizeF 236 = 1 := by decide
  have s2 : sizeF 237 = 2 := by decide
  rw [s1] at Z1
  rw [s2] at Z2
  have l4 : (4 : Int) ≤ (X.size : Int) := by omega
  have hz' : ((X.size : Int) == 256) = true := by rw [hz]; rfl
  have hx4 : X.extract 0 4 = ⟨#[2, 1, 0, 0]⟩ := bytes_ext (by rw [extract_list, hX, ofL_list, List.drop_zero, sec_take4]; decide)
  have HX4 := Lib.hid hx4
  clear hX hm hr hL hn hll s1 s2 hw hx4 hz
  go_enter Tryd.func39, Tryd.ntmps39
  go_wp2_with fail
  refine MK.out.mono ?_; rintro e w1 ⟨v, rfl, hv, hb1⟩
  have B1 := Lib.hid hb1
  have W1 := Lib.hid (HW.out.below hb1)
  obtain ⟨p, cp, rfl, hcp⟩ := hv.form
  obtain ⟨b, off, rfl, hS⟩ := hv.at (k := 0) (by simp)
  have HV := Lib.hid hv
  have HS := Lib.hid hS
  clear hb1 hv hS hcp
  go_wp2_with fail
  refine (RD.out _ _ W1.out HV.out).mono ?_; rintro e w2 ⟨he, hb2⟩
  obtain rfl : e = _ := he
  have c0 : w2.cell? ⟨b, off, none⟩ = some (.string X) := (HS.out.below hb2).at' 0 (by simp)
  have B2 := Lib.hid (bstep B1.out hb2)
  clear hb2
  have hab : ofL [97, 98] = ⟨#[97, 98]⟩ := rfl
  rw [hab]
  clear hab
  go_wp2_with fail
  refine (NB.out _).mono ?_; rintro e w3 ⟨rfl, hb3⟩
  have B3 := Lib.hid (bstep B2.out hb3)
  clear hb3
  go_wp2_with fail
  refine (Z1.out _).mono ?_; rintro e w4 ⟨rfl, rfl⟩
  go_wp2_with fail
  refine (Z2.out _).mono ?_; rintro e w4 ⟨rfl, rfl⟩
  go_wp2_with fail
  go_ret
  exact ⟨rfl, B3.out⟩
set_option maxRecDepth 100000 in
set_option maxHeartbeats 4000000 in
theorem law18_FrameMakes (n : Int) (S : ByteArray) (m : Int) (h0 : 0 ≤ n) (h1 : n < 4294967296) (_hS : S.size ≤ 140737488351232) (a0 a1 a2 : Addr) (w : World) (hw : FrW w a0 a1 a2) :
    Calls Tryd.prog 8 #[.int .u32 n, .string S, .int .i64 m] w fun e w' => e = .returned (.bool true) ∧ Below w.heap.size w w' := by
  have HW := Lib.hid hw
  have WK := Lib.hid (fun W h => wakes18 a0 a1 a2 W h)
  by_cases c0 : 3000 < S.size
  · have l0 : (3000 : Int) < (S.size : Int) := by omega
    clear hw
    go_enter Tryd.func8, Tryd.ntmps8
    go_wp2_with fail
    refine (WK.out _ HW.out).mono ?_; rintro e w1 ⟨rfl, hb1⟩
    go_wp2_with fail
    go_ret
    exact ⟨rfl, hb1⟩
  have l0 : ¬ (3000 : Int) < (S.size : Int) := by omega
  have MK := Lib.hid (frame_Make n h0 h1 S (by omega) w hw.et hw.tbl)
  have RM := Lib.hid (fun W => ref18_Make n h0 h1 S (by omega) W)
  obtain ⟨L, hL⟩ : ∃ L, L = (makeF n S.data.toList).1.map ofL := ⟨_, rfl⟩
  obtain ⟨c, hc⟩ : ∃ c, c = (makeF n S.data.toList).2 := ⟨_, rfl⟩
  have hlen : L.length < 9223372036854775807 := by
    rw [hL, List.length_map]
    unfold makeF
    split
    · simp
    · split
      · simp
      · rw [secsF_length, size_list]; unfold szN; omega
  rw [← hL, ← hc] at MK RM
  have TX := Lib.hid (fun v u W h1 h2 => keep_Texts v u L L hlen W h1 h2)
  have hd : decide (L = L) = true := by simp
  rw [hd] at TX
  have F1 := Lib.hid (fun x W => frame_Size x W)
  have F2 := Lib.hid (fun x W => ref18_Size x W)
  have q1 : (c == c) = true := by simp
  have q2 : (sizeF m == sizeF m) = true := by simp
  have q3 : (sizeF (S.size : Int) == sizeF (S.size : Int)) = true := by simp
  clear hL hc hlen hd hw
  go_enter Tryd.func8, Tryd.ntmps8
  go_wp2_with fail
  refine MK.out.mono ?_; rintro e w1 ⟨v, rfl, hv, hb1⟩
  have B1 := Lib.hid hb1
  have HV := Lib.hid hv
  clear hb1 hv
  go_wp2_with fail
  refine (RM.out _).mono ?_; rintro e w2 ⟨u, rfl, hu, hb2⟩
  have B2 := Lib.hid (bstep B1.out hb2)
  have HV2 := Lib.hid (HV.out.below hb2)
  have HU := Lib.hid hu
  clear hb2 hu
  go_wp2_with fail
  refine (TX.out _ _ _ HV2.out HU.out).mono ?_; rintro e w3 ⟨rfl, hb3⟩
  have B3 := Lib.hid (bstep B2.out hb3)
  clear hb3
  go_wp2_with fail
  refine (F1.out _ _).mono ?_; rintro e w4 ⟨rfl, rfl⟩
  go_wp2_with fail
  refine (F2.out _ _).mono ?_; rintro e w4 ⟨rfl, rfl⟩
  go_wp2_with fail
  refine (F1.out _ _).mono ?_; rintro e w4 ⟨rfl, rfl⟩
  go_wp2_with fail
  refine (F2.out _ _).mono ?_; rintro e w4 ⟨rfl, rfl⟩
  go_wp2_with fail
  refine (WK.out _ (HW.out.below B3.out)).mono ?_; rintro e w5 ⟨rfl, hb5⟩
  have B5 := Lib.hid (bstep B3.out hb5)
  clear hb5
  go_wp2_with fail
  go_ret
  exact ⟨rfl, B5.out⟩
end Go.Proofs.YtbopppnlgicpeaaDoor
