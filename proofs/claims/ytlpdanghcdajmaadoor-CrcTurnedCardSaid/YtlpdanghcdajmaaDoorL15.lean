/- The walks of the laws of layer 15. -/
import Derived.Test.YtlpdanghcdajmaaDoorCj
namespace Go.Proofs.YtlpdanghcdajmaaDoor
open Go.RowKit
theorem sum_lit (l : List UInt8) : sumN l = 4294967295 ^^^ F 4294967295 l := by
  unfold sumN not32; rw [ones_eq]
theorem val9 : sumN [49, 50, 51, 52, 53, 54, 55, 56, 57] = 3421780262 := by rw [sum_lit]; decide +kernel
theorem val8 : nextN (sumN [49, 50, 51, 52, 53, 54, 55, 56]) 57 = 3421780262 := by rw [← val9]; exact (sumN_snoc [49, 50, 51, 52, 53, 54, 55, 56] 57).symm
theorem val5 : joinN (sumN [49, 50, 51, 52, 53]) (sumN [54, 55, 56, 57]) 4 = 3421780262 := by rw [← val9]; exact (sumN_append [49, 50, 51, 52, 53] [54, 55, 56, 57]).symm
set_option maxRecDepth 100000 in
theorem law15_wakes (w : World) (ht : TblIs w) : Calls Tryd.prog 17 #[] w fun e w' => e = .returned (.bool true) ∧ Below w.heap.size w w' := by
  have S9 := crc_Sum ⟨#[49, 50, 51, 52, 53, 54, 55, 56, 57]⟩ (by decide) w ht
  have S8 := crc_Sum ⟨#[49, 50, 51, 52, 53, 54, 55, 56]⟩ (by decide) w ht
  have S5 := crc_Sum ⟨#[49, 50, 51, 52, 53]⟩ (by decide) w ht
  have S4 := crc_Sum ⟨#[54, 55, 56, 57]⟩ (by decide) w ht
  have l8 := sumN_lt [49, 50, 51, 52, 53, 54, 55, 56]
  have l5 := sumN_lt [49, 50, 51, 52, 53]
  have l4 := sumN_lt [54, 55, 56, 57]
  have v8 := val8
  have v5 := val5
  have e9 : sumN (⟨#[49, 50, 51, 52, 53, 54, 55, 56, 57]⟩ : ByteArray).data.toList = 3421780262 := val9
  have e8 : sumN (⟨#[49, 50, 51, 52, 53, 54, 55, 56]⟩ : ByteArray).data.toList = sumN [49, 50, 51, 52, 53, 54, 55, 56] := rfl
  have e5 : sumN (⟨#[49, 50, 51, 52, 53]⟩ : ByteArray).data.toList = sumN [49, 50, 51, 52, 53] := rfl
  have e4 : sumN (⟨#[54, 55, 56, 57]⟩ : ByteArray).data.toList = sumN [54, 55, 56, 57] := rfl
  rw [e9] at S9
  rw [e8] at S8
  rw [e5] at S5
  rw [e4] at S4
  clear e9 e8 e5 e4
  generalize sumN [49, 50, 51, 52, 53, 54, 55, 56] = n8 at S8 l8 v8
  generalize sumN [49, 50, 51, 52, 53] = n5 at S5 l5 v5
  generalize sumN [54, 55, 56, 57] = n4 at S4 l4 v5
  have N8 := crc_Next n8 57 l8 (by decide) w ht
  have J5 := crc_Join_pos n5 n4 4 l5 l4 (by decide) w ht
  rw [v8] at N8
  rw [v5] at J5
  have c0 : ((3421780262 : Nat) : Int) = 3421780262 := rfl
  have c1 : ((57 : Nat) : Int) = 57 := rfl
  have c2 : ((4 : Nat) : Int) = 4 := rfl
  rw [c0] at S9
  rw [c0, c1] at N8
  rw [c0, c2] at J5
  have H9 := Lib.hid S9
  have H8 := Lib.hid S8
  have H5 := Lib.hid S5
  have H4 := Lib.hid S4
  have HN := Lib.hid N8
  have HJ := Lib.hid J5
  clear S9 S8 S5 S4 N8 J5 c0 c1 c2 v8 v5 ht l8 l5 l4
  go_enter Tryd.func17, Tryd.ntmps17
  go_wp2_with fail
  refine H9.out.mono ?_; rintro e w1 ⟨rfl, rfl⟩
  go_wp2_with fail
  refine H8.out.mono ?_; rintro e w1 ⟨rfl, rfl⟩
  go_wp2_with fail
  refine HN.out.mono ?_; rintro e w1 ⟨rfl, rfl⟩
  go_wp2_with fail
  refine H5.out.mono ?_; rintro e w1 ⟨rfl, rfl⟩
  go_wp2_with fail
  refine H4.out.mono ?_; rintro e w1 ⟨rfl, rfl⟩
  go_wp2_with fail
  refine HJ.out.mono ?_; rintro e w1 ⟨rfl, hb⟩
  go_wp2_with fail
  go_ret
  exact ⟨rfl, hb⟩
set_option maxRecDepth 100000 in
theorem law15_CrcSums (s : ByteArray) (c b : Nat) (hs : s.size ≤ 140737488351232) (hc : c < 4294967296) (hb : b < 256) (w : World) (ht : TblIs w) :
    Calls Tryd.prog 3 #[.string s, .int .u32 c, .int .u8 b] w fun e w' => e = .returned (.bool true) ∧ Below w.heap.size w w' := by
  by_cases z : (20000 : Int) < (s.size : Int)
  · go_enter Tryd.func3, Tryd.ntmps3
    go_wp2_with fail
    refine (law15_wakes _ ht).mono ?_; rintro e w1 ⟨rfl, hb1⟩
    go_wp2_with fail
    go_ret
    exact ⟨rfl, hb1⟩
  have S1 := crc_Sum s hs w ht
  have S2 := ref15_Sum s hs w
  obtain ⟨n, hn⟩ : ∃ n, n = sumN s.data.toList := ⟨_, rfl⟩
  rw [← hn] at S1 S2
  clear hn
  have N1 := crc_Next c b hc hb w ht
  have N2 := ref15_Next c b hc hb w
  obtain ⟨m, hm⟩ : ∃ m, m = nextN c b := ⟨_, rfl⟩
  rw [← hm] at N1 N2
  clear hm
  have H1 := Lib.hid S1
  have H2 := Lib.hid S2
  have H3 := Lib.hid N1
  have H4 := Lib.hid N2
  have Ht := Lib.hid ht
  clear S1 S2 N1 N2 ht
  go_enter Tryd.func3, Tryd.ntmps3
  go_wp2_with fail
  refine H1.out.mono ?_; rintro e w1 ⟨rfl, rfl⟩
  go_wp2_with fail
  refine H2.out.mono ?_; rintro e w1 ⟨rfl, rfl⟩
  go_wp2_with fail
  refine H3.out.mono ?_; rintro e w1 ⟨rfl, rfl⟩
  go_wp2_with fail
  refine H4.out.mono ?_; rintro e w1 ⟨rfl, hb1⟩
  go_wp2_with fail
  refine (law15_wakes _ (Ht.out.below hb1)).mono ?_; rintro e w2 ⟨rfl, hb2⟩
  go_wp2_with fail
  go_ret
  exact ⟨rfl, bstep hb1 hb2⟩
theorem law15_CrcSumsI (s : ByteArray) (c b : Int) (hs : s.size ≤ 140737488351232) (c0 : 0 ≤ c) (c1 : c < 4294967296) (b0 : 0 ≤ b) (b1 : b < 256) (w : World) (ht : TblIs w) :
    Calls Tryd.prog 3 #[.string s, .int .u32 c, .int .u8 b] w fun e w' => e = .returned (.bool true) ∧ Below w.heap.size w w' := by
  obtain ⟨c', rfl⟩ := Int.eq_ofNat_of_zero_le c0
  obtain ⟨b', rfl⟩ := Int.eq_ofNat_of_zero_le b0
  exact law15_CrcSums s c' b' hs (by omega) (by omega) w ht
set_option maxRecDepth 100000 in
set_option maxHeartbeats 1000000 in
theorem law15_CrcJoins (s t : ByteArray) (q : Int) (hs : s.size ≤ 140737488351232) (hts : t.size ≤ 140737488351232) (w : World) (ht : TblIs w) :
    Calls Tryd.prog 4 #[.string s, .string t, .int .i64 q] w fun e w' => e = .returned (.bool true) ∧ Below w.heap.size w w' := by
  by_cases z : (20000 : Int) < (s.size : Int)
  · go_enter Tryd.func4, Tryd.ntmps4
    go_wp2_with fail
    refine (law15_wakes _ ht).mono ?_; rintro e w1 ⟨rfl, hb1⟩
    go_wp2_with fail
    go_ret
    exact ⟨rfl, hb1⟩
  by_cases z2 : (20000 : Int) < (t.size : Int)
  · go_enter Tryd.func4, Tryd.ntmps4
    go_wp2_with fail
    refine (law15_wakes _ ht).mono ?_; rintro e w1 ⟨rfl, hb1⟩
    go_wp2_with fail
    go_ret
    exact ⟨rfl, hb1⟩
  have hcat : ¬ 9223372036854775807 < s.size + t.size := by omega
  have S1 := crc_Sum s hs
  have S2 := crc_Sum t hts
  have RR := ref15_Sum (s ++ t) (by rw [ByteArray.size_append]; omega)
  rw [list_append] at RR
  have l1 := sumN_lt s.data.toList
  have l2 := sumN_lt t.data.toList
  have JP := crc_Join_pos (sumN s.data.toList) (sumN t.data.toList) t.size l1 l2 (by omega) w ht
  have ej : joinN (sumN s.data.toList) (sumN t.data.toList) t.size = sumN (s.data.toList ++ t.data.toList) := by rw [sumN_append, size_list]
  rw [ej] at JP
  have JN := fun (hq : q < 0) => crc_Join_neg (sumN s.data.toList) (sumN t.data.toList) q hq
  have lN : ∀ k, sumN (s.data.toList ++ t.data.toList.take k) < 4294967296 := fun k => sumN_lt _
  have Nx := fun k b hb => crc_Next (sumN (s.data.toList ++ t.data.toList.take k)) b (lN k) hb w ht
  have H1 := Lib.hid S1
  have H2 := Lib.hid S2
  have H3 := Lib.hid RR
  have H4 := Lib.hid JP
  have H5 := Lib.hid JN
  have H6 := Lib.hid Nx
  have Ht := Lib.hid ht
  clear S1 S2 RR JP JN Nx ej l1 l2 lN ht
  go_enter Tryd.func4, Tryd.ntmps4
  go_wp2_with fail
  refine (H1.out _ Ht.out).mono ?_; rintro e w1 ⟨rfl, rfl⟩
  go_wp2_with fail
  go_loop [7, 8] (fun n i => ∃ k : Nat, k ≤ t.size ∧ i = .int .i64 k ∧ n = .int .u32 (sumN (s.data.toList ++ t.data.toList.take k) : Nat)) (fun _ i => t.size - (intOf i).toNat)
  case atStart => exact ⟨0, Nat.zero_le _, rfl, by rw [List.take_zero, List.append_nil]⟩
  case round =>
    obtain ⟨k, hk, rfl, rfl⟩ := hrel
    by_cases hlt : k < t.size
    · have hi : (k : Int) < (t.size : Int) := by omega
      have HK := Lib.hid (H6.out k t[k].toNat t[k].toNat_lt)
      have HS : Hid (sumN (s.data.toList ++ t.data.toList.take (k + 1)) = nextN (sumN (s.data.toList ++ t.data.toList.take k)) t[k].toNat) := by
        show _ = _
        rw [take_snocS t k hlt, ← List.append_assoc, sumN_snoc]
      generalize sumN (s.data.toList ++ t.data.toList.take k) = n at HK HS ⊢
      go_wp2_with fail
      refine HK.out.mono ?_; rintro e w1 ⟨rfl, rfl⟩
      go_wp2_with fail
      go_round
      case rel => exact ⟨k + 1, by omega, by go_num, by rw [HS.out]⟩
      case measure => simp [intOf]; omega
    · have hi : ¬ (k : Int) < (t.size : Int) := by omega
      have hk' : t.data.toList.take k = t.data.toList := List.take_of_length_le (by rw [size_list]; omega)
      rw [hk']
      clear hk' H6
      generalize sumN (s.data.toList ++ t.data.toList) = N at H3 H4 ⊢
      generalize sumN s.data.toList = n1 at H1 H4 H5
      generalize sumN t.data.toList = n2 at H2 H4 H5
      by_cases hq : 0 ≤ q
      · go_wp2_with fail
        refine (H3.out _).mono ?_; rintro e w1 ⟨rfl, rfl⟩
        go_wp2_with fail
        refine (H1.out _ Ht.out).mono ?_; rintro e w1 ⟨rfl, rfl⟩
        go_wp2_with fail
        refine (H2.out _ Ht.out).mono ?_; rintro e w1 ⟨rfl, rfl⟩
        go_wp2_with fail
        refine H4.out.mono ?_; rintro e w2 ⟨rfl, hb2⟩
        go_wp2_with fail
        refine (H3.out _).mono ?_; rintro e w1 ⟨rfl, rfl⟩
        go_wp2_with fail
        refine (law15_wakes _ (Ht.out.below hb2)).mono ?_; rintro e w3 ⟨rfl, hb3⟩
        go_wp2_with fail
        go_ret
        exact ⟨rfl, bstep hb2 hb3⟩
      · have hq' : q < 0 := by omega
        go_wp2_with fail
        refine (H3.out _).mono ?_; rintro e w1 ⟨rfl, rfl⟩
        go_wp2_with fail
        refine (H1.out _ Ht.out).mono ?_; rintro e w1 ⟨rfl, rfl⟩
        go_wp2_with fail
        refine (H2.out _ Ht.out).mono ?_; rintro e w1 ⟨rfl, rfl⟩
        go_wp2_with fail
        refine H4.out.mono ?_; rintro e w2 ⟨rfl, hb2⟩
        go_wp2_with fail
        refine (H3.out _).mono ?_; rintro e w1 ⟨rfl, rfl⟩
        go_wp2_with fail
        have Ht2 := Lib.hid (Ht.out.below hb2)
        refine (H1.out _ Ht2.out).mono ?_; rintro e w1 ⟨rfl, rfl⟩
        go_wp2_with fail
        refine (H2.out _ Ht2.out).mono ?_; rintro e w1 ⟨rfl, rfl⟩
        go_wp2_with fail
        refine (H5.out hq' _).mono ?_; rintro e w3 ⟨rfl, hb3⟩
        go_wp2_with fail
        refine (law15_wakes _ (Ht2.out.below hb3)).mono ?_; rintro e w4 ⟨rfl, hb4⟩
        go_wp2_with fail
        go_ret
        exact ⟨rfl, bstep (bstep hb2 hb3) hb4⟩
end Go.Proofs.YtlpdanghcdajmaaDoor
