/- Frames (layer 18): Make. -/
import Derived.Test.YtdbiebnnogjccaaGreatDoorFb
import Derived.Test.YtdbiebnnogjccaaGreatDoorCp
import Derived.Test.YtdbiebnnogjccaaGreatDoorSh
import Derived.Deep.RegionHeld3
import Derived.LoopTactic
namespace Go.Proofs.YtdbiebnnogjccaaGreatDoor
open Go.RowKit
theorem repeatL_zero : ∀ c : Nat, Lib.repeatL [(0 : UInt8)] c = List.replicate c 0
  | 0 => rfl
  | c + 1 => by
    show [0] ++ Lib.repeatL [0] c = _
    rw [repeatL_zero c, List.replicate_succ]; rfl
theorem Tryz.info9 : (Tryz.prog.info? 9).map (fun i => (i.zero, i.size, i.bytes)) = some (some (.string ⟨#[]⟩), 1, 16) := by kernel_rfl
theorem ofL_append (a b : List UInt8) : ofL a ++ ofL b = ofL (a ++ b) := bytes_ext (by rw [list_append, ofL_list, ofL_list, ofL_list])
set_option maxRecDepth 100000 in
set_option maxHeartbeats 4000000 in
theorem frame_Make (n : Int) (h0 : 0 ≤ n) (h1 : n < 4294967296) (S : ByteArray) (hs : S.size ≤ 3000) (w : World) (he : EtIs w) (ht : TblIs w) :
    Calls Tryz.prog 75 #[.int .u32 n, .string S] w fun e w' => ∃ v, e = .returned (.tuple #[v, .int .i64 (makeF n S.data.toList).2]) ∧ SlStrs w' v ((makeF n S.data.toList).1.map ofL) ∧ Below w.heap.size w w' := by
  have hsz := size_list S
  by_cases c0 : n = 0
  · subst c0
    have e : makeF 0 S.data.toList = ([], 1) := by unfold makeF; rw [if_pos rfl]
    rw [e]; clear e
    go_enter Tryz.func75, Tryz.ntmps75
    go_wp2_with fail
    go_ret2
    exact ⟨_, rfl, .inl ⟨rfl, rfl⟩, Below.refl _ _⟩
  have z0 : ((n : Int) == 0) = false := by rw [beq_eq_false_iff_ne]; exact c0
  by_cases c1 : 2000 < S.size
  · have e : makeF n S.data.toList = ([], 2) := by unfold makeF; rw [if_neg c0, if_pos (by omega)]
    rw [e]; clear e hsz
    have l1 : (2000 : Int) < (S.size : Int) := by omega
    go_enter Tryz.func75, Tryz.ntmps75
    go_wp2_with fail
    go_ret2
    exact ⟨_, rfl, .inl ⟨rfl, rfl⟩, Below.refl _ _⟩
  have e : makeF n S.data.toList = (secsF n S.data.toList, 0) := by unfold makeF; rw [if_neg c0, if_neg (by omega)]
  rw [e]; clear e
  have l1 : ¬ (2000 : Int) < (S.size : Int) := by omega
  have Hsz := Lib.hid hsz
  clear hsz
  have HE := Lib.hid he
  have HT := Lib.hid ht
  clear he ht
  obtain ⟨P, hP⟩ : ∃ P, P = ofL (beBytes (S.size : Int) 4) := ⟨_, rfl⟩
  have N1 := Lib.hid (frame_num4 (S.size : Int) (by omega) (by omega) w HE.out)
  rw [← hP] at N1
  have hPz : P.size = 4 := by rw [hP, ofL_size, beBytes_length]
  have a1 : ¬ 9223372036854775807 < P.size + S.size := by omega
  have hH : (P ++ S).data.toList = head4 S.data.toList := by rw [list_append, hP, ofL_list, head4, Hsz.out]
  have C1 := Lib.hid (fun W h => crc_Sum (P ++ S) (by rw [ByteArray.size_append]; omega) W h)
  rw [hH] at C1
  have hcl := sumN_lt (head4 S.data.toList)
  obtain ⟨c, hc⟩ : ∃ c, c = sumN (head4 S.data.toList) := ⟨_, rfl⟩
  rw [← hc] at C1 hcl
  obtain ⟨R, hR⟩ : ∃ R, R = ofL (beBytes (c : Int) 4) := ⟨_, rfl⟩
  have N2 := Lib.hid (fun W h => frame_num4 (c : Int) (by omega) (by omega) W h)
  rw [← hR] at N2
  have hRz : R.size = 4 := by rw [hR, ofL_size, beBytes_length]
  have a2 : ¬ 9223372036854775807 < P.size + S.size + R.size := by omega
  have hU : (P ++ S ++ R).data.toList = summed S.data.toList := by rw [list_append, hH, hR, ofL_list, summed, hc]
  obtain ⟨k, hk⟩ : ∃ k, k = szN S.size := ⟨_, rfl⟩
  have F1 := Lib.hid (fun W => frame_Size (S.size : Int) W)
  rw [sizeF_nat (by omega), ← hk] at F1
  obtain ⟨m, hm⟩ : ∃ m, m = k * 244 - (S.size + 8) := ⟨_, rfl⟩
  have hkm : S.size + 8 + m = k * 244 ∧ 1 ≤ k ∧ k ≤ 9 := by rw [hm, hk]; unfold szN; omega
  obtain ⟨hkm1, hk1, hk9⟩ := hkm
  obtain ⟨Z, hZ⟩ : ∃ Z : ByteArray, Z = ⟨(Lib.repeatL [(0 : UInt8)] m).toArray⟩ := ⟨_, rfl⟩
  have R1 := Lib.hid (fun W => Tryz.strings_Repeat ⟨#[0]⟩ m W (by omega) (by show 1 * m ≤ _; omega))
  have HP := Lib.hid hP; have HPz := Lib.hid hPz; have HR := Lib.hid hR; have HRz := Lib.hid hRz; have HZ := Lib.hid hZ; have Hm := Lib.hid hm; have Hk := Lib.hid hk; have Hkm := Lib.hid hkm1; have HU := Lib.hid hU
  clear hP hPz hR hRz hZ hm hk hkm1 hU hH hc
  go_enter Tryz.func75, Tryz.ntmps75
  go_wp2_with fail
  refine N1.out.mono ?_; rintro e w1 ⟨rfl, hb1⟩
  have B1 := Lib.hid hb1
  clear hb1
  go_wp2_with fail
  refine (C1.out _ (HT.out.below B1.out)).mono ?_; rintro e w2 ⟨rfl, rfl⟩
  go_wp2_with fail
  refine (N2.out _ (HE.out.below B1.out)).mono ?_; rintro e w3 ⟨rfl, hb3⟩
  have B3 := Lib.hid (bstep B1.out hb3)
  clear hb3
  go_wp2_with fail
  refine (F1.out _).mono ?_; rintro e w4 ⟨rfl, rfl⟩
  go_wp2_with fail
  rw [show (k : Int) * 244 - ((P.size : Int) + (S.size : Int) + (R.size : Int)) = (m : Int) by have := Hkm.out; have := HPz.out; have := HRz.out; omega]
  refine (R1.out _).mono ?_; rintro e w5 ⟨rfl, hb5⟩
  have B5 := Lib.hid (bstep B3.out hb5)
  clear hb5
  rw [← HZ.out]
  have hZz : Z.size = m := by rw [HZ.out, ← size_list]; simp [repeatL_zero]
  have a3 : ¬ 9223372036854775807 < P.size + S.size + R.size + Z.size := by have := Hkm.out; have := HPz.out; have := HRz.out; omega
  have HZz := Lib.hid hZz
  clear hZz
  go_upto_region 9 with (fail)
  obtain ⟨A, hA⟩ : ∃ A, A = P ++ S ++ R ++ Z := ⟨_, rfl⟩
  have hAl : A.data.toList = allF S.data.toList := by
    rw [hA, list_append, HU.out, HZ.out, allF, Hsz.out, ← Hk.out, ← Hm.out]; simp [repeatL_zero]
  have hAz : A.size = k * 244 := by rw [← size_list, hAl, allF_length, Hsz.out, Hk.out]
  rw [← hA]
  have HAl := Lib.hid hAl; have HAz := Lib.hid hAz
  clear hA hAl hAz a1 a2 a3
  obtain ⟨i0, ih, i1, i2, i3⟩ := info_parts Tryz.info9
  obtain ⟨N, hN⟩ : ∃ N, N = ofL (mkL n) := ⟨_, rfl⟩
  have M1 := Lib.hid (fun W => frame_number n h0 h1 W)
  rw [← hN] at M1
  have hNz : N.size = 4 := by rw [hN, ofL_size, mkL_length]
  obtain ⟨V, hV⟩ : ∃ V, V = ofL (beBytes (k : Int) 2) := ⟨_, rfl⟩
  have N3 := Lib.hid (fun W h => frame_num2 (k : Int) (by omega) (by omega) W h)
  rw [← hV] at N3
  have hVz : V.size = 2 := by rw [hV, ofL_size, beBytes_length]
  have HN := Lib.hid hN; have HNz := Lib.hid hNz; have HV := Lib.hid hV; have HVz := Lib.hid hVz
  clear hN hNz hV hVz
  have hsec : Hid (∀ i, i < k → ofL (secF n (allF S.data.toList) (szN S.data.toList.length) i) = N ++ ofL (beBytes (i : Int) 2) ++ V ++ A.extract (i * 244) ((i + 1) * 244) ++ N) := by
    intro i hi
    refine bytes_ext ?_
    rw [list_append, list_append, list_append, list_append, HN.out, HV.out, ofL_list, ofL_list, ofL_list, ofL_list, extract_list, HAl.out, Hsz.out, ← Hk.out, show (i + 1) * 244 - i * 244 = 244 by omega, secF]
    simp
  go_wp2_with fail
  go_loopw [8, 41] (fun v c wr => ∃ i : Nat, i ≤ k ∧ c = .int .i64 i ∧ wr.ownsRow w.heap.size 9 1 v (((secsF n S.data.toList).take i).map ofL).length ((((secsF n S.data.toList).take i).map ofL).map Value.string) ∧ Below w.heap.size w wr) (fun _ c _ => k - (intOf c).toNat)
  case atStart => exact ⟨0, Nat.zero_le _, rfl, World.ownsRow_nil _ _ _ _, B5.out⟩
  case round =>
    obtain ⟨i, hik, rfl, hown, hB⟩ := hrel
    have HO := Lib.hid hown
    have HB := Lib.hid hB
    clear hown hB
    by_cases hlt : i < k
    · have hi : (i : Int) < (k : Int) := by omega
      go_upto_region 13 with (fail)
      have N4 := Lib.hid (fun W h => frame_num2 (i : Int) (by omega) (by omega) W h)
      obtain ⟨U, hU⟩ : ∃ U, U = ofL (beBytes (i : Int) 2) := ⟨_, rfl⟩
      rw [← hU] at N4
      have hUz : U.size = 2 := by rw [hU, ofL_size, beBytes_length]
      have hse := hsec.out i hlt
      rw [← hU] at hse
      have HSE := Lib.hid hse
      have e1 : IntKind.i64.wrap ((i : Int) * 244) = (i : Int) * 244 := IntWalk.i64_in _ (by omega)
      have e2 : IntKind.i64.wrap ((i : Int) + 1) = (i : Int) + 1 := IntWalk.i64_in _ (by omega)
      have e3 : IntKind.i64.wrap (((i : Int) + 1) * 244) = ((i : Int) + 1) * 244 := IntWalk.i64_in _ (by omega)
      have w1 : IntKind.u64.wrap (i : Int) = (i : Int) := by rw [IntKind.wrap_u64, Int.emod_eq_of_lt (by omega) (by omega)]
      have w2 : IntKind.u64.wrap (k : Int) = (k : Int) := by rw [IntKind.wrap_u64, Int.emod_eq_of_lt (by omega) (by omega)]
      have w3 : (i : Int) % 18446744073709551616 = (i : Int) := Int.emod_eq_of_lt (by omega) (by omega)
      have w4 : (k : Int) % 18446744073709551616 = (k : Int) := Int.emod_eq_of_lt (by omega) (by omega)
      have t1 : ((i : Int) * 244).toNat = i * 244 := by omega
      have t2 : (((i : Int) + 1) * 244).toNat = (i + 1) * 244 := by omega
      have q1 : (0 : Int) ≤ (i : Int) * 244 := by omega
      have q2 : (i : Int) * 244 ≤ ((i : Int) + 1) * 244 := by omega
      have q3 : ((i : Int) + 1) * 244 ≤ (A.size : Int) := by have := HAz.out; omega
      have hsl : ∀ wx, (Instr.slice 9 (.string A) (some (.int .i64 ((i : Int) * 244))) (some (.int .i64 (((i : Int) + 1) * 244))) none).run Tryz.prog wx = .ok (.string (A.extract (i * 244) ((i + 1) * 244))) wx := fun wx => by
        rw [run_slice_string (P := Tryz.prog) wx 9 A .i64 .i64 ((i : Int) * 244) (((i : Int) + 1) * 244) Tryz.underlying9 q1 q2 q3, t1, t2]
      obtain ⟨X, hX⟩ : ∃ X, X = A.extract (i * 244) ((i + 1) * 244) := ⟨_, rfl⟩
      rw [← hX] at hsl HSE
      have hXz : X.size = 244 := by rw [hX, ByteArray.size_extract]; have := HAz.out; omega
      have b1 : ¬ 9223372036854775807 < N.size + U.size := by have := HNz.out; omega
      have b2 : ¬ 9223372036854775807 < N.size + U.size + V.size := by have := HNz.out; have := HVz.out; omega
      have b3 : ¬ 9223372036854775807 < N.size + U.size + V.size + X.size := by have := HNz.out; have := HVz.out; omega
      have b4 : ¬ 9223372036854775807 < N.size + U.size + V.size + X.size + N.size := by have := HNz.out; have := HVz.out; omega
      clear hU hUz hse hXz hX
      have D0 : Hid (Below wr.heap.size wr wr.drew) := ⟨rfl, rfl, rfl, Nat.le_refl _, fun _ _ => rfl⟩
      go_region_held3 (fun _ => True) (trivial)
        (first
          | (go_at_call 123; refine (M1.out _).mono ?_; rintro e y ⟨rfl, hy⟩; have D0 := Lib.hid (bstep D0.out hy); clear hy)
          | (go_at_call_of 120 (Value.int IntKind.u64 i); refine (N4.out _ (HE.out.below (bstep HB.out D0.out))).mono ?_; rintro e y ⟨rfl, hy⟩; have D0 := Lib.hid (bstep D0.out hy); clear hy)
          | (go_at_call_of 120 (Value.int IntKind.u64 k); refine (N3.out _ (HE.out.below (bstep HB.out D0.out))).mono ?_; rintro e y ⟨rfl, hy⟩; have D0 := Lib.hid (bstep D0.out hy); clear hy)
          | (refine step_append_str (by rfl) _ _ _ (by rfl) 9 i0 _ Tryz.underlying34 ih i1 i2 i3 (by rfl) w.heap.size _ (((secsF n S.data.toList).take i).map ofL) (by rfl) ((row_bel HO.out D0.out).alloc _) _ _ (N ++ U ++ V ++ X ++ N) (by rfl) (by simp) i (by rw [List.length_map, List.length_take, secsF_length, Hsz.out, ← Hk.out]; omega) (by omega) (by have := HB.out.size; have := D0.out.size; simp; omega) ?_; intro g cap w9 hO9 hg9; have HO9 := Lib.hid hO9; have HB9 := Lib.hid (bel_row ((bstep HB.out D0.out).alloc (by have := HB.out.size; have := D0.out.size; omega) _) (by have := HB.out.size; have := D0.out.size; simp; omega) ((row_bel HO.out D0.out).alloc _) hg9); clear hO9 hg9))
      go_wp2_with fail
      go_roundw
      case rel =>
        have e : ((secsF n S.data.toList).take (i + 1)).map ofL = ((secsF n S.data.toList).take i).map ofL ++ [N ++ U ++ V ++ X ++ N] := by
          have hl : i < (secsF n S.data.toList).length := by rw [secsF_length, Hsz.out, ← Hk.out]; exact hlt
          rw [List.take_succ_eq_append_getElem hl, List.map_append, secsF_get hl, ← HSE.out]; rfl
        exact ⟨i + 1, by omega, by go_num, by rw [e]; exact HO9.out, HB9.out⟩
      case measure => simp [intOf]; omega
    · have hi : ¬ (i : Int) < (k : Int) := by omega
      go_wp2_with fail
      go_ret2
      refine ⟨_, rfl, ?_, HB.out⟩
      have e : (secsF n S.data.toList).take i = secsF n S.data.toList := List.take_of_length_le (by rw [secsF_length, Hsz.out, ← Hk.out]; omega)
      have := SlStrs.of_own HO.out
      rw [e] at this; exact this
end Go.Proofs.YtdbiebnnogjccaaGreatDoor
