/- The walks of pannierlaw16. -/
import Derived.Test.YtlpdanghcdajmaaDoorRk
import Derived.Test.YtlpdanghcdajmaaDoorPuB
import Derived.WalkLawsBesides
namespace Go.Proofs.YtlpdanghcdajmaaDoor
open Go.RowKit

theorem bstep {w a b : World} (h : Below w.heap.size w a) (k : Below a.heap.size a b) : Below w.heap.size w b := h.trans (k.mono h.size)
theorem wakes16_1 : numR 258 2 = (⟨#[1, 2]⟩, 0) := by decide +kernel
theorem wakes16_2 : textR ⟨#[97]⟩ = (⟨#[0, 1, 97]⟩, 0) := by decide +kernel
theorem wakes16_3 : takeR ⟨#[1, 2, 3]⟩ 1 2 = (515, 3, 0) := by decide +kernel
theorem wakes16_4 : cutR ⟨#[0, 1, 97]⟩ 0 9 = (⟨#[97]⟩, 3, 0) := by decide +kernel
set_option maxHeartbeats 2000000 in
theorem law16_wakes (w : World) (he : EtIs w) : Calls Tryd.prog 24 #[] w fun e w' => e = .returned (.bool true) ∧ Below w.heap.size w w' := by
  go_enter Tryd.func24, Tryd.ntmps24
  go_wp2_with fail
  refine (pack_Num_eq wakes16_1 (by decide) (by decide) _ he).mono ?_; rintro e w1 ⟨rfl, hb1⟩
  have he1 := he.below hb1
  go_wp2_with fail
  refine (pack_Text_eq wakes16_2 (by decide) _ he1).mono ?_; rintro e w2 ⟨rfl, hb2⟩
  have he2 := he1.below hb2
  go_wp2_with fail
  refine (pack_Take_eq wakes16_3 (by decide) _ he2).mono ?_; rintro e w3 ⟨rfl, hb3⟩
  have he3 := he2.below hb3
  go_wp2_with fail
  refine (pack_Cut_eq wakes16_4 (by decide) _ he3).mono ?_; rintro e w4 ⟨rfl, hb4⟩
  go_wp2_with fail
  go_ret
  exact ⟨rfl, ((hb1.trans (hb2.mono hb1.size)).trans (hb3.mono (Nat.le_trans hb1.size hb2.size))).trans (hb4.mono (Nat.le_trans (Nat.le_trans hb1.size hb2.size) hb3.size))⟩

set_option maxHeartbeats 2000000 in
theorem law_PackMakes (v n : Int) (s : ByteArray) (h0 : 0 ≤ v) (h1 : v < 18446744073709551616) (hs : s.size ≤ 140737488351232) (w : World) (he : EtIs w) :
    Calls Tryd.prog 6 #[.int .u64 v, .int .i64 n, .string s] w fun e w' => e = .returned (.bool true) ∧ Below w.heap.size w w' := by
  by_cases hl : 70000 < (s.size : Int)
  · go_enter Tryd.func6, Tryd.ntmps6
    go_wp2_with fail
    refine (law16_wakes _ he).mono ?_; rintro e w1 ⟨rfl, hb1⟩
    go_wp2_with fail
    go_ret
    exact ⟨rfl, hb1⟩
  · go_enter Tryd.func6, Tryd.ntmps6
    go_wp2_with fail
    refine (pack_Num _ _ h0 h1 _ he).mono ?_; rintro e w1 ⟨rfl, hb1⟩
    have he1 := he.below hb1
    go_wp2_with fail
    refine (ref16_Num _ _ h0 h1 _).mono ?_; rintro e w2 ⟨rfl, hb2⟩
    have he2 := he1.below hb2
    go_wp2_with fail
    refine (pack_Text _ hs _ he2).mono ?_; rintro e w3 ⟨rfl, hb3⟩
    have he3 := he2.below hb3
    go_wp2_with fail
    refine (ref16_Text _ hs _).mono ?_; rintro e w4 ⟨rfl, hb4⟩
    have he4 := he3.below hb4
    go_wp2_with fail
    refine (law16_wakes _ he4).mono ?_; rintro e w5 ⟨rfl, hb5⟩
    go_wp2_with fail
    go_ret
    exact ⟨rfl, bstep (bstep (bstep (bstep hb1 hb2) hb3) hb4) hb5⟩

set_option maxHeartbeats 2000000 in
theorem law_PackTakes (b : ByteArray) (a n : Int) (hs : b.size ≤ 140737488351232) (w : World) (he : EtIs w) :
    Calls Tryd.prog 7 #[.string b, .int .i64 a, .int .i64 n] w fun e w' => e = .returned (.bool true) ∧ Below w.heap.size w w' := by
  by_cases hl : 70000 < (b.size : Int)
  · go_enter Tryd.func7, Tryd.ntmps7
    go_wp2_with fail
    refine (law16_wakes _ he).mono ?_; rintro e w1 ⟨rfl, hb1⟩
    go_wp2_with fail
    go_ret
    exact ⟨rfl, hb1⟩
  · go_enter Tryd.func7, Tryd.ntmps7
    go_wp2_with fail
    refine (pack_Take _ _ _ hs _ he).mono ?_; rintro e w1 ⟨rfl, hb1⟩
    have he1 := he.below hb1
    go_wp2_with fail
    refine (ref16_Take _ _ _ hs _).mono ?_; rintro e w2 ⟨rfl, rfl⟩
    go_wp2_with fail
    refine (pack_Cut _ _ _ hs _ he1).mono ?_; rintro e w3 ⟨rfl, hb3⟩
    have he3 := he1.below hb3
    go_wp2_with fail
    refine (ref16_Cut _ _ _ hs _).mono ?_; rintro e w4 ⟨rfl, rfl⟩
    go_wp2_with fail
    refine (law16_wakes _ he3).mono ?_; rintro e w5 ⟨rfl, hb5⟩
    go_wp2_with fail
    go_ret
    exact ⟨rfl, bstep (bstep hb1 hb3) hb5⟩

set_option maxHeartbeats 2000000 in
theorem law_PackBack (v : Int) (s ar : ByteArray) (h0 : 0 ≤ v) (h1 : v < 18446744073709551616) (hs : s.size ≤ 140737488351232) (har : ar.size ≤ 140737488351232) (w : World) (he : EtIs w) :
    Calls Tryd.prog 8 #[.int .u64 v, .string s, .string ar] w fun e w' => e = .returned (.bool true) ∧ Below w.heap.size w w' := by
  by_cases hl : 60000 < (s.size : Int)
  · go_enter Tryd.func8, Tryd.ntmps8
    go_wp2_with fail
    refine (law16_wakes _ he).mono ?_; rintro e w1 ⟨rfl, hb1⟩
    go_wp2_with fail
    go_ret
    exact ⟨rfl, hb1⟩
  by_cases hk : 1000 < (ar.size : Int)
  · go_enter Tryd.func8, Tryd.ntmps8
    go_wp2_with fail
    refine (law16_wakes _ he).mono ?_; rintro e w1 ⟨rfl, hb1⟩
    go_wp2_with fail
    go_ret
    exact ⟨rfl, hb1⟩
  have e1 : numR v 8 = (strOfNums (lowBE v 8), 0) := by simp [numR, sizeB]
  have e2 : textR s = (strOfNums (lowBE s.size 2) ++ s, 0) := by rw [textR, if_neg (by omega)]
  obtain ⟨A, hA⟩ : ∃ A, A = strOfNums (lowBE v 8) := ⟨_, rfl⟩
  obtain ⟨B, hB⟩ : ∃ B, B = strOfNums (lowBE s.size 2) ++ s := ⟨_, rfl⟩
  have zA : A.size = 8 := by rw [hA, strOfNums_size, lowBE_length]
  have zB : B.size = 2 + s.size := by rw [hB, ByteArray.size_append, strOfNums_size, lowBE_length]
  rw [← hA] at e1
  rw [← hB] at e2
  have lall : (ar ++ A ++ B ++ ar).data.toList = ar.data.toList ++ (beBytes v 8 ++ (beBytes s.data.toList.length 2 ++ (s.data.toList ++ ar.data.toList))) := by
    rw [list_append, list_append, list_append, hA, hB, list_append, strOfNums_list, strOfNums_list, size_list]
    simp only [List.append_assoc]
  have e3 : takeR (ar ++ A ++ B ++ ar) ar.size 8 = (v, (ar.size : Int) + 8, 0) := by
    have := takeR_mid lall (beBytes_length v 8) (by decide)
    rw [size_list, valBE_small h0 (by simpa using h1)] at this
    exact this
  have e4 : cutR (ar ++ A ++ B ++ ar) ((ar.size : Int) + 8) 60000 = (s, (ar.size : Int) + 8 + 2 + s.size, 0) := by
    have h : (ar ++ A ++ B ++ ar).data.toList = (ar.data.toList ++ beBytes v 8) ++ (beBytes s.data.toList.length 2 ++ (s.data.toList ++ ar.data.toList)) := by rw [lall, List.append_assoc]
    have := cutR_mid (most := 60000) h (by rw [size_list]; omega) (by rw [size_list]; omega)
    rw [List.length_append, beBytes_length, size_list, size_list] at this
    have e : ((ar.size + 8 : Nat) : Int) = (ar.size : Int) + 8 := by omega
    rw [e] at this
    exact this
  have zall : (ar ++ A ++ B ++ ar).size = ar.size + 8 + (2 + s.size) + ar.size := by rw [ByteArray.size_append, ByteArray.size_append, ByteArray.size_append, zA, zB]
  obtain ⟨all, hall⟩ : ∃ all, all = ar ++ A ++ B ++ ar := ⟨_, rfl⟩
  rw [← hall] at e3 e4 zall
  have q1 : ar.size + A.size ≤ 9223372036854775807 := by omega
  have q2 : (ar ++ A).size + B.size ≤ 9223372036854775807 := by rw [ByteArray.size_append]; omega
  have q3 : (ar ++ A ++ B).size + ar.size ≤ 9223372036854775807 := by rw [ByteArray.size_append, ByteArray.size_append]; omega
  have q4 : ((ar.size : Int) + 8 + 2 + s.size == (all.size : Int) - ar.size) = true := by rw [beq_iff_eq]; omega
  have E1 := Lib.hid e1; have E2 := Lib.hid e2; have E3 := Lib.hid e3; have E4 := Lib.hid e4; have ZA := Lib.hid zall; have HA := Lib.hid hall
  clear e1 e2 e3 e4 zall lall hA hB zA zB hall
  go_enter Tryd.func8, Tryd.ntmps8
  go_wp2_with fail
  refine (pack_Num_eq E1.out h0 h1 _ he).mono ?_; rintro e w1 ⟨rfl, hb1⟩
  have he1 := he.below hb1
  go_wp2_with fail
  refine (pack_Text_eq E2.out hs _ he1).mono ?_; rintro e w2 ⟨rfl, hb2⟩
  have he2 := he1.below hb2
  go_wp2_with fail
  rw [← HA.out]
  have hall : all.size ≤ 140737488351232 := by have := ZA.out; omega
  refine (pack_Take_eq E3.out hall _ he2).mono ?_; rintro e w3 ⟨rfl, hb3⟩
  have he3 := he2.below hb3
  go_wp2_with fail
  refine (pack_Cut_eq E4.out hall _ he3).mono ?_; rintro e w4 ⟨rfl, hb4⟩
  have he4 := he3.below hb4
  go_wp2_with fail
  refine (law16_wakes _ he4).mono ?_; rintro e w5 ⟨rfl, hb5⟩
  go_wp2_with fail
  go_ret
  exact ⟨rfl, bstep (bstep (bstep (bstep hb1 hb2) hb3) hb4) hb5⟩

set_option maxHeartbeats 2000000 in
theorem law_PackApart (v u : Int) (s t : ByteArray) (h0 : 0 ≤ v) (h1 : v < 18446744073709551616) (k0 : 0 ≤ u) (k1 : u < 18446744073709551616) (hs : s.size ≤ 140737488351232) (ht : t.size ≤ 140737488351232) (w : World) (he : EtIs w) :
    Calls Tryd.prog 9 #[.agg #[.int .u64 v, .int .u64 u], .string s, .string t] w fun e w' => e = .returned (.bool true) ∧ Below w.heap.size w w' := by
  by_cases hl : 60000 < (s.size : Int)
  · go_enter Tryd.func9, Tryd.ntmps9
    go_wp2_with fail
    go_quiet (fail)
    have hB : Below w.heap.size w ((w.alloc (.cells #[.int .u64 v, .int .u64 u] 52)).drewN nq) := ⟨rfl, rfl, rfl, by simp, fun k hk => Below.heap_alloc _ _ _ hk⟩
    generalize ((w.alloc (.cells #[.int .u64 v, .int .u64 u] 52)).drewN nq) = W at hB ⊢
    have heW := he.below hB
    go_wp2_with fail
    refine (law16_wakes _ heW).mono ?_; rintro e w1 ⟨rfl, hb1⟩
    go_wp2_with fail
    go_ret
    exact ⟨rfl, bstep hB hb1⟩
  by_cases hk : 60000 < (t.size : Int)
  · go_enter Tryd.func9, Tryd.ntmps9
    go_wp2_with fail
    go_quiet (fail)
    have hB : Below w.heap.size w ((w.alloc (.cells #[.int .u64 v, .int .u64 u] 52)).drewN nq) := ⟨rfl, rfl, rfl, by simp, fun k hk => Below.heap_alloc _ _ _ hk⟩
    generalize ((w.alloc (.cells #[.int .u64 v, .int .u64 u] 52)).drewN nq) = W at hB ⊢
    have heW := he.below hB
    go_wp2_with fail
    refine (law16_wakes _ heW).mono ?_; rintro e w1 ⟨rfl, hb1⟩
    go_wp2_with fail
    go_ret
    exact ⟨rfl, bstep hB hb1⟩
  have e1 : numR v 8 = (strOfNums (lowBE v 8), 0) := by simp [numR, sizeB]
  have e1' : numR u 8 = (strOfNums (lowBE u 8), 0) := by simp [numR, sizeB]
  have e2 : textR s = (strOfNums (lowBE s.size 2) ++ s, 0) := by rw [textR, if_neg (by omega)]
  have e2' : textR t = (strOfNums (lowBE t.size 2) ++ t, 0) := by rw [textR, if_neg (by omega)]
  obtain ⟨A, hA⟩ : ∃ A, A = strOfNums (lowBE v 8) := ⟨_, rfl⟩
  obtain ⟨A', hA'⟩ : ∃ A', A' = strOfNums (lowBE u 8) := ⟨_, rfl⟩
  obtain ⟨B, hB0⟩ : ∃ B, B = strOfNums (lowBE s.size 2) ++ s := ⟨_, rfl⟩
  obtain ⟨B', hB'⟩ : ∃ B', B' = strOfNums (lowBE t.size 2) ++ t := ⟨_, rfl⟩
  rw [← hA] at e1
  rw [← hA'] at e1'
  rw [← hB0] at e2
  rw [← hB'] at e2'
  have lA : A.toList = beBytes v 8 := by rw [hA, ByteArray.toList_eq, strOfNums_list]
  have lA' : A'.toList = beBytes u 8 := by rw [hA', ByteArray.toList_eq, strOfNums_list]
  have t1 : Op.bytesLess A.toList A'.toList = decide (v < u) := by
    rw [lA, lA']; refine beBytes_less v u 8 ?_
    rw [Int.ediv_eq_zero_of_lt h0 (by simpa using h1), Int.ediv_eq_zero_of_lt k0 (by simpa using k1)]
  have t2 : (A.toList == A'.toList) = (v == u) := by
    rw [lA, lA', Bool.eq_iff_iff, beq_iff_eq, beq_iff_eq]
    exact ⟨fun h => beBytes_inj h0 k0 (by simpa using h1) (by simpa using k1) h, fun h => by rw [h]⟩
  have t3 : (B.toList == B'.toList) = (s.toList == t.toList) := by
    rw [hB0, hB', Bool.eq_iff_iff, beq_iff_eq, beq_iff_eq, ByteArray.toList_eq, ByteArray.toList_eq, ByteArray.toList_eq, ByteArray.toList_eq, list_append, list_append, strOfNums_list, strOfNums_list]
    refine ⟨fun h => ?_, fun h => ?_⟩
    · exact (List.append_inj h (by rw [beBytes_length, beBytes_length])).2
    · have : s.size = t.size := by rw [← size_list, ← size_list, h]
      rw [h, this]
  have t4 : ((B.size : Int) == (s.size : Int) + 2) = true := by
    rw [beq_iff_eq, hB0, ByteArray.size_append, strOfNums_size, lowBE_length]; omega
  clear lA lA'
  have E1 := Lib.hid e1; have E2 := Lib.hid e2; have E1' := Lib.hid e1'; have E2' := Lib.hid e2'; have HA := Lib.hid hA; have HA' := Lib.hid hA'; have HB := Lib.hid hB0; have HB' := Lib.hid hB'
  clear e1 e2 e1' e2' hA hA' hB0 hB'
  go_enter Tryd.func9, Tryd.ntmps9
  go_wp2_with fail
  go_quiet (fail)
  have hB : Below w.heap.size w ((w.alloc (.cells #[.int .u64 v, .int .u64 u] 52)).drewN nq) := ⟨rfl, rfl, rfl, by simp, fun k hk => Below.heap_alloc _ _ _ hk⟩
  generalize ((w.alloc (.cells #[.int .u64 v, .int .u64 u] 52)).drewN nq) = W at hB ⊢
  have heW := he.below hB
  go_wp2_with fail
  refine (pack_Num_eq E1.out h0 h1 _ heW).mono ?_; rintro e w1 ⟨rfl, hb1⟩
  have he1 := heW.below hb1
  go_wp2_with fail
  refine (pack_Num_eq E1'.out k0 k1 _ he1).mono ?_; rintro e w2 ⟨rfl, hb2⟩
  have he2 := he1.below hb2
  go_wp2_with fail
  refine (pack_Text_eq E2.out hs _ he2).mono ?_; rintro e w3 ⟨rfl, hb3⟩
  have he3 := he2.below hb3
  go_wp2_with fail
  refine (pack_Text_eq E2'.out ht _ he3).mono ?_; rintro e w4 ⟨rfl, hb4⟩
  have he4 := he3.below hb4
  go_wp2_with fail
  refine (law16_wakes _ he4).mono ?_; rintro e w5 ⟨rfl, hb5⟩
  go_wp2_with fail
  go_ret
  exact ⟨rfl, bstep (bstep (bstep (bstep (bstep hB hb1) hb2) hb3) hb4) hb5⟩
end Go.Proofs.YtlpdanghcdajmaaDoor
