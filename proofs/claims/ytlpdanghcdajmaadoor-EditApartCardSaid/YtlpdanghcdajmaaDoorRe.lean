/- The walks of pannierref17: Encode, Decode. -/
import Derived.Test.YtlpdanghcdajmaaDoorEx
import Derived.Test.YtlpdanghcdajmaaDoorRk
import Derived.RegionTactic
import Derived.BigRegion
import Derived.IntWalk
namespace Go.Proofs.YtlpdanghcdajmaaDoor
open Go.RowKit

set_option maxHeartbeats 1000000 in
theorem ref17_place (r c : Int) (h0 : 0 ≤ r) (h1 : r < 9223372036854775808) (k0 : 0 ≤ c) (k1 : c < 9223372036854775808) (w : World) :
    Calls Tryd.prog 67 #[.agg #[.int .i64 r, .int .i64 c]] w fun e w' => e = .returned (.string ((numR r 2).1 ++ (numR c 1).1)) ∧ Below w.heap.size w w' := by
  have z1 := numR_size r 2
  have z2 := numR_size c 1
  obtain ⟨x, hx⟩ : ∃ x, x = (numR r 2).1 := ⟨_, rfl⟩
  obtain ⟨y, hy⟩ : ∃ y, y = (numR c 1).1 := ⟨_, rfl⟩
  rw [← hx] at z1 ⊢
  rw [← hy] at z2 ⊢
  have hxy : ¬ 9223372036854775807 < x.size + y.size := by omega
  have M1 := Lib.hid (ref16_Must r 2 h0 h1); rw [← hx] at M1
  have M2 := Lib.hid (ref16_Must c 1 k0 k1); rw [← hy] at M2
  clear hx hy
  go_enter Tryd.func67, Tryd.ntmps67
  go_wp2_with fail
  have hB0 := below_a1 w (.cells #[.int .i64 r, .int .i64 c] 55)
  have q0 : (w.alloc (.cells #[.int .i64 r, .int .i64 c] 55)).cell? ⟨w.heap.size, 0, none⟩ = some (.int .i64 r) := by simp
  have q1 : (w.alloc (.cells #[.int .i64 r, .int .i64 c] 55)).cell? ⟨w.heap.size, 1, none⟩ = some (.int .i64 c) := by simp
  have hl : w.heap.size < (w.alloc (.cells #[.int .i64 r, .int .i64 c] 55)).heap.size := by simp
  generalize w.alloc (.cells #[.int .i64 r, .int .i64 c] 55) = w0 at hB0 q0 q1 hl ⊢
  go_region_held3 (fun w' => w'.cell? ⟨w.heap.size, 0, none⟩ = some (.int .i64 r) ∧ w'.cell? ⟨w.heap.size, 1, none⟩ = some (.int .i64 c)) (go_keep)
    (first
      | (go_at_call_of 62 (Value.int IntKind.i64 r); refine (M1.out _).mono ?_; rintro e w1 ⟨rfl, hb1⟩; have hl1 : w.heap.size < w1.heap.size := Nat.lt_of_lt_of_le hl hb1.size; have k0 := hb1.cell (p := ⟨w.heap.size, 0, none⟩) hl; have k1 := hb1.cell (p := ⟨w.heap.size, 1, none⟩) hl)
      | (go_at_call_of 62 (Value.int IntKind.i64 c); refine (M2.out _).mono ?_; rintro e w2 ⟨rfl, hb2⟩; have k2 := hb2.cell (p := ⟨w.heap.size, 0, none⟩) hl1; have k3 := hb2.cell (p := ⟨w.heap.size, 1, none⟩) hl1))
  go_wp2_with fail
  go_ret
  have hb1' : Below w0.heap.size w0 w1 := ⟨hb1.os, hb1.tape, hb1.output, hb1.size, hb1.block⟩
  exact ⟨rfl, bstep (bstep hB0 hb1') hb2⟩

theorem w64 (x : Int) (h0 : 0 ≤ x) (h1 : x < 4294967296) : wrap64 x = x := by unfold wrap64; omega
theorem getD_byte (b : ByteArray) (j : Nat) (h : j < b.size) : b.data.toList.getD j 0 = b[j] := by
  have hq : j < b.data.size := by rw [ByteArray.size_data]; exact h
  simp [List.getD, ByteArray.getElem_eq_getElem_data, Array.getElem?_eq_getElem hq]
set_option maxHeartbeats 1000000 in
theorem ref17_addr (b : ByteArray) (i : Nat) (hi : i + 2 < b.size) (hb : b.size ≤ 140737488351232) (w : World) :
    Calls Tryd.prog 70 #[.string b, .int .i64 i] w fun e w' => e = .returned (.agg #[.int .i64 ((b.data.toList.getD i 0).toNat * 256 + (b.data.toList.getD (i + 1) 0).toNat), .int .i64 (b.data.toList.getD (i + 2) 0).toNat]) ∧ Below w.heap.size w w' := by
  have i0 : (0 : Int) ≤ (i : Int) := by omega
  have i1 : (i : Int) < (b.size : Int) := by omega
  have i2 : (i : Int) + 1 < (b.size : Int) := by omega
  have i3 : (i : Int) + 2 < (b.size : Int) := by omega
  go_enter Tryd.func70, Tryd.ntmps70
  go_wp2_with fail
  have hb1 := (b.data.toList.getD i 0).toNat_lt
  have hb2 := (b.data.toList.getD (i + 1) 0).toNat_lt
  have j1 : (0 : Int) ≤ (i : Int) + 1 := by omega
  have j2 : (0 : Int) ≤ (i : Int) + 2 := by omega
  have n1 : ((i : Int) + 1).toNat = i + 1 := by omega
  have n2 : ((i : Int) + 2).toNat = i + 2 := by omega
  have s1 : IntKind.i64.wrap ((i : Int) + 1) = (i : Int) + 1 := IntWalk.i64_in _ (by omega)
  have s2 : IntKind.i64.wrap ((i : Int) + 2) = (i : Int) + 2 := IntWalk.i64_in _ (by omega)
  go_region
  have hB := (below_a1 w (.cells #[.int .i64 (wrap64 (wrap64 (wrap64 (b[i].toNat : Int) * 256) + wrap64 (b[i + 1].toNat : Int))), .int .i64 (wrap64 (b[i + 2].toNat : Int))] 55)).drew
  have q0 : ((w.alloc (.cells #[.int .i64 (wrap64 (wrap64 (wrap64 (b[i].toNat : Int) * 256) + wrap64 (b[i + 1].toNat : Int))), .int .i64 (wrap64 (b[i + 2].toNat : Int))] 55)).drew).cell? ⟨w.heap.size, 0, none⟩ = some (.int .i64 (wrap64 (wrap64 (wrap64 (b[i].toNat : Int) * 256) + wrap64 (b[i + 1].toNat : Int)))) := by simp
  have q1 : ((w.alloc (.cells #[.int .i64 (wrap64 (wrap64 (wrap64 (b[i].toNat : Int) * 256) + wrap64 (b[i + 1].toNat : Int))), .int .i64 (wrap64 (b[i + 2].toNat : Int))] 55)).drew).cell? ⟨w.heap.size, 1, none⟩ = some (.int .i64 (wrap64 (b[i + 2].toNat : Int))) := by simp
  have e0 : wrap64 (wrap64 (wrap64 (b[i].toNat : Int) * 256) + wrap64 (b[i + 1].toNat : Int)) = (b.data.toList.getD i 0).toNat * 256 + (b.data.toList.getD (i + 1) 0).toNat := by
    have x0 : b.data.toList.getD i 0 = b[i] := getD_byte b i (by omega)
    have x1 : b.data.toList.getD (i + 1) 0 = b[i + 1] := getD_byte b (i + 1) (by omega)
    rw [x0] at hb1 ⊢
    rw [x1] at hb2 ⊢
    rw [w64 (b[i].toNat : Int) (by omega) (by omega), w64 (b[i + 1].toNat : Int) (by omega) (by omega), w64 ((b[i].toNat : Int) * 256) (by omega) (by omega), w64 _ (by omega) (by omega)]
  have e1 : wrap64 (b[i + 2].toNat : Int) = (b.data.toList.getD (i + 2) 0).toNat := by
    have x2 : b.data.toList.getD (i + 2) 0 = b[i + 2] := getD_byte b (i + 2) (by omega)
    rw [x2]
    have := b[i + 2].toNat_lt
    rw [w64 _ (by omega) (by omega)]
  generalize (w.alloc (.cells #[.int .i64 (wrap64 (wrap64 (wrap64 (b[i].toNat : Int) * 256) + wrap64 (b[i + 1].toNat : Int))), .int .i64 (wrap64 (b[i + 2].toNat : Int))] 55)).drew = w1 at hB q0 q1 ⊢
  rw [e0] at q0
  rw [e1] at q1
  clear e0 e1 s1 s2
  go_wp2_with fail
  exact bodyPost_ret (v := .agg #[.int .i64 ((b.data.toList.getD i 0).toNat * 256 + (b.data.toList.getD (i + 1) 0).toNat), .int .i64 (b.data.toList.getD (i + 2) 0).toNat]) (by simp only [results, Tryd.results70]; simp [go_sem, q0, q1, -List.getD_eq_getElem?_getD]) rfl ⟨rfl, hB⟩

/-! ### Encode -/
theorem ref17_Encode_no (k ar ac fr fc tr tc : Int) (s : ByteArray) (hg : goodE k ar ac fr fc tr tc s = false) (w : World) :
    Calls Tryd.prog 35 #[.agg #[.int .i64 k, .int .i64 ar, .int .i64 ac, .int .i64 fr, .int .i64 fc, .int .i64 tr, .int .i64 tc, .string s]] w fun e w' => e = .returned (.tuple #[.string ⟨#[]⟩, .int .i64 11]) ∧ Below w.heap.size w w' := by
  go_enter Tryd.func35, Tryd.ntmps35
  go_wp2_with fail
  refine (ref17_Good _ _ _ _ _ _ _ _ _).mono ?_; rintro e w1 ⟨rfl, hb1⟩
  go_wp2_with fail
  go_ret2
  exact ⟨rfl, bstep (below_a1 _ _) hb1⟩
set_option maxRecDepth 100000 in
set_option maxHeartbeats 2000000 in
theorem ref17_Encode1 (ar ac : Int) (s : ByteArray) (hg : goodE 1 ar ac 0 0 0 0 s = true) (ha : goodA ar ac = true) (hs : s.size ≤ 300) (w : World) :
    Calls Tryd.prog 35 #[.agg #[.int .i64 1, .int .i64 ar, .int .i64 ac, .int .i64 0, .int .i64 0, .int .i64 0, .int .i64 0, .string s]] w fun e w' => e = .returned (.tuple #[.string ((numR 1 1).1 ++ ((numR ar 2).1 ++ (numR ac 1).1) ++ (textR s).1), .int .i64 0]) ∧ Below w.heap.size w w' := by
  have hbd := goodA_bd ha
  have z0 := numR_size 1 1
  obtain ⟨n, hn⟩ : ∃ n, n = (numR 1 1).1 := ⟨_, rfl⟩
  rw [← hn] at z0 ⊢
  have M0 := Lib.hid (ref16_Must 1 1 (by decide) (by decide)); rw [← hn] at M0
  clear hn
  have zA : ((numR ar 2).1 ++ (numR ac 1).1).size ≤ 16 := by rw [ByteArray.size_append]; have h1 := numR_size ar 2; have h2 := numR_size ac 1; omega
  have PA := Lib.hid (ref17_place ar ac (by omega) (by omega) (by omega) (by omega))
  obtain ⟨pA, hpA⟩ : ∃ p, p = (numR ar 2).1 ++ (numR ac 1).1 := ⟨_, rfl⟩
  rw [← hpA] at zA PA ⊢
  clear hpA
  have zt : (textR s).1.size ≤ 302 := by rw [textR, if_neg (by omega), ByteArray.size_append, strOfNums_size, lowBE_length]; omega
  have T0 := Lib.hid (ref16_Text s (by omega))
  have ec : (textR s).2 = 0 := by rw [textR, if_neg (by omega)]
  rw [ec] at T0
  obtain ⟨t, ht⟩ : ∃ t, t = (textR s).1 := ⟨_, rfl⟩
  rw [← ht] at zt T0 ⊢
  clear ht ec
  have q1 : n.size + pA.size ≤ 9223372036854775807 := by omega
  have q2 : (n ++ pA).size + t.size ≤ 9223372036854775807 := by rw [ByteArray.size_append]; omega
  go_enter Tryd.func35, Tryd.ntmps35
  go_wp2_with fail
  refine (ref17_Good _ _ _ _ _ _ _ _ _).mono ?_; rintro e w1 ⟨rfl, hb1⟩
  have bx1 := blk_below (blk_new w (.cells #[.int .i64 1, .int .i64 ar, .int .i64 ac, .int .i64 0, .int .i64 0, .int .i64 0, .int .i64 0, .string s] 59)) hb1
  have hB1 := bstep (below_a1 _ _) hb1
  clear hb1
  have Bx1 := Lib.hid bx1; have hx1 := blk_cell bx1; clear bx1
  go_wp2_with fail
  refine (M0.out _).mono ?_; rintro e w2 ⟨rfl, hb2⟩
  have bx2 := blk_below Bx1.out hb2
  have hB2 := bstep hB1 hb2
  have Bx2 := Lib.hid bx2; have hx2 := blk_cell bx2; clear bx2 hx1 hB1 hb2
  go_wp2_with fail
  refine (T0.out _).mono ?_; rintro e w3 ⟨rfl, hb3⟩
  have bx3 := blk_below Bx2.out hb3
  have hB3 := bstep hB2 hb3
  have Bx3 := Lib.hid bx3; have hx3 := blk_cell bx3; clear bx3 hx2 hB2 hb3
  go_wp2_with fail
  refine (PA.out _).mono ?_; rintro e w4 ⟨rfl, hb4⟩
  have hB4 := bstep hB3 hb4
  go_wp2_with fail
  go_ret2
  exact ⟨rfl, hB4⟩
set_option maxRecDepth 100000 in
set_option maxHeartbeats 2000000 in
theorem ref17_Encode2 (ar ac : Int) (hg : goodE 2 ar ac 0 0 0 0 ⟨#[]⟩ = true) (ha : goodA ar ac = true) (w : World) :
    Calls Tryd.prog 35 #[.agg #[.int .i64 2, .int .i64 ar, .int .i64 ac, .int .i64 0, .int .i64 0, .int .i64 0, .int .i64 0, .string ⟨#[]⟩]] w fun e w' => e = .returned (.tuple #[.string ((numR 2 1).1 ++ ((numR ar 2).1 ++ (numR ac 1).1)), .int .i64 0]) ∧ Below w.heap.size w w' := by
  have hbd := goodA_bd ha
  have z0 := numR_size 2 1
  obtain ⟨n, hn⟩ : ∃ n, n = (numR 2 1).1 := ⟨_, rfl⟩
  rw [← hn] at z0 ⊢
  have M0 := Lib.hid (ref16_Must 2 1 (by decide) (by decide)); rw [← hn] at M0
  clear hn
  have zA : ((numR ar 2).1 ++ (numR ac 1).1).size ≤ 16 := by rw [ByteArray.size_append]; have h1 := numR_size ar 2; have h2 := numR_size ac 1; omega
  have PA := Lib.hid (ref17_place ar ac (by omega) (by omega) (by omega) (by omega))
  obtain ⟨pA, hpA⟩ : ∃ p, p = (numR ar 2).1 ++ (numR ac 1).1 := ⟨_, rfl⟩
  rw [← hpA] at zA PA ⊢
  clear hpA
  have q1 : n.size + pA.size ≤ 9223372036854775807 := by omega
  go_enter Tryd.func35, Tryd.ntmps35
  go_wp2_with fail
  refine (ref17_Good _ _ _ _ _ _ _ _ _).mono ?_; rintro e w1 ⟨rfl, hb1⟩
  have bx1 := blk_below (blk_new w (.cells #[.int .i64 2, .int .i64 ar, .int .i64 ac, .int .i64 0, .int .i64 0, .int .i64 0, .int .i64 0, .string ⟨#[]⟩] 59)) hb1
  have hB1 := bstep (below_a1 _ _) hb1
  clear hb1
  have Bx1 := Lib.hid bx1; have hx1 := blk_cell bx1; clear bx1
  go_wp2_with fail
  refine (M0.out _).mono ?_; rintro e w2 ⟨rfl, hb2⟩
  have bx2 := blk_below Bx1.out hb2
  have hB2 := bstep hB1 hb2
  have Bx2 := Lib.hid bx2; have hx2 := blk_cell bx2; clear bx2 hx1 hB1 hb2
  go_wp2_with fail
  refine (PA.out _).mono ?_; rintro e w4 ⟨rfl, hb4⟩
  have hB4 := bstep hB2 hb4
  go_wp2_with fail
  go_ret2
  exact ⟨rfl, hB4⟩
set_option maxRecDepth 100000 in
set_option maxHeartbeats 2000000 in
theorem ref17_Encode3 (fr fc tr tc : Int) (hg : goodE 3 0 0 fr fc tr tc ⟨#[]⟩ = true) (ha : goodA fr fc = true) (hb : goodA tr tc = true) (w : World) :
    Calls Tryd.prog 35 #[.agg #[.int .i64 3, .int .i64 0, .int .i64 0, .int .i64 fr, .int .i64 fc, .int .i64 tr, .int .i64 tc, .string ⟨#[]⟩]] w fun e w' => e = .returned (.tuple #[.string ((numR 3 1).1 ++ ((numR fr 2).1 ++ (numR fc 1).1) ++ ((numR tr 2).1 ++ (numR tc 1).1)), .int .i64 0]) ∧ Below w.heap.size w w' := by
  have hbd := goodA_bd ha
  have hbe := goodA_bd hb
  have z0 := numR_size 3 1
  obtain ⟨n, hn⟩ : ∃ n, n = (numR 3 1).1 := ⟨_, rfl⟩
  rw [← hn] at z0 ⊢
  have M0 := Lib.hid (ref16_Must 3 1 (by decide) (by decide)); rw [← hn] at M0
  clear hn
  have zA : ((numR fr 2).1 ++ (numR fc 1).1).size ≤ 16 := by rw [ByteArray.size_append]; have h1 := numR_size fr 2; have h2 := numR_size fc 1; omega
  have PA := Lib.hid (ref17_place fr fc (by omega) (by omega) (by omega) (by omega))
  obtain ⟨pA, hpA⟩ : ∃ p, p = (numR fr 2).1 ++ (numR fc 1).1 := ⟨_, rfl⟩
  rw [← hpA] at zA PA ⊢
  clear hpA
  have zB : ((numR tr 2).1 ++ (numR tc 1).1).size ≤ 16 := by rw [ByteArray.size_append]; have h1 := numR_size tr 2; have h2 := numR_size tc 1; omega
  have PB := Lib.hid (ref17_place tr tc (by omega) (by omega) (by omega) (by omega))
  obtain ⟨pB, hpB⟩ : ∃ p, p = (numR tr 2).1 ++ (numR tc 1).1 := ⟨_, rfl⟩
  rw [← hpB] at zB PB ⊢
  clear hpB
  have q1 : ¬ 9223372036854775807 < n.size + pA.size := by omega
  have q2 : ¬ 9223372036854775807 < n.size + pA.size + pB.size := by omega
  go_enter Tryd.func35, Tryd.ntmps35
  go_wp2_with fail
  refine (ref17_Good _ _ _ _ _ _ _ _ _).mono ?_; rintro e w1 ⟨rfl, hb1⟩
  have bx1 := blk_below (blk_new w (.cells #[.int .i64 3, .int .i64 0, .int .i64 0, .int .i64 fr, .int .i64 fc, .int .i64 tr, .int .i64 tc, .string ⟨#[]⟩] 59)) hb1
  have hB1 := bstep (below_a1 _ _) hb1
  clear hb1
  have Bx1 := Lib.hid bx1; have hx1 := blk_cell bx1; clear bx1
  go_wp2_with fail
  refine (M0.out _).mono ?_; rintro e w2 ⟨rfl, hb2⟩
  have bx2 := blk_below Bx1.out hb2
  have hB2 := bstep hB1 hb2
  have Bx2 := Lib.hid bx2; have hx2 := blk_cell bx2; clear bx2 hx1 hB1 hb2
  go_wp2_with fail
  have hl2 := blk_lt Bx2.out
  have c3 := hx2 3; have c4 := hx2 4; have c5 := hx2 5; have c6 := hx2 6
  simp only [List.getElem?_toArray, List.getElem?_cons_zero, List.getElem?_cons_succ] at c3 c4 c5 c6
  clear hx2
  go_region_held3 (fun w' => w'.cell? ⟨w.heap.size, 3, none⟩ = some (.int .i64 fr) ∧ w'.cell? ⟨w.heap.size, 4, none⟩ = some (.int .i64 fc) ∧ w'.cell? ⟨w.heap.size, 5, none⟩ = some (.int .i64 tr) ∧ w'.cell? ⟨w.heap.size, 6, none⟩ = some (.int .i64 tc)) (go_keep)
    (first
      | (go_at_call_of 67 (Value.agg #[Value.int IntKind.i64 fr, Value.int IntKind.i64 fc]); refine (PA.out _).mono ?_; rintro e w3 ⟨rfl, hb3⟩; have hl3 : w.heap.size < w3.heap.size := Nat.lt_of_lt_of_le hl2 hb3.size; have k3 := hb3.cell (p := ⟨w.heap.size, 3, none⟩) hl2; have k4 := hb3.cell (p := ⟨w.heap.size, 4, none⟩) hl2; have k5 := hb3.cell (p := ⟨w.heap.size, 5, none⟩) hl2; have k6 := hb3.cell (p := ⟨w.heap.size, 6, none⟩) hl2)
      | (go_at_call_of 67 (Value.agg #[Value.int IntKind.i64 tr, Value.int IntKind.i64 tc]); refine (PB.out _).mono ?_; rintro e w4 ⟨rfl, hb4⟩; have j3 := hb4.cell (p := ⟨w.heap.size, 3, none⟩) hl3; have j4 := hb4.cell (p := ⟨w.heap.size, 4, none⟩) hl3; have j5 := hb4.cell (p := ⟨w.heap.size, 5, none⟩) hl3; have j6 := hb4.cell (p := ⟨w.heap.size, 6, none⟩) hl3))
  go_wp2_with fail
  go_ret2
  have hb3' : Below w2.heap.size w2 w3 := ⟨hb3.os, hb3.tape, hb3.output, hb3.size, hb3.block⟩
  exact ⟨rfl, bstep (bstep hB2 hb3') hb4⟩

theorem app_empty (x : ByteArray) : (⟨#[]⟩ : ByteArray) ++ x = x := by apply bytes_ext; rw [list_append]; simp
theorem edit_Encode (k ar ac fr fc tr tc : Int) (s : ByteArray) (w : World) (he : EtIs w) :
    Calls Tryd.prog 34 #[.agg #[.int .i64 k, .int .i64 ar, .int .i64 ac, .int .i64 fr, .int .i64 fc, .int .i64 tr, .int .i64 tc, .string s]] w fun e w' => e = .returned (.tuple #[.string (encR k ar ac fr fc tr tc s).1, .int .i64 (encR k ar ac fr fc tr tc s).2]) ∧ Below w.heap.size w w' := by
  cases hg : goodE k ar ac fr fc tr tc s with
  | false =>
    have e1 : encR k ar ac fr fc tr tc s = (⟨#[]⟩, 11) := by rw [encR, if_pos hg]
    rw [e1]; exact edit_Encode_no k ar ac fr fc tr tc s hg w
  | true =>
    rcases goodE_cases hg with ⟨rfl, ha, hs, rfl, rfl, rfl, rfl⟩ | ⟨rfl, ha, rfl, rfl, rfl, rfl, rfl⟩ | ⟨rfl, ha, hb, rfl, rfl, rfl, _⟩
    · rw [encR, if_neg (by rw [hg]; decide), if_pos rfl]; exact edit_Encode1 ar ac s hg ha hs w he
    · rw [encR, if_neg (by rw [hg]; decide), if_neg (by decide), if_pos rfl]; exact edit_Encode2 ar ac hg ha w he
    · rw [encR, if_neg (by rw [hg]; decide), if_neg (by decide), if_neg (by decide)]; exact edit_Encode3 fr fc tr tc hg ha hb w he
theorem ref17_Encode (k ar ac fr fc tr tc : Int) (s : ByteArray) (w : World) :
    Calls Tryd.prog 35 #[.agg #[.int .i64 k, .int .i64 ar, .int .i64 ac, .int .i64 fr, .int .i64 fc, .int .i64 tr, .int .i64 tc, .string s]] w fun e w' => e = .returned (.tuple #[.string (encR k ar ac fr fc tr tc s).1, .int .i64 (encR k ar ac fr fc tr tc s).2]) ∧ Below w.heap.size w w' := by
  cases hg : goodE k ar ac fr fc tr tc s with
  | false =>
    have e1 : encR k ar ac fr fc tr tc s = (⟨#[]⟩, 11) := by rw [encR, if_pos hg]
    rw [e1]; exact ref17_Encode_no k ar ac fr fc tr tc s hg w
  | true =>
    rcases goodE_cases hg with ⟨rfl, ha, hs, rfl, rfl, rfl, rfl⟩ | ⟨rfl, ha, rfl, rfl, rfl, rfl, rfl⟩ | ⟨rfl, ha, hb, rfl, rfl, rfl, _⟩
    · rw [encR, if_neg (by rw [hg]; decide), if_pos rfl]
      have := ref17_Encode1 ar ac s hg ha hs w
      simp only [app_empty, ByteArray.append_assoc] at this ⊢; exact this
    · rw [encR, if_neg (by rw [hg]; decide), if_neg (by decide), if_pos rfl]
      have := ref17_Encode2 ar ac hg ha w
      simp only [app_empty, ByteArray.append_assoc] at this ⊢; exact this
    · rw [encR, if_neg (by rw [hg]; decide), if_neg (by decide), if_neg (by decide)]
      have := ref17_Encode3 fr fc tr tc hg ha hb w
      simp only [app_empty, ByteArray.append_assoc] at this ⊢; exact this

/-! ### Decode -/
def byI (b : ByteArray) (i : Nat) : Int := ((b.data.toList.getD i 0).toNat : Int)
theorem valBE1 (c : UInt8) : valBE [c] = c.toNat := by simp [valBE]
theorem valBE2 (c d : UInt8) : valBE [c, d] = c.toNat * 256 + d.toNat := by simp [valBE]
theorem takeR1_in {b : ByteArray} {i : Nat} (h : i < b.size) : takeR b i 1 = (byI b i, (i : Int) + 1, 0) := by
  have hl : i < b.data.toList.length := by rw [size_list]; exact h
  unfold takeR
  rw [if_neg (by decide), if_neg (by omega)]
  have : (b.data.toList.drop (i : Int).toNat).take (1 : Int).toNat = [b.data.toList.getD i 0] := by
    rw [Int.toNat_natCast, List.drop_eq_getElem_cons hl, List.getD, List.getElem?_eq_getElem hl]; rfl
  rw [this, valBE1]; rfl
theorem takeR1_out {b : ByteArray} {i : Nat} (h : ¬ i < b.size) : (takeR b i 1).2.2 = 11 := by
  unfold takeR
  rw [if_neg (by decide), if_pos (by omega)]
theorem takeR2_in {b : ByteArray} {i : Nat} (h : i + 1 < b.size) : takeR b i 2 = (byI b i * 256 + byI b (i + 1), (i : Int) + 2, 0) := by
  have hl : i + 1 < b.data.toList.length := by rw [size_list]; exact h
  unfold takeR
  rw [if_neg (by decide), if_neg (by omega)]
  have : (b.data.toList.drop (i : Int).toNat).take (2 : Int).toNat = [b.data.toList.getD i 0, b.data.toList.getD (i + 1) 0] := by
    rw [Int.toNat_natCast, List.drop_eq_getElem_cons (Nat.lt_of_succ_lt hl), List.drop_eq_getElem_cons hl, List.getD, List.getD, List.getElem?_eq_getElem hl, List.getElem?_eq_getElem (Nat.lt_of_succ_lt hl)]; rfl
  rw [this, valBE2]; rfl
theorem takeR2_out {b : ByteArray} {i : Nat} (h : ¬ i + 1 < b.size) : (takeR b i 2).2.2 = 11 := by
  unfold takeR
  rw [if_neg (by decide), if_pos (by omega)]
theorem rdR_bad (b : ByteArray) (a n : Int) : rdR b a true n = (0, a, true) := by simp [rdR]
theorem rdCell_bad (b : ByteArray) (a : Int) : (rdCell b a true).2.2.2 = true := by simp [rdCell, rdR_bad]
theorem rdCell_in {b : ByteArray} {i : Nat} (h : i + 2 < b.size) : rdCell b i false = (byI b i * 256 + byI b (i + 1), byI b (i + 2), (i : Int) + 3, false) := by
  have e1 : rdR b i false 2 = (byI b i * 256 + byI b (i + 1), (i : Int) + 2, false) := by
    unfold rdR; rw [takeR2_in (by omega)]; rfl
  have e2 : rdR b ((i : Int) + 2) false 1 = (byI b (i + 2), (i : Int) + 3, false) := by
    have e : (i : Int) + 2 = ((i + 2 : Nat) : Int) := by omega
    unfold rdR; rw [e, takeR1_in h]
    have e' : ((i + 2 : Nat) : Int) + 1 = (i : Int) + 3 := by omega
    rw [e']; rfl
  unfold rdCell
  rw [e1]; simp only; rw [e2]
theorem rdCell_out {b : ByteArray} {i : Nat} (h : ¬ i + 2 < b.size) : (rdCell b i false).2.2.2 = true := by
  unfold rdCell
  by_cases h1 : i + 1 < b.size
  · have e1 : rdR b i false 2 = (byI b i * 256 + byI b (i + 1), (i : Int) + 2, false) := by
      unfold rdR; rw [takeR2_in h1]; rfl
    rw [e1]
    have e : (i : Int) + 2 = ((i + 2 : Nat) : Int) := by omega
    simp only [e, rdR, takeR1_out h]; rfl
  · have e1 : (rdR b i false 2).2.2 = true := by unfold rdR; simp only [takeR2_out h1]; rfl
    simp only [e1, rdR_bad]
end Go.Proofs.YtlpdanghcdajmaaDoor
