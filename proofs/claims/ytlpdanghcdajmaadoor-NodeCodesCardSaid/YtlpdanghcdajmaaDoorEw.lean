/- The walks of edit's writer and of edit.Encode. -/
import Derived.Test.YtlpdanghcdajmaaDoorEe
import Derived.Test.YtlpdanghcdajmaaDoorFr
import Derived.Test.YtlpdanghcdajmaaDoorPuB
namespace Go.Proofs.YtlpdanghcdajmaaDoor
open Go.RowKit

theorem numR_size (v n : Int) : (numR v n).1.size ≤ 8 := by
  unfold numR
  split
  · exact Nat.zero_le _
  · split
    · exact Nat.zero_le _
    · rename_i h _
      rw [strOfNums_size, lowBE_length]
      have : sizeB n = true := by cases hx : sizeB n <;> simp_all
      have := sizeB_cases this
      omega
/-- The writer at block p holds s. -/
def IsWr (w : World) (p : Nat) (s : ByteArray) : Prop := w.heap[p]? = some (.cells #[.string s] 116 (0, 0))
theorem wr_num (p : Nat) (s : ByteArray) (v n : Int) (h0 : 0 ≤ v) (h1 : v < 9223372036854775808) (hs : s.size ≤ 1000000) (w : World) (he : EtIs w) (hp : IsWr w p s) (hpe : p ≠ 1) :
    Calls Tryd.prog 65 #[.pointer (some ⟨p, 0, none⟩), .int .i64 v, .int .i64 n] w fun e w' => e = .returned (.tuple #[]) ∧ IsWr w' p (s ++ (numR v n).1) ∧ Fr (· = p) w w' ∧ EtIs w' := by
  have hw : IntKind.u64.wrap v = v := by rw [IntKind.wrap_u64, Int.emod_eq_of_lt h0 (by omega)]
  have Hw := Lib.hid hw; clear hw
  have Hp := Lib.hid hp; clear hp
  have hz := numR_size v n
  obtain ⟨x, c, hx⟩ : ∃ x c, numR v n = (x, c) := ⟨_, _, rfl⟩
  rw [hx] at hz ⊢
  have Hx := Lib.hid hx; clear hx
  have hxs : s.size + x.size ≤ 9223372036854775807 := by simp only at hz; omega
  clear hz
  go_enter Tryd.func65, Tryd.ntmps65
  go_wp2_with fail
  try rw [Hw.out]
  refine (pack_Num_eq Hx.out h0 (by omega) _ he).mono ?_; rintro e w1 ⟨rfl, hb1⟩
  have Hq := Lib.hid (blk_below Hp.out hb1)
  have he1 := he.below hb1
  have hc1 := blk_cell Hq.out 0
  have hf1 := blk_frozen Hq.out 0
  simp only [List.getElem?_toArray, List.getElem?_cons_zero] at hc1
  go_wp2_with fail
  go_end0
  have hfr : Fr (· = p) w (w1.setCell ⟨p, 0, none⟩ (.string (s ++ x))) := (Fr.of_below (S := (· = p)) hb1).setCell (p := ⟨p, 0, none⟩) (.inl rfl) _
  refine ⟨rfl, ?_, hfr, ?_⟩
  · have := blk_set Hq.out 0 (.string (s ++ x))
    simpa [IsWr] using this
  · have hl := he.lt
    unfold EtIs at he ⊢
    rw [hfr.cell hl (Ne.symm hpe)]; exact he
theorem wr_cell (p : Nat) (s : ByteArray) (r c : Int) (h0 : 0 ≤ r) (h1 : r < 9223372036854775808) (k0 : 0 ≤ c) (k1 : c < 9223372036854775808) (hs : s.size ≤ 100000) (w : World) (he : EtIs w) (hp : IsWr w p s) (hpe : p ≠ 1) :
    Calls Tryd.prog 66 #[.pointer (some ⟨p, 0, none⟩), .agg #[.int .i64 r, .int .i64 c]] w fun e w' => e = .returned (.tuple #[]) ∧ IsWr w' p (s ++ (numR r 2).1 ++ (numR c 1).1) ∧ Fr (· = p) w w' ∧ EtIs w' := by
  have hz := numR_size r 2
  have hpl : p ≠ w.heap.size := Nat.ne_of_lt (blk_lt hp)
  go_enter Tryd.func66, Tryd.ntmps66
  go_wp2_with fail
  have hpa : IsWr (w.alloc (.cells #[.int .i64 r, .int .i64 c] 55)) p s := blk_alloc hp
  refine (wr_num p s r 2 h0 h1 (by omega) _ (he.alloc _) hpa hpe).mono ?_; rintro e w1 ⟨rfl, hp1, hf1, he1⟩
  have hb := (blk_new w (.cells #[.int .i64 r, .int .i64 c] 55))
  have Hq := Lib.hid (blk_fr hb hf1 (Ne.symm hpl))
  clear hb
  have hc1 := blk_cell Hq.out 1
  simp only [List.getElem?_toArray, List.getElem?_cons_zero, List.getElem?_cons_succ] at hc1
  go_wp2_with fail
  refine (wr_num p _ c 1 k0 k1 (by rw [ByteArray.size_append]; omega) _ he1 hp1 hpe).mono ?_; rintro e w2 ⟨rfl, hp2, hf2, he2⟩
  go_wp2_with fail
  go_end0
  exact ⟨rfl, hp2, ((Fr.refl _ _).alloc _).trans (hf1.trans hf2), he2⟩
/-- An edit's bytes. -/
def encR (k ar ac fr fc tr tc : Int) (s : ByteArray) : ByteArray × Int :=
  if goodE k ar ac fr fc tr tc s = false then (⟨#[]⟩, 11)
  else if k = 1 then ((⟨#[]⟩ : ByteArray) ++ (numR 1 1).1 ++ (numR ar 2).1 ++ (numR ac 1).1 ++ (textR s).1, 0)
  else if k = 2 then ((⟨#[]⟩ : ByteArray) ++ (numR 2 1).1 ++ (numR ar 2).1 ++ (numR ac 1).1, 0)
  else ((⟨#[]⟩ : ByteArray) ++ (numR 3 1).1 ++ (numR fr 2).1 ++ (numR fc 1).1 ++ (numR tr 2).1 ++ (numR tc 1).1, 0)
theorem goodA_bd {r c : Int} (h : goodA r c = true) : 1 ≤ r ∧ r ≤ 1000 ∧ 1 ≤ c ∧ c ≤ 50 := by
  simp [goodA] at h; omega
theorem goodE_cases {k ar ac fr fc tr tc : Int} {s : ByteArray} (h : goodE k ar ac fr fc tr tc s = true) :
    (k = 1 ∧ goodA ar ac = true ∧ s.size ≤ 300 ∧ fr = 0 ∧ fc = 0 ∧ tr = 0 ∧ tc = 0) ∨ (k = 2 ∧ goodA ar ac = true ∧ s = ⟨#[]⟩ ∧ fr = 0 ∧ fc = 0 ∧ tr = 0 ∧ tc = 0) ∨ (k = 3 ∧ goodA fr fc = true ∧ goodA tr tc = true ∧ s = ⟨#[]⟩ ∧ ar = 0 ∧ ac = 0 ∧ fr ≤ tr ∧ fc ≤ tc) := by
  have he : s.toList.isEmpty = true → s = ⟨#[]⟩ := fun h => by
    apply bytes_ext; rw [← ByteArray.toList_eq]; simpa using h
  unfold goodE at h
  split at h
  · rename_i hk; simp [zero4] at h; exact .inl ⟨hk, h.1.1, by omega, by omega⟩
  · split at h
    · rename_i hk; simp only [Bool.and_eq_true, zero4, beq_iff_eq] at h; exact .inr (.inl ⟨hk, h.1.1, he h.2, by omega⟩)
    · split at h
      · rename_i hk; simp only [Bool.and_eq_true, fineR, beq_iff_eq, decide_eq_true_eq] at h; exact .inr (.inr ⟨hk, h.1.2.1.1.1, h.1.2.1.1.2, he h.2, by omega⟩)
      · exact absurd h (by decide)
theorem edit_Encode_no (k ar ac fr fc tr tc : Int) (s : ByteArray) (hg : goodE k ar ac fr fc tr tc s = false) (w : World) :
    Calls Tryd.prog 34 #[.agg #[.int .i64 k, .int .i64 ar, .int .i64 ac, .int .i64 fr, .int .i64 fc, .int .i64 tr, .int .i64 tc, .string s]] w fun e w' => e = .returned (.tuple #[.string ⟨#[]⟩, .int .i64 11]) ∧ Below w.heap.size w w' := by
  go_enter Tryd.func34, Tryd.ntmps34
  go_wp2_with fail
  refine (edit_Good _ _ _ _ _ _ _ _ _).mono ?_; rintro e w1 ⟨rfl, hb1⟩
  go_wp2_with fail
  go_ret2
  exact ⟨rfl, bstep (below_a1 _ _) hb1⟩
set_option maxRecDepth 100000 in
set_option maxHeartbeats 2000000 in
theorem edit_Encode1 (ar ac : Int) (s : ByteArray) (hg : goodE 1 ar ac 0 0 0 0 s = true) (ha : goodA ar ac = true) (hs : s.size ≤ 300) (w : World) (he : EtIs w) :
    Calls Tryd.prog 34 #[.agg #[.int .i64 1, .int .i64 ar, .int .i64 ac, .int .i64 0, .int .i64 0, .int .i64 0, .int .i64 0, .string s]] w fun e w' => e = .returned (.tuple #[.string ((⟨#[]⟩ : ByteArray) ++ (numR 1 1).1 ++ (numR ar 2).1 ++ (numR ac 1).1 ++ (textR s).1), .int .i64 0]) ∧ Below w.heap.size w w' := by
  have ht : textR s = (strOfNums (lowBE s.size 2) ++ s, 0) := by rw [textR, if_neg (by omega)]
  have hts : (strOfNums (lowBE s.size 2) ++ s).size ≤ 302 := by rw [ByteArray.size_append, strOfNums_size, lowBE_length]; omega
  obtain ⟨T, hT⟩ : ∃ T, T = strOfNums (lowBE s.size 2) ++ s := ⟨_, rfl⟩
  have e1 : (textR s).1 = T := by rw [ht, hT]
  rw [← hT] at ht hts
  obtain ⟨X, hX⟩ : ∃ X, X = (⟨#[]⟩ : ByteArray) ++ (numR 1 1).1 ++ (numR ar 2).1 ++ (numR ac 1).1 := ⟨_, rfl⟩
  rw [e1, ← hX]
  have hXs : X.size + T.size ≤ 9223372036854775807 := by
    have h0 : (⟨#[]⟩ : ByteArray).size = 0 := rfl
    have h1 := numR_size 1 1
    have h2 := numR_size ar 2
    have h3 := numR_size ac 1
    rw [hX]; simp only [ByteArray.size_append]; omega
  have Ht := Lib.hid ht
  have HX := Lib.hid hX
  clear hT ht e1 hX
  have hbd := goodA_bd ha
  have hlt := he.lt
  go_enter Tryd.func34, Tryd.ntmps34
  go_wp2_with fail
  refine (edit_Good _ _ _ _ _ _ _ _ _).mono ?_; rintro e w1 ⟨rfl, hb1⟩
  have bx1 := blk_below (blk_new w (.cells #[.int .i64 1, .int .i64 ar, .int .i64 ac, .int .i64 0, .int .i64 0, .int .i64 0, .int .i64 0, .string s] 59)) hb1
  have he1 := (he.alloc _).below hb1
  have hB1 := bstep (below_a1 _ _) hb1
  clear hb1
  have Bx1 := Lib.hid bx1; have hx1 := blk_cell bx1; clear bx1
  have hz : w.heap.size < w1.heap.size := blk_lt Bx1.out
  go_wp2_with fail
  obtain ⟨p, hpd⟩ : ∃ p, p = w1.heap.size := ⟨_, rfl⟩
  have hpb : w.heap.size ≠ p := by omega
  have hpe : p ≠ 1 := by omega
  have hp1 : IsWr (w1.alloc (.cells #[.string ⟨#[]⟩] 116)) p ⟨#[]⟩ := by rw [hpd]; exact blk_new _ _
  have bx2 := blk_alloc (o := .cells #[.string ⟨#[]⟩] 116) Bx1.out
  have he2 := he1.alloc (.cells #[.string ⟨#[]⟩] 116)
  have hF0 : Fr (fun b => w.heap.size ≤ b) w (w1.alloc (.cells #[.string ⟨#[]⟩] 116)) := (Fr.of_below hB1).alloc _
  generalize hW2 : w1.alloc (.cells #[.string ⟨#[]⟩] 116) = w2 at hp1 bx2 he2 hF0 ⊢
  rw [← hpd]
  have hpw : w.heap.size ≤ p := by omega
  clear hpd hW2 hx1 Bx1 he1 hB1 hz
  have hz3 := numR_size 1 1
  refine (wr_num p _ 1 1 (by omega) (by omega) (by have h0 : (⟨#[]⟩ : ByteArray).size = 0 := rfl; first | omega | (simp only [ByteArray.size_append]; omega)) _ he2 hp1 hpe).mono ?_; rintro e w3 ⟨rfl, hp3, hf3, he3⟩
  have bx3 := blk_fr bx2 hf3 hpb
  have hF3 : Fr (fun b => w.heap.size ≤ b) w w3 := hF0.shrink hf3 (fun k _ h => by subst h; exact hpw)
  have hx3 := blk_cell bx3
  have Bx3 := Lib.hid bx3; clear bx3
  go_wp2_with fail
  have hz4 := numR_size ar 2
  have hy4 := numR_size ac 1
  refine (wr_cell p _ ar ac (by omega) (by omega) (by omega) (by omega) (by have h0 : (⟨#[]⟩ : ByteArray).size = 0 := rfl; first | omega | (simp only [ByteArray.size_append]; omega)) _ he3 hp3 hpe).mono ?_; rintro e w4 ⟨rfl, hp4, hf4, he4⟩
  have bx4 := blk_fr Bx3.out hf4 hpb
  have hF4 : Fr (fun b => w.heap.size ≤ b) w w4 := hF3.shrink hf4 (fun k _ h => by subst h; exact hpw)
  have hx4 := blk_cell bx4
  have Bx4 := Lib.hid bx4; clear bx4
  go_wp2_with fail
  rw [← HX.out] at hp4
  have Hp := Lib.hid hp4
  refine (pack_Text_eq Ht.out (by omega) _ he4).mono ?_; rintro e w5 ⟨rfl, hb5⟩
  have hp5 : IsWr w5 p _ := blk_below Hp.out hb5
  have hF5 := hF4.trans (Fr.of_below hb5)
  have hq5 := blk_cell hp5 0
  have hr5 := blk_frozen hp5 0
  simp only [List.getElem?_toArray, List.getElem?_cons_zero] at hq5
  go_wp2_with fail
  go_ret2
  refine ⟨rfl, Fr.below (Fr.shrink (T := fun _ => False) (Fr.refl _ w) (hF5.setCell (p := ⟨p, 0, none⟩) (.inl hpw) _) (fun k h1 h2 => absurd h2 (by omega)))⟩
set_option maxRecDepth 100000 in
set_option maxHeartbeats 2000000 in
theorem edit_Encode2 (ar ac : Int) (hg : goodE 2 ar ac 0 0 0 0 ⟨#[]⟩ = true) (ha : goodA ar ac = true) (w : World) (he : EtIs w) :
    Calls Tryd.prog 34 #[.agg #[.int .i64 2, .int .i64 ar, .int .i64 ac, .int .i64 0, .int .i64 0, .int .i64 0, .int .i64 0, .string ⟨#[]⟩]] w fun e w' => e = .returned (.tuple #[.string ((⟨#[]⟩ : ByteArray) ++ (numR 2 1).1 ++ (numR ar 2).1 ++ (numR ac 1).1), .int .i64 0]) ∧ Below w.heap.size w w' := by
  have hbd := goodA_bd ha
  have hlt := he.lt
  go_enter Tryd.func34, Tryd.ntmps34
  go_wp2_with fail
  refine (edit_Good _ _ _ _ _ _ _ _ _).mono ?_; rintro e w1 ⟨rfl, hb1⟩
  have bx1 := blk_below (blk_new w (.cells #[.int .i64 2, .int .i64 ar, .int .i64 ac, .int .i64 0, .int .i64 0, .int .i64 0, .int .i64 0, .string ⟨#[]⟩] 59)) hb1
  have he1 := (he.alloc _).below hb1
  have hB1 := bstep (below_a1 _ _) hb1
  clear hb1
  have Bx1 := Lib.hid bx1; have hx1 := blk_cell bx1; clear bx1
  have hz : w.heap.size < w1.heap.size := blk_lt Bx1.out
  go_wp2_with fail
  obtain ⟨p, hpd⟩ : ∃ p, p = w1.heap.size := ⟨_, rfl⟩
  have hpb : w.heap.size ≠ p := by omega
  have hpe : p ≠ 1 := by omega
  have hp1 : IsWr (w1.alloc (.cells #[.string ⟨#[]⟩] 116)) p ⟨#[]⟩ := by rw [hpd]; exact blk_new _ _
  have bx2 := blk_alloc (o := .cells #[.string ⟨#[]⟩] 116) Bx1.out
  have he2 := he1.alloc (.cells #[.string ⟨#[]⟩] 116)
  have hF0 : Fr (fun b => w.heap.size ≤ b) w (w1.alloc (.cells #[.string ⟨#[]⟩] 116)) := (Fr.of_below hB1).alloc _
  generalize hW2 : w1.alloc (.cells #[.string ⟨#[]⟩] 116) = w2 at hp1 bx2 he2 hF0 ⊢
  rw [← hpd]
  have hpw : w.heap.size ≤ p := by omega
  clear hpd hW2 hx1 Bx1 he1 hB1 hz
  have hz3 := numR_size 2 1
  refine (wr_num p _ 2 1 (by omega) (by omega) (by have h0 : (⟨#[]⟩ : ByteArray).size = 0 := rfl; first | omega | (simp only [ByteArray.size_append]; omega)) _ he2 hp1 hpe).mono ?_; rintro e w3 ⟨rfl, hp3, hf3, he3⟩
  have bx3 := blk_fr bx2 hf3 hpb
  have hF3 : Fr (fun b => w.heap.size ≤ b) w w3 := hF0.shrink hf3 (fun k _ h => by subst h; exact hpw)
  have hx3 := blk_cell bx3
  have Bx3 := Lib.hid bx3; clear bx3
  go_wp2_with fail
  have hz4 := numR_size ar 2
  have hy4 := numR_size ac 1
  refine (wr_cell p _ ar ac (by omega) (by omega) (by omega) (by omega) (by have h0 : (⟨#[]⟩ : ByteArray).size = 0 := rfl; first | omega | (simp only [ByteArray.size_append]; omega)) _ he3 hp3 hpe).mono ?_; rintro e w4 ⟨rfl, hp4, hf4, he4⟩
  have bx4 := blk_fr Bx3.out hf4 hpb
  have hF4 : Fr (fun b => w.heap.size ≤ b) w w4 := hF3.shrink hf4 (fun k _ h => by subst h; exact hpw)
  have hx4 := blk_cell bx4
  have Bx4 := Lib.hid bx4; clear bx4
  have hq4 := blk_cell hp4 0
  simp only [List.getElem?_toArray, List.getElem?_cons_zero] at hq4
  go_wp2_with fail
  go_ret2
  exact ⟨rfl, Fr.below ((Fr.shrink (T := fun _ => False) (Fr.refl _ w) hF4 (fun k h1 h2 => absurd h2 (by omega))))⟩
set_option maxRecDepth 100000 in
set_option maxHeartbeats 2000000 in
theorem edit_Encode3 (fr fc tr tc : Int) (hg : goodE 3 0 0 fr fc tr tc ⟨#[]⟩ = true) (ha : goodA fr fc = true) (hb : goodA tr tc = true) (w : World) (he : EtIs w) :
    Calls Tryd.prog 34 #[.agg #[.int .i64 3, .int .i64 0, .int .i64 0, .int .i64 fr, .int .i64 fc, .int .i64 tr, .int .i64 tc, .string ⟨#[]⟩]] w fun e w' => e = .returned (.tuple #[.string ((⟨#[]⟩ : ByteArray) ++ (numR 3 1).1 ++ (numR fr 2).1 ++ (numR fc 1).1 ++ (numR tr 2).1 ++ (numR tc 1).1), .int .i64 0]) ∧ Below w.heap.size w w' := by
  have hbd := goodA_bd ha
  have hbe := goodA_bd hb
  have hlt := he.lt
  go_enter Tryd.func34, Tryd.ntmps34
  go_wp2_with fail
  refine (edit_Good _ _ _ _ _ _ _ _ _).mono ?_; rintro e w1 ⟨rfl, hb1⟩
  have bx1 := blk_below (blk_new w (.cells #[.int .i64 3, .int .i64 0, .int .i64 0, .int .i64 fr, .int .i64 fc, .int .i64 tr, .int .i64 tc, .string ⟨#[]⟩] 59)) hb1
  have he1 := (he.alloc _).below hb1
  have hB1 := bstep (below_a1 _ _) hb1
  clear hb1
  have Bx1 := Lib.hid bx1; have hx1 := blk_cell bx1; clear bx1
  have hz : w.heap.size < w1.heap.size := blk_lt Bx1.out
  go_wp2_with fail
  obtain ⟨p, hpd⟩ : ∃ p, p = w1.heap.size := ⟨_, rfl⟩
  have hpb : w.heap.size ≠ p := by omega
  have hpe : p ≠ 1 := by omega
  have hp1 : IsWr (w1.alloc (.cells #[.string ⟨#[]⟩] 116)) p ⟨#[]⟩ := by rw [hpd]; exact blk_new _ _
  have bx2 := blk_alloc (o := .cells #[.string ⟨#[]⟩] 116) Bx1.out
  have he2 := he1.alloc (.cells #[.string ⟨#[]⟩] 116)
  have hF0 : Fr (fun b => w.heap.size ≤ b) w (w1.alloc (.cells #[.string ⟨#[]⟩] 116)) := (Fr.of_below hB1).alloc _
  generalize hW2 : w1.alloc (.cells #[.string ⟨#[]⟩] 116) = w2 at hp1 bx2 he2 hF0 ⊢
  rw [← hpd]
  have hpw : w.heap.size ≤ p := by omega
  clear hpd hW2 hx1 Bx1 he1 hB1 hz
  have hz3 := numR_size 3 1
  refine (wr_num p _ 3 1 (by omega) (by omega) (by have h0 : (⟨#[]⟩ : ByteArray).size = 0 := rfl; first | omega | (simp only [ByteArray.size_append]; omega)) _ he2 hp1 hpe).mono ?_; rintro e w3 ⟨rfl, hp3, hf3, he3⟩
  have bx3 := blk_fr bx2 hf3 hpb
  have hF3 : Fr (fun b => w.heap.size ≤ b) w w3 := hF0.shrink hf3 (fun k _ h => by subst h; exact hpw)
  have hx3 := blk_cell bx3
  have Bx3 := Lib.hid bx3; clear bx3
  go_wp2_with fail
  have hz4 := numR_size fr 2
  have hy4 := numR_size fc 1
  refine (wr_cell p _ fr fc (by omega) (by omega) (by omega) (by omega) (by have h0 : (⟨#[]⟩ : ByteArray).size = 0 := rfl; first | omega | (simp only [ByteArray.size_append]; omega)) _ he3 hp3 hpe).mono ?_; rintro e w4 ⟨rfl, hp4, hf4, he4⟩
  have bx4 := blk_fr Bx3.out hf4 hpb
  have hF4 : Fr (fun b => w.heap.size ≤ b) w w4 := hF3.shrink hf4 (fun k _ h => by subst h; exact hpw)
  have hx4 := blk_cell bx4
  have Bx4 := Lib.hid bx4; clear bx4
  have hr4 := blk_frozen Bx4.out
  go_wp2_with fail
  have bx5 := blk_set (blk_set Bx4.out 1 (.int .i64 tr)) 2 (.int .i64 tc)
  have hp5 : IsWr _ p _ := blk_set_far (blk_set_far hp4 (a := ⟨w.heap.size, 1, none⟩) (Ne.symm hpb) (.int .i64 tr)) (a := ⟨w.heap.size, 2, none⟩) (Ne.symm hpb) (.int .i64 tc)
  have hF5 := (hF4.setCell (p := ⟨w.heap.size, 1, none⟩) (.inr (Nat.le_refl _)) (.int .i64 tr)).setCell (p := ⟨w.heap.size, 2, none⟩) (.inr (Nat.le_refl _)) (.int .i64 tc)
  have he5 : EtIs ((w4.setCell ⟨w.heap.size, 1, none⟩ (.int .i64 tr)).setCell ⟨w.heap.size, 2, none⟩ (.int .i64 tc)) := by
    unfold EtIs; rw [hF5.cell hlt (by omega)]; exact he
  generalize hW5 : (w4.setCell ⟨w.heap.size, 1, none⟩ (.int .i64 tr)).setCell ⟨w.heap.size, 2, none⟩ (.int .i64 tc) = w5 at bx5 hp5 hF5 he5 ⊢
  clear hW5 hx4 hr4 he4
  simp only [List.setIfInBounds_toArray, List.set_cons_zero, List.set_cons_succ] at bx5
  have hz6 := numR_size tr 2
  have hy6 := numR_size tc 1
  refine (wr_cell p _ tr tc (by omega) (by omega) (by omega) (by omega) (by have h0 : (⟨#[]⟩ : ByteArray).size = 0 := rfl; first | omega | (simp only [ByteArray.size_append]; omega)) _ he5 hp5 hpe).mono ?_; rintro e w6 ⟨rfl, hp6, hf6, he6⟩
  have bx6 := blk_fr bx5 hf6 hpb
  have hF6 : Fr (fun b => w.heap.size ≤ b) w w6 := hF5.shrink hf6 (fun k _ h => by subst h; exact hpw)
  have hx6 := blk_cell bx6
  have Bx6 := Lib.hid bx6; clear bx6
  have hq6 := blk_cell hp6 0
  simp only [List.getElem?_toArray, List.getElem?_cons_zero] at hq6
  go_wp2_with fail
  go_ret2
  exact ⟨rfl, Fr.below ((Fr.shrink (T := fun _ => False) (Fr.refl _ w) hF6 (fun k h1 h2 => absurd h2 (by omega))))⟩
end Go.Proofs.YtlpdanghcdajmaaDoor
