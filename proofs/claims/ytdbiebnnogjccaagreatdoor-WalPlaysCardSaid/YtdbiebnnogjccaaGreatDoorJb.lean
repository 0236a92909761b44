/- Frames (layer 18): the document's Num, two. -/
import Derived.Test.YtdbiebnnogjccaaGreatDoorSl
import Derived.Test.YtdbiebnnogjccaaGreatDoorDa
import Derived.Test.YtdbiebnnogjccaaGreatDoorFi
import Derived.Test.YtdbiebnnogjccaaGreatDoorFr
import Derived.Test.YtdbiebnnogjccaaGreatDoorFd
import Derived.Test.YtdbiebnnogjccaaGreatDoorBk
import Derived.StillTailTactics
namespace Go.Proofs.YtdbiebnnogjccaaGreatDoor
open Go.RowKit
theorem ref18_NumQ (b : ByteArray) (w : World) : Calls Tryz.prog 127 #[.string b] w fun e w' => e = .returned (.int .u32 (numF b.data.toList)) ∧ ∃ n, w' = w.drewN n := by
  by_cases h : b.size = 256
  · have hl : (((b.size : Nat) : Int) != 256) = false := by rw [h]; rfl
    have e : numF b.data.toList = if b.data.toList.take 4 = b.data.toList.drop 252 then valLE (b.data.toList.take 4) else 0 := by
      unfold numF; rw [size_list, h]; simp
    rw [e]; clear e
    have x1 : (b.extract 0 4).toList = b.data.toList.take 4 := by rw [Lib.toList_data, extract_list]; simp
    have x2 : (b.extract 252 256).toList = b.data.toList.drop 252 := by
      rw [Lib.toList_data, extract_list]; exact List.take_of_length_le (by rw [List.length_drop, size_list, h]; omega)
    have x3 : (b.extract 0 4).data.toList = b.data.toList.take 4 := by rw [extract_list]; simp
    have z4 : (b.extract 0 4).size = 4 := by rw [ByteArray.size_extract]; omega
    have EN := Lib.hid (fun W => ref18_End (b.extract 0 4) z4 W)
    rw [x3] at EN
    have l1 : (0 : Int) < (b.size : Int) := by omega
    have l2 : (4 : Int) ≤ (b.size : Int) := by omega
    have l3 : (252 : Int) ≤ (b.size : Int) := by omega
    by_cases hq : b.data.toList.take 4 = b.data.toList.drop 252
    · have hqb : ((b.extract 0 4).toList == (b.extract 252 256).toList) = true := by rw [x1, x2, hq]; simp
      rw [if_pos hq]
      clear x1 x2 x3 z4 hq
      go_enter Tryz.func127, Tryz.ntmps127
      go_wp2_with fail
      go_quiet (fail)
      go_wp2_with fail
      refine (EN.out _).mono ?_; rintro e w1 ⟨rfl, rfl⟩
      go_wp2_with fail
      go_ret
      exact ⟨rfl, _, rfl⟩
    · have hqb : ((b.extract 0 4).toList == (b.extract 252 256).toList) = false := by rw [x1, x2]; simpa using hq
      rw [if_neg hq]
      clear x1 x2 x3 z4 hq
      go_enter Tryz.func127, Tryz.ntmps127
      go_wp2_with fail
      go_quiet (fail)
      go_wp2_with fail
      go_ret
      exact ⟨rfl, _, rfl⟩
  · have hl : (((b.size : Nat) : Int) != 256) = true := by rw [bne_iff_ne]; omega
    have e : numF b.data.toList = 0 := by unfold numF; rw [if_neg (by rw [size_list]; omega)]
    rw [e]; clear e
    go_enter Tryz.func127, Tryz.ntmps127
    go_wp2_with fail
    go_quiet (fail)
    go_wp2_with fail
    go_ret
    exact ⟨rfl, _, rfl⟩
theorem valBE_two (s : ByteArray) (hs : s.size = 2) : valBE s.data.toList = (((s[0]'(by omega)).toNat : Nat) : Int) * 256 + (((s[1]'(by omega)).toNat : Nat) : Int) := by
  have e : s.data.toList = [s[0]'(by omega), s[1]'(by omega)] := by
    have hl : s.data.toList.length = 2 := by rw [size_list, hs]
    apply List.ext_getElem (by simp [hl])
    intro i h1 h2
    rcases i with _ | _ | i
    · simp [ByteArray.getElem_eq_getElem_data]
    · simp [ByteArray.getElem_eq_getElem_data]
    · simp at h2
      omega
  rw [e]
  simp [valBE]
theorem ref18_twoQ (s : ByteArray) (hs : s.size = 2) (w : World) : Calls Tryz.prog 128 #[.string s] w fun e w' => e = .returned (.int .i64 (valBE s.data.toList)) ∧ ∃ n, w' = w.drewN n := by
  rw [valBE_two s hs]
  have h0 := UInt8.toNat_lt (s[0]'(by omega))
  have h1 := UInt8.toNat_lt (s[1]'(by omega))
  have l0 : (0 : Int) < (s.size : Int) := by omega
  have l1 : (1 : Int) < (s.size : Int) := by omega
  have n0 : 0 < s.size := by omega
  have n1 : 1 < s.size := by omega
  go_enter Tryz.func128, Tryz.ntmps128
  go_wp2_with fail
  go_quiet (fail)
  go_wp2_with fail
  go_ret
  exact ⟨rfl, _, rfl⟩
end Go.Proofs.YtdbiebnnogjccaaGreatDoor

/- Frames (layer 18): the document's Read. -/
namespace Go.Proofs.YtdbiebnnogjccaaGreatDoor
open Go.RowKit
/-- What the document's Read hands back, as a value. -/
def gotV (o : Option (List UInt8 × Int × Nat)) : Value :=
  match o with
  | some (s, n, k) => .agg #[.string (ofL s), .int .u32 n, .int .i64 (k : Int), .bool true]
  | none => .agg #[.string ⟨#[]⟩, .int .u32 0, .int .i64 0, .bool false]
theorem beBytes_two {a b c d : Int} (h : beBytes a 2 ++ beBytes b 2 = beBytes c 2 ++ beBytes d 2) : beBytes a 2 = beBytes c 2 ∧ beBytes b 2 = beBytes d 2 :=
  List.append_inj h (by rw [beBytes_length, beBytes_length])
/-- Which piece a sector says it is. -/
theorem piece_two {b : List UInt8} (hl : b.length = 256) {m : Int} {k i : Nat} (hi : i < 65536) (hk : k < 65536) : pieceF m k b i = (decide (numF b = m) && (decide (valBE ((b.drop 4).take 2) = (i : Int)) && decide (valBE ((b.drop 6).take 2) = (k : Int)))) := by
  unfold pieceF
  congr 1
  have e4 : (b.drop 4).take 4 = (b.drop 4).take 2 ++ (b.drop 6).take 2 := by
    rw [show (4 : Nat) = 2 + 2 from rfl, List.take_add, List.drop_drop]
  have l1 : ((b.drop 4).take 2).length = 2 := by rw [List.length_take, List.length_drop, hl]; rfl
  have l2 : ((b.drop 6).take 2).length = 2 := by rw [List.length_take, List.length_drop, hl]; rfl
  rw [e4]
  rw [Bool.eq_iff_iff]
  simp only [decide_eq_true_eq, Bool.and_eq_true]
  constructor
  · intro h
    obtain ⟨h1, h2⟩ := List.append_inj h (by rw [l1, beBytes_length])
    rw [h1, h2]
    exact ⟨valBE_small (by omega) (by omega), valBE_small (by omega) (by omega)⟩
  · rintro ⟨h1, h2⟩
    rw [← h1, ← h2]
    have a1 := be_val ((b.drop 4).take 2)
    have a2 := be_val ((b.drop 6).take 2)
    rw [l1] at a1; rw [l2] at a2
    rw [a1, a2]
theorem piece_no_many {L : List (List UInt8)} {k : Nat} (h1 : 10 < k) : (textF (bodyF (L.take k)) k) = none := by
  unfold textF
  by_cases c : 2000 < valBE ((bodyF (L.take k)).take 4)
  · rw [if_pos (.inl c)]
  · rw [if_pos (.inr (by unfold szN; omega))]
theorem textF_long {B : List UInt8} {v k : Nat} (hv : (v : Int) = valBE (B.take 4)) (h : 2000 < v) : textF B k = none := by
  unfold textF; rw [← hv, if_pos (Or.inl (by omega))]
theorem textF_size {B : List UInt8} {v k : Nat} (hv : (v : Int) = valBE (B.take 4)) (h : szN v ≠ k) : textF B k = none := by
  unfold textF; rw [← hv, if_pos (Or.inr (by rw [Int.toNat_natCast]; exact h))]
theorem textF_is {B : List UInt8} {v k u c : Nat} (hv : (v : Int) = valBE (B.take 4)) (h1 : ¬ 2000 < v) (h2 : szN v = k) (hu : (u : Int) = valBE ((B.drop (4 + v)).take 4)) (hc : c = sumN (B.take (4 + v))) :
    textF B k = if ((u : Int) = (c : Int) ∧ (B.drop (8 + v)).all (· == 0) = true) then some ((B.drop 4).take v) else none := by
  unfold textF
  rw [← hv, Int.toNat_natCast, if_neg (by omega), ← hu, hc]
theorem ref16_Take_eq {b : ByteArray} {a n x y c : Int} (h : takeR b a n = (x, y, c)) (hb : b.size ≤ 140737488351232) (W : World) : Calls Tryz.prog 129 #[.string b, .int .i64 a, .int .i64 n] W fun e w' =>
    e = .returned (.tuple #[.int .u64 x, .int .i64 y, .int .i64 c]) ∧ W = w' := by
  have := ref16_Take b a n hb W
  rw [h] at this; exact this
theorem gotV_none : gotV none = .agg #[.string ⟨#[]⟩, .int .u32 0, .int .i64 0, .bool false] := rfl
set_option maxRecDepth 100000 in
set_option maxHeartbeats 40000000 in
theorem ref18_Read (v : Value) (L : List ByteArray) (hL : L.length < 9223372036854775807) (w : World) (hv : SlStrs w v L) :
    Calls Tryz.prog 85 #[v] w fun e w' => e = .returned (gotV (readF (LL L))) ∧ Below w.heap.size w w' := by
  obtain ⟨p, cp, rfl, hcp⟩ := hv.form
  obtain ⟨w0, hw0⟩ : ∃ w0, w0 = w.alloc (.cells #[.string ⟨#[]⟩, .int .u32 0, .int .i64 0, .bool false] 144) := ⟨_, rfl⟩
  have B0 : Hid (Below w.heap.size w w0) := by show Below _ _ _; rw [hw0]; exact below_a1 _ _
  have HV : Hid (SlStrs w0 (.slice p L.length cp) L) := by show SlStrs _ _ _; exact hv.below B0.out
  have HN : Hid (∀ e N, e = .agg #[.string ⟨#[]⟩, .int .u32 0, .int .i64 0, .bool false] → readF (LL L) = none → Ending.returned e = .returned (gotV (readF (LL L))) ∧ Below w.heap.size w (w0.drewN N)) := by
    intro e N he hr
    rw [hr, he]; exact ⟨rfl, bstep B0.out (below_dN _ _)⟩
  have HW0 := Lib.hid hw0
  clear hv hw0
  cases L with
  | nil =>
    have z0 : (((0 : Nat) : Int) == 0) = true := rfl
    simp only [List.length_nil]
    go_enter Tryz.func85, Tryz.ntmps85
    go_wp2_with fail
    refine bodyPost_ret (v := .agg #[.string ⟨#[]⟩, .int .u32 0, .int .i64 0, .bool false]) (by simp [results, Tryz.results85, go_sem]) rfl ?_
    have := HN.out _ 0 rfl readF_nil
    rw [HW0.out] at this; exact this
  | cons x L =>
  obtain ⟨n, hn⟩ : ∃ n : Nat, n = (x :: L).length := ⟨_, rfl⟩
  have hn1 : 1 ≤ n := by rw [hn]; simp
  have hnb : n < 9223372036854775807 := by omega
  obtain ⟨b, off, rfl, hS⟩ := HV.out.at (k := 0) (by simp)
  rw [← hn]
  have HS := Lib.hid hS
  have Hn := Lib.hid hn
  clear hS hn HV hL hcp
  have hc0 : w0.cell? ⟨b, off, none⟩ = some (.string x) := HS.out.at' 0 (by simp)
  have z0 : ((n : Int) == 0) = false := by rw [beq_eq_false_iff_ne]; omega
  have i0 : (0 : Int) < (n : Int) := by omega
  have NB := Lib.hid (fun W => ref18_NumQ x W)
  have X0 : Hid (w0.heap[w.heap.size]? = some (.cells #[.string ⟨#[]⟩, .int .u32 0, .int .i64 0, .bool false] 144 (0, 0))) := by show _ = _; rw [HW0.out]; exact blk_new _ _
  have HXC : Hid (∀ W, Below w0.heap.size w0 W → ∀ o, W.cell? ⟨w.heap.size, o, none⟩ = (#[.string ⟨#[]⟩, .int .u32 0, .int .i64 0, .bool false] : Array Value)[o]?) := fun W h => blk_cell (blk_below X0.out h)
  have HXF : Hid (∀ W, Below w0.heap.size w0 W → ∀ o, W.frozen? ⟨w.heap.size, o, none⟩ = false) := fun W h => blk_frozen (blk_below X0.out h)
  have HZ : Hid (∀ W, Below w0.heap.size w0 W → ∀ (a b c d : Value) o, ((((W.setCell ⟨w.heap.size, 0, none⟩ a).setCell ⟨w.heap.size, 1, none⟩ b).setCell ⟨w.heap.size, 2, none⟩ c).setCell ⟨w.heap.size, 3, none⟩ d).cell? ⟨w.heap.size, o, none⟩ = (#[a, b, c, d] : Array Value)[o]?) := fun W h a b c d => blk_cell (st4 (blk_below X0.out h) a b c d)
  have HB : Hid (∀ W, Below w0.heap.size w0 W → ∀ (a b c d : Value), Below w.heap.size w ((((W.setCell ⟨w.heap.size, 0, none⟩ a).setCell ⟨w.heap.size, 1, none⟩ b).setCell ⟨w.heap.size, 2, none⟩ c).setCell ⟨w.heap.size, 3, none⟩ d)) := fun W h a b c d => bst4 (bstep B0.out h) (Nat.le_refl _) a b c d
  have D0 : Hid (Below w0.heap.size w0 w0) := Below.refl _ _
  by_cases c0 : numF x.data.toList = 0
  · have HR := Lib.hid (readF_zero (L := L) c0)
    rw [c0] at NB
    clear c0
    go_enter Tryz.func85, Tryz.ntmps85
    go_upto_region 1 with (fail)
    rw [← HW0.out]
    go_wp2_with fail
    refine (NB.out _).mono ?_; rintro e w1 ⟨rfl, hw1⟩
    have D1 : Hid (Below w0.heap.size w0 w1) := Dr.below hw1
    clear hw1
    have hc := HXC.out _ D1.out
    have hf := HXF.out _ D1.out
    go_wp2_with fail
    have hz := HZ.out _ D1.out (.string ⟨#[]⟩) (.int .u32 0) (.int .i64 0) (.bool false)
    exact bodyPost_ret (v := .agg #[.string ⟨#[]⟩, .int .u32 0, .int .i64 0, .bool false]) (by simp [results, Tryz.results85, go_sem, hz]) rfl ⟨by rw [HR.out]; rfl, HB.out _ D1.out _ _ _ _⟩
  have hxz := num_size c0
  have hnd := num_bd x
  obtain ⟨k, hk, hkb, ht⟩ := take_at2 (b := x) (a := 6) (by omega)
  have hR := readF_cons (L := L) hk
  rw [← Hn.out] at hR
  have z1 : (numF x.data.toList == 0) = false := by rw [beq_eq_false_iff_ne]; exact c0
  have l8 : (8 : Int) ≤ (x.size : Int) := by omega
  have l6 : (6 : Int) ≤ (x.size : Int) := by omega
  have TW := Lib.hid (fun W => ref18_twoQ (x.extract 6 8) (by rw [ByteArray.size_extract]; omega) W)
  rw [extract_list, show (8 : Nat) - 6 = 2 from rfl, ← hk] at TW
  clear ht hk
  obtain ⟨m, hm⟩ : ∃ m, m = numF x.data.toList := ⟨_, rfl⟩
  rw [← hm] at NB z1 hR hnd c0
  by_cases c1 : k < 1 ∨ n < k ∨ 10 < k
  · have HR : Hid (readF (LL (x :: L)) = none) := by
      show _ = _
      rw [hR]
      rcases c1 with c1 | c1 | c1
      · rw [if_pos (.inr (.inl c1))]
      · rw [if_pos (.inr (.inr c1))]
      · split
        · rfl
        · split
          · rw [piece_no_many c1]; rfl
          · rfl
    have q : ((k : Int) < 1) ∨ (¬ (k : Int) < 1 ∧ decide ((k : Int) < 1) = false ∧ (n : Int) < (k : Int)) ∨ (¬ (k : Int) < 1 ∧ decide ((k : Int) < 1) = false ∧ ¬ (n : Int) < (k : Int) ∧ decide ((n : Int) < (k : Int)) = false ∧ (10 : Int) < (k : Int)) := by
      by_cases a1 : k < 1
      · exact .inl (by omega)
      · by_cases a2 : n < k
        · exact .inr (.inl ⟨by omega, decide_eq_false (by omega), by omega⟩)
        · exact .inr (.inr ⟨by omega, decide_eq_false (by omega), by omega, decide_eq_false (by omega), by omega⟩)
    clear hR c1 hm c0 hnd
    go_enter Tryz.func85, Tryz.ntmps85
    go_upto_region 1 with (fail)
    rw [← HW0.out]
    go_wp2_with fail
    refine (NB.out _).mono ?_; rintro e w1 ⟨rfl, hw1⟩
    have D1 : Hid (Below w0.heap.size w0 w1) := Dr.below hw1
    clear hw1
    have hc1 : w1.cell? ⟨b, off, none⟩ = some (.string x) := cell_below hc0 D1.out
    go_wp2_with fail
    go_quiet (first | (go_at_call 127; exact Calls.quiet_of (NB.out _)) | (go_at_call 128; exact Calls.quiet_of (TW.out _)))
    obtain ⟨w2, hw2⟩ : ∃ w2, w2 = w1.drewN nq := ⟨_, rfl⟩
    have D2 : Hid (Below w0.heap.size w0 w2) := by show Below _ _ _; rw [hw2]; exact bstep D1.out (below_dN _ _)
    rw [← hw2]
    clear hw2 hc1
    rcases q with q1 | ⟨q1, q2, q3⟩ | ⟨q1, q2, q3, q4, q5⟩
    all_goals
      have hc := HXC.out _ D2.out
      have hf := HXF.out _ D2.out
      go_wp2_with fail
      have hz := HZ.out _ D2.out (.string ⟨#[]⟩) (.int .u32 0) (.int .i64 0) (.bool false)
      exact bodyPost_ret (v := .agg #[.string ⟨#[]⟩, .int .u32 0, .int .i64 0, .bool false]) (by simp [results, Tryz.results85, go_sem, hz]) rfl ⟨by rw [HR.out]; rfl, HB.out _ D2.out _ _ _ _⟩
  have l1 : ¬ (k : Int) < 1 := by omega
  have d1 : decide ((k : Int) < 1) = false := decide_eq_false l1
  have l2 : ¬ (n : Int) < (k : Int) := by omega
  have d2 : decide ((n : Int) < (k : Int)) = false := decide_eq_false l2
  have d2n : decide (n < k) = false := decide_eq_false (by omega)
  have l3 : ¬ (10 : Int) < (k : Int) := by omega
  have hR2 := hR.trans (if_neg (by omega))
  have HR := Lib.hid hR2
  have Hc0 := Lib.hid c0
  have kn : (k : Int) ≤ (n : Int) := by omega
  have k0 : (0 : Int) ≤ (k : Int) := by omega
  clear hR hR2 c0 hm c1
  go_enter Tryz.func85, Tryz.ntmps85
  go_upto_region 1 with (fail)
  rw [← HW0.out]
  go_wp2_with fail
  refine (NB.out _).mono ?_; rintro e w1 ⟨rfl, hw1⟩
  have D1 : Hid (Below w0.heap.size w0 w1) := Dr.below hw1
  clear hw1
  have hc1 : w1.cell? ⟨b, off, none⟩ = some (.string x) := cell_below hc0 D1.out
  go_wp2_with fail
  go_quiet (first | (go_at_call 127; exact Calls.quiet_of (NB.out _)) | (go_at_call 128; exact Calls.quiet_of (TW.out _)))
  obtain ⟨w2, hw2⟩ : ∃ w2, w2 = w1.drewN nq := ⟨_, rfl⟩
  have D2 : Hid (Below w0.heap.size w0 w2) := by show Below _ _ _; rw [hw2]; exact bstep D1.out (below_dN _ _)
  rw [← hw2]
  clear hw2 hc1
  go_wp2_with fail
  go_loopw [5, 6] (fun s c wr => ∃ i : Nat, i ≤ k ∧ c = .int .i64 i ∧ s = .string (ofL (bodyF ((LL (x :: L)).take i))) ∧ Below w0.heap.size w0 wr ∧ (∀ j, j < i → pieceF m k ((LL (x :: L)).getD j []) j = true)) (fun _ c _ => k - (intOf c).toNat)
  case atStart => exact ⟨0, Nat.zero_le _, rfl, rfl, D2.out, fun j h => absurd h (by omega)⟩
  case round =>
    obtain ⟨i, hik, rfl, rfl, hB, hP⟩ := hrel
    have DB := Lib.hid hB; have HP := Lib.hid hP
    clear hB hP
    have hsz : Hid (∀ j (h : j < i) (h2 : j < (x :: L).length), (x :: L)[j].size = 256) := fun j h h2 => by
      have hp := HP.out j h
      rw [LL_getD h2] at hp
      unfold pieceF at hp
      simp only [Bool.and_eq_true, decide_eq_true_eq] at hp
      exact num_size (by rw [hp.1]; exact Hc0.out)
    have hkn : k ≤ (x :: L).length := by rw [← Hn.out]; omega
    have hbl := body_len (L := x :: L) (i := i) (by omega) hsz.out
    obtain ⟨B, hBd⟩ : ∃ B, B = bodyF ((LL (x :: L)).take i) := ⟨_, rfl⟩
    rw [← hBd] at hbl ⊢
    by_cases hlt : i < k
    · have hi : (i : Int) < (k : Int) := by omega
      have hin : i < (x :: L).length := by omega
      have ii : (0 : Int) ≤ (i : Int) := by omega
      have iin : (i : Int) < (n : Int) := by omega
      have cy0 := HS.out.at' i hin
      have hg := LL_getD hin
      have hbs := body_snoc hin
      rw [← hBd] at hbs
      obtain ⟨y, hy⟩ : ∃ y, y = (x :: L)[i] := ⟨_, rfl⟩
      rw [← hy] at cy0 hg hbs
      have Hg := Lib.hid hg; have Hbs := Lib.hid hbs; have Hbl := Lib.hid hbl; have HBd := Lib.hid hBd; have CY0 := Lib.hid cy0
      have YC : Hid (∀ W, Below w0.heap.size w0 W → W.cell? ⟨b, off + i, none⟩ = some (.string y)) := fun W h => cell_below CY0.out h
      have HNo : Hid (pieceF m k y.data.toList i = false → readF (LL (x :: L)) = none) := by
        intro hp
        rw [HR.out, if_neg]
        rw [Bool.not_eq_true, List.all_eq_false]
        exact ⟨i, List.mem_range.2 hlt, by rw [Hg.out, hp]; decide⟩
      have NY := Lib.hid (fun W => ref18_NumQ y W)
      clear hy hg hbs hbl hBd cy0 hkn
      by_cases c1 : numF y.data.toList = m
      · have hyz : y.size = 256 := num_size (by rw [c1]; exact Hc0.out)
        have hpt := piece_two (b := y.data.toList) (by rw [size_list, hyz]) (m := m) (k := k) (i := i) (by omega) hkb
        rw [c1] at NY hpt
        have q1 : (m != m) = false := by simp
        have T4 := Lib.hid (fun W => ref18_twoQ (y.extract 4 6) (by rw [ByteArray.size_extract]; omega) W)
        have T6 := Lib.hid (fun W => ref18_twoQ (y.extract 6 8) (by rw [ByteArray.size_extract]; omega) W)
        rw [extract_list, show (6 : Nat) - 4 = 2 from rfl] at T4
        rw [extract_list, show (8 : Nat) - 6 = 2 from rfl] at T6
        obtain ⟨u4, hu4⟩ : ∃ u4, u4 = valBE ((y.data.toList.drop 4).take 2) := ⟨_, rfl⟩
        obtain ⟨u6, hu6⟩ : ∃ u6, u6 = valBE ((y.data.toList.drop 6).take 2) := ⟨_, rfl⟩
        rw [← hu4] at T4 hpt
        rw [← hu6] at T6 hpt
        have e6 : (6 : Int) ≤ (y.size : Int) := by omega
        have e8 : (8 : Int) ≤ (y.size : Int) := by omega
        clear hu4 hu6
        have cy := YC.out _ DB.out
        go_wp2_with fail
        refine (NY.out _).mono ?_; rintro e w3 ⟨rfl, hw3⟩
        have D3 : Hid (Below w0.heap.size w0 w3) := bstep DB.out (Dr.below hw3)
        clear hw3 cy
        have cy := YC.out _ D3.out
        by_cases c2 : u4 = (i : Int)
        · subst c2
          have q2 : ((i : Int) != (i : Int)) = false := by simp
          go_wp2_with fail
          refine (T4.out _).mono ?_; rintro e w4 ⟨rfl, hw4⟩
          have D4 : Hid (Below w0.heap.size w0 w4) := bstep D3.out (Dr.below hw4)
          clear hw4 cy
          have cy := YC.out _ D4.out
          go_wp2_with fail
          refine (T6.out _).mono ?_; rintro e w5 ⟨rfl, hw5⟩
          have D5 : Hid (Below w0.heap.size w0 w5) := bstep D4.out (Dr.below hw5)
          clear hw5 cy
          by_cases c3 : u6 = (k : Int)
          · subst c3
            have q3 : ((k : Int) != (k : Int)) = false := by simp
            have HPy : Hid (pieceF m k y.data.toList i = true) := by show _ = _; rw [hpt]; simp
            have cy := YC.out _ D5.out
            have e252 : (252 : Int) ≤ (y.size : Int) := by omega
            have hbz : ¬ 9223372036854775807 < (ofL B).size + (y.extract 8 252).size := by rw [ofL_size, Hbl.out, ByteArray.size_extract]; omega
            clear hpt c1
            go_wp2_with fail
            go_roundw
            case rel =>
              refine ⟨i + 1, by omega, by go_num, ?_, D5.out, ?_⟩
              · rw [Hbs.out]
                congr 1
              · intro j hj
                by_cases hji : j < i
                · exact HP.out j hji
                · obtain rfl : j = i := by omega
                  rw [Hg.out]; exact HPy.out
            case measure => simp [intOf]; omega
          · have q3 : (u6 != (k : Int)) = true := by rw [bne_iff_ne]; exact c3
            have HN : Hid (readF (LL (x :: L)) = none) := HNo.out (by rw [hpt]; simp [c3])
            clear hpt c1
            have hc := HXC.out _ D5.out
            have hf := HXF.out _ D5.out
            go_wp2_with fail
            have hz := HZ.out _ D5.out (.string ⟨#[]⟩) (.int .u32 0) (.int .i64 0) (.bool false)
            exact bodyPost_ret (v := .agg #[.string ⟨#[]⟩, .int .u32 0, .int .i64 0, .bool false]) (by simp [results, Tryz.results85, go_sem, hz]) rfl ⟨by rw [HN.out]; rfl, HB.out _ D5.out _ _ _ _⟩
        · have q2 : (u4 != (i : Int)) = true := by rw [bne_iff_ne]; exact c2
          have HN : Hid (readF (LL (x :: L)) = none) := HNo.out (by rw [hpt]; simp [c2])
          clear hpt c1
          go_wp2_with fail
          refine (T4.out _).mono ?_; rintro e w4 ⟨rfl, hw4⟩
          have D4 : Hid (Below w0.heap.size w0 w4) := bstep D3.out (Dr.below hw4)
          clear hw4 cy
          have hc := HXC.out _ D4.out
          have hf := HXF.out _ D4.out
          go_wp2_with fail
          have hz := HZ.out _ D4.out (.string ⟨#[]⟩) (.int .u32 0) (.int .i64 0) (.bool false)
          exact bodyPost_ret (v := .agg #[.string ⟨#[]⟩, .int .u32 0, .int .i64 0, .bool false]) (by simp [results, Tryz.results85, go_sem, hz]) rfl ⟨by rw [HN.out]; rfl, HB.out _ D4.out _ _ _ _⟩
      · have HN : Hid (readF (LL (x :: L)) = none) := HNo.out (by unfold pieceF; simp [c1])
        have q1 : (numF y.data.toList != m) = true := by rw [bne_iff_ne]; exact c1
        obtain ⟨u, hu⟩ : ∃ u, u = numF y.data.toList := ⟨_, rfl⟩
        rw [← hu] at NY q1
        clear c1 hu
        have cy := YC.out _ DB.out
        go_wp2_with fail
        refine (NY.out _).mono ?_; rintro e w3 ⟨rfl, hw3⟩
        have D3 : Hid (Below w0.heap.size w0 w3) := bstep DB.out (Dr.below hw3)
        clear hw3 cy
        have hc := HXC.out _ D3.out
        have hf := HXF.out _ D3.out
        go_wp2_with fail
        have hz := HZ.out _ D3.out (.string ⟨#[]⟩) (.int .u32 0) (.int .i64 0) (.bool false)
        exact bodyPost_ret (v := .agg #[.string ⟨#[]⟩, .int .u32 0, .int .i64 0, .bool false]) (by simp [results, Tryz.results85, go_sem, hz]) rfl ⟨by rw [HN.out]; rfl, HB.out _ D3.out _ _ _ _⟩
    · have hi : ¬ (i : Int) < (k : Int) := by omega
      obtain rfl : i = k := by omega
      have HQ : Hid (readF (LL (x :: L)) = (textF B i).map fun s => (s, m, i)) := by
        show _ = _
        rw [HR.out, if_pos, ← hBd]
        rw [List.all_eq_true]
        intro j hj
        exact HP.out j (List.mem_range.1 hj)
      clear hBd hsz
      have hAz : (ofL B).size = i * 244 := by rw [ofL_size, hbl]
      obtain ⟨A, hA⟩ : ∃ A, A = ofL B := ⟨_, rfl⟩
      have hAl : A.data.toList = B := by rw [hA, ofL_list]
      rw [← hA] at hAz ⊢
      clear hA
      obtain ⟨v, hv, hv2, ht⟩ := take_at (b := A) (a := 0) (by omega)
      have T1 := Lib.hid (fun W => ref16_Take_eq (b := A) (a := 0) (n := 4) ht (by omega) W)
      rw [List.drop_zero, hAl] at hv
      have HAl := Lib.hid hAl; have HAz := Lib.hid hAz
      have hAz2 : A.size ≤ 2440 := by omega
      clear ht hAl hAz
      have z64 : IntKind.i64.wrap (v : Int) = (v : Int) := IntWalk.i64_in _ (by omega)
      by_cases t1 : 2000 < v
      · have HN : Hid (readF (LL (x :: L)) = none) := by
          show _ = _
          rw [HQ.out, textF_long hv t1]; rfl
        have g1 : (2000 : Int) < (v : Int) := by omega
        clear hv
        go_wp2_with fail
        refine (T1.out _).mono ?_; rintro e w3 ⟨rfl, rfl⟩
        have hc := HXC.out _ DB.out
        have hf := HXF.out _ DB.out
        go_wp2_with fail
        have hz := HZ.out _ DB.out (.string ⟨#[]⟩) (.int .u32 0) (.int .i64 0) (.bool false)
        exact bodyPost_ret (v := .agg #[.string ⟨#[]⟩, .int .u32 0, .int .i64 0, .bool false]) (by simp [results, Tryz.results85, go_sem, hz]) rfl ⟨by rw [HN.out]; rfl, HB.out _ DB.out _ _ _ _⟩
      have g1 : ¬ (2000 : Int) < (v : Int) := by omega
      have Z1 := Lib.hid (fun W => ref18_Size (v : Int) W)
      rw [sizeF_nat (by omega)] at Z1
      by_cases t2 : szN v = i
      · have hend : 8 + v ≤ A.size := by rw [HAz.out, ← t2]; unfold szN; omega
        rw [t2] at Z1
        have g2 : ((i : Int) != (i : Int)) = false := by simp
        obtain ⟨u, hu, hu2, ht⟩ := take_at (b := A) (a := 4 + v) (by omega)
        have T2 := Lib.hid (fun W => ref16_Take_eq (b := A) (a := ((4 + v : Nat) : Int)) (n := 4) ht (by omega) W)
        rw [show ((4 + v : Nat) : Int) = 4 + (v : Int) by omega] at T2
        have hx : (A.extract 0 (4 + v)).data.toList = B.take (4 + v) := by rw [extract_list, List.drop_zero, Nat.sub_zero, HAl.out]
        have C1 := Lib.hid (fun W => ref15_Sum (A.extract 0 (4 + v)) (by rw [ByteArray.size_extract]; omega) W)
        rw [hx] at C1
        have hc2 := sumN_lt (B.take (4 + v))
        obtain ⟨c, hcc⟩ : ∃ c, c = sumN (B.take (4 + v)) := ⟨_, rfl⟩
        rw [← hcc] at C1 hc2
        have hr : (A.extract (8 + v) A.size).data.toList = B.drop (8 + v) := by
          rw [extract_list, HAl.out]; exact List.take_of_length_le (by rw [List.length_drop, ← HAl.out, size_list]; omega)
        rw [HAl.out] at hu
        have htx : textF B i = if ((u : Int) = (c : Int) ∧ (B.drop (8 + v)).all (· == 0) = true) then some ((B.drop 4).take v) else none := textF_is hv t1 t2 hu hcc
        obtain ⟨q, hq⟩ : ∃ q, q = i * 244 - (8 + v) := ⟨_, rfl⟩
        have u32 : (u : Int) % 4294967296 = (u : Int) := Int.emod_eq_of_lt (by omega) (by omega)
        have m1 : (0 : Int) ≤ 4 + (v : Int) := by omega
        have m2 : (4 : Int) + (v : Int) ≤ (A.size : Int) := by omega
        have m3 : ((4 : Int) + (v : Int)).toNat = 4 + v := by omega
        clear hv ht hu hx hcc
        by_cases t3 : u = c
        · subst t3
          have q3 : ((u : Int) != (u : Int)) = false := by simp
          have hqm : (A.size : Int) - (4 + (v : Int)) - 4 = (q : Int) := by have := HAz.out; omega
          have hqb : q ≤ 16777216 := by omega
          obtain ⟨MC, hmk, hcv⟩ := make_zeros q hqb
          obtain ⟨Z, hZ⟩ : ∃ Z : ByteArray, Z = strOfNums (List.replicate q 0) := ⟨_, rfl⟩
          have hZl : Z.toList = List.replicate q 0 := by rw [Lib.toList_data, hZ, strOfNums_data]; simp
          have hrl : (A.extract (8 + v) A.size).toList = B.drop (8 + v) := by rw [Lib.toList_data, hr]
          have hdl : (B.drop (8 + v)).length = q := by rw [List.length_drop, ← HAl.out, size_list, HAz.out, hq]
          rw [← hZ] at hcv
          have e1 : IntKind.i64.wrap (4 + (v : Int) + 4) = 4 + (v : Int) + 4 := IntWalk.i64_in _ (by omega)
          have e2 : IntKind.i64.wrap ((A.size : Int) - (4 + (v : Int))) = (A.size : Int) - (4 + (v : Int)) := IntWalk.i64_in _ (by have := HAz.out; omega)
          have e3 : IntKind.i64.wrap ((A.size : Int) - (4 + (v : Int)) - 4) = (q : Int) := by rw [hqm]; exact IntWalk.i64_in _ (by omega)
          have m4 : (8 : Int) + (v : Int) ≤ (A.size : Int) := by omega
          have m5 : ((4 : Int) + (v : Int) + 4).toNat = 8 + v := by omega
          have m6 : (4 : Int) + (v : Int) + 4 ≤ (A.size : Int) := by omega
          have m7 : (0 : Int) ≤ 4 + (v : Int) + 4 := by omega
          have hs1 : ∀ wx, (Instr.slice 9 (.string A) none (some (.int .i64 (4 + (v : Int)))) none).run Tryz.prog wx = .ok (.string (A.extract 0 (4 + v))) wx := fun wx => by
            rw [run_slice_string_h (P := Tryz.prog) wx 9 A Tryz.underlying9 .i64 (4 + (v : Int)) m1 m2, m3]
          have hs2 : ∀ wx, (Instr.slice 9 (.string A) (some (.int .i64 (4 + (v : Int) + 4))) none none).run Tryz.prog wx = .ok (.string (A.extract (8 + v) A.size)) wx := fun wx => by
            rw [run_slice_string_l (P := Tryz.prog) wx 9 A Tryz.underlying9 .i64 (4 + (v : Int) + 4) m7 m6, m5]
          have e4 : IntKind.u32.wrap (u : Int) = (u : Int) := by rw [IntKind.wrap_u32]; exact u32
          have hs3 : ∀ wx, (Instr.slice 9 (.string A) (some (.int .i64 4)) (some (.int .i64 (4 + (v : Int)))) none).run Tryz.prog wx = .ok (.string (A.extract 4 (4 + v))) wx := fun wx => by
            rw [run_slice_string (P := Tryz.prog) wx 9 A .i64 .i64 4 (4 + (v : Int)) Tryz.underlying9 (by decide) (by omega) m2, m3]; rfl
          clear hr hZ hq hqm
          by_cases t4 : (B.drop (8 + v)).all (· == 0) = true
          · have hne : ((A.extract (8 + v) A.size).toList != Z.toList) = false := by
              rw [hrl, hZl]
              have : B.drop (8 + v) = List.replicate q 0 := by
                have := List.eq_replicate_of_mem (l := B.drop (8 + v)) (a := 0) (fun x hx => by have := List.all_eq_true.1 t4 x hx; simpa using this)
                rw [hdl] at this; exact this
              rw [this]; simp
            have hqq : ((A.extract (8 + v) A.size).toList == Z.toList) = true := by simpa using hne
            rw [show A.extract 4 (4 + v) = ofL ((B.drop 4).take v) from bytes_ext (by rw [extract_list, ofL_list, Nat.add_sub_cancel_left, HAl.out])] at hs3
            have HS1 : Hid (readF (LL (x :: L)) = some ((B.drop 4).take v, m, i)) := by
              show _ = _
              rw [HQ.out, htx, if_pos ⟨rfl, t4⟩]; rfl
            clear htx t4 hrl hZl hdl
            go_wp2_with fail
            refine (T1.out _).mono ?_; rintro e w3 ⟨rfl, rfl⟩
            go_wp2_with fail
            refine (Z1.out _).mono ?_; rintro e w3 ⟨rfl, rfl⟩
            go_wp2_with fail
            refine (T2.out _).mono ?_; rintro e w3 ⟨rfl, rfl⟩
            go_wp2_with fail
            have D0 : Hid (Below wr.heap.size wr wr.drew) := ⟨rfl, rfl, rfl, Nat.le_refl _, fun _ _ => rfl⟩
            have hcv2 : ∀ W : World, (convert 23 9 (.slice (some ⟨W.heap.size, 0, none⟩) q q)).run Tryz.prog (W.alloc (.cells MC 5)).drew = .ok (.string Z) (W.alloc (.cells MC 5)).drew := fun W => hcv W.drew
            have HS2 := Lib.hid hs2
            clear hs2 m4 m5 m6 m7
            refine wp_region_noPanic ?_
            refine wp_region_held_drew (S := fun _ => True) (by kernel_rfl) trivial (fun _ => ?_)
            refine wpAnyH_take (i := 0) (oi := { dst := some 113, op := Op.move (Operand.tmp 11), type := 114, pos := "ref.go:99", after := #[], guard := none }) (v := ?_) rfl (by kernel_rfl) (by kernel_rfl) (by kernel_rfl) (fun _ _ _ h => h) (Or.inl ⟨by rfl, ?_⟩) trivial ?_
            rotate_left
            · intro w hSw
              go_simp
              try with_reducible rfl
            try simp only [Act.put, List.setIfInBounds_toArray, List.set_cons_zero, List.set_cons_succ]
            refine wpAnyH_take (i := 1) (oi := { dst := some 114, op := Op.convert 114 32 (Operand.tmp 113), type := 32, pos := "ref.go:99", after := #[{ on := 0, ground := Ground.data }], guard := none }) (v := ?_) rfl (by kernel_rfl) (by kernel_rfl) (by kernel_rfl) (fun _ _ _ h => h) (Or.inl ⟨by rfl, ?_⟩) trivial ?_
            rotate_left
            · intro w hSw
              go_simp
              try with_reducible rfl
            try simp only [Act.put, List.setIfInBounds_toArray, List.set_cons_zero, List.set_cons_succ]
            refine wpAnyH_take (i := 2) (oi := { dst := some 115, op := Op.move (Operand.tmp 5), type := 9, pos := "ref.go:99", after := #[], guard := none }) (v := ?_) rfl (by kernel_rfl) (by kernel_rfl) (by kernel_rfl) (fun _ _ _ h => h) (Or.inl ⟨by rfl, ?_⟩) trivial ?_
            rotate_left
            · intro w hSw
              go_simp
              try with_reducible rfl
            try simp only [Act.put, List.setIfInBounds_toArray, List.set_cons_zero, List.set_cons_succ]
            refine wpAnyH_take (i := 3) (oi := { dst := some 116, op := Op.move (Operand.tmp 10), type := 3, pos := "ref.go:99", after := #[], guard := none }) (v := ?_) rfl (by kernel_rfl) (by kernel_rfl) (by kernel_rfl) (fun _ _ _ h => h) (Or.inl ⟨by rfl, ?_⟩) trivial ?_
            rotate_left
            · intro w hSw
              go_simp
              try with_reducible rfl
            try simp only [Act.put, List.setIfInBounds_toArray, List.set_cons_zero, List.set_cons_succ]
            refine wpAnyH_take (i := 4) (oi := { dst := some 117, op := Op.slice 9 (Operand.tmp 115) none (some (Operand.tmp 116)) none, type := 9, pos := "ref.go:99", after := #[{ on := 2, ground := Ground.data }, { on := 3, ground := Ground.data }], guard := none }) (v := ?_) rfl (by kernel_rfl) (by kernel_rfl) (by kernel_rfl) (fun _ _ _ h => h) (Or.inl ⟨by rfl, ?_⟩) trivial ?_
            rotate_left
            · intro w hSw
              go_simp
              try with_reducible rfl
            try simp only [Act.put, List.setIfInBounds_toArray, List.set_cons_zero, List.set_cons_succ]
            refine wpAnyH_ready (rs := [5]) (by kernel_rfl) (by simp) ?_
            refine AllReadyH.cons (o := { dst := some 118, op := Op.call { callee := Callee.value (Operand.func 130), args := #[Operand.tmp 117], argTypes := #[9] }, type := 32, pos := "ref.go:99", after := #[{ on := 4, ground := Ground.data }], guard := none }) rfl (fun K hK => ?_) AllReadyH.nil
            go_simp
            go_at_call 130
            refine (C1.out _).mono ?_
            rintro e y ⟨rfl, rfl⟩
            have hs2 := HS2.out
            refine hK.out _ _ trivial (fun _ => ?_)
            clear hK K
            try simp only [Act.put, List.setIfInBounds_toArray, List.set_cons_zero, List.set_cons_succ]
            refine wpAnyH_take (i := 6) (oi := { dst := some 119, op := Op.binOp BinOp.neq 32 (Operand.tmp 114) (Operand.tmp 118) 32, type := 4, pos := "ref.go:99", after := #[{ on := 1, ground := Ground.data }, { on := 5, ground := Ground.data }], guard := none }) (v := ?_) rfl (by kernel_rfl) (by kernel_rfl) (by kernel_rfl) (fun _ _ _ h => h) (Or.inl ⟨by rfl, ?_⟩) trivial ?_
            rotate_left
            · intro w hSw
              go_simp
              try with_reducible rfl
            try simp only [Act.put, List.setIfInBounds_toArray, List.set_cons_zero, List.set_cons_succ]
            refine wpAnyH_take (i := 7) (oi := { dst := some 120, op := Op.move (Operand.tmp 119), type := 4, pos := "ref.go:99", after := #[{ on := 6, ground := Ground.data }, { on := 5, ground := Ground.chain }], guard := none }) (v := ?_) rfl (by kernel_rfl) (by kernel_rfl) (by kernel_rfl) (fun _ _ _ h => h) (Or.inl ⟨by rfl, ?_⟩) trivial ?_
            rotate_left
            · intro w hSw
              go_simp
              try with_reducible rfl
            try simp only [Act.put, List.setIfInBounds_toArray, List.set_cons_zero, List.set_cons_succ]
            refine wpAnyH_take (i := 8) (oi := { dst := some 121, op := Op.move (Operand.tmp 5), type := 9, pos := "ref.go:99", after := #[{ on := 7, ground := Ground.guard }], guard := some (7, false) }) (v := ?_) rfl (by kernel_rfl) (by kernel_rfl) (by kernel_rfl) (fun _ _ _ h => h) (Or.inl ⟨by rfl, ?_⟩) trivial ?_
            rotate_left
            · intro w hSw
              go_simp
              try with_reducible rfl
            try simp only [Act.put, List.setIfInBounds_toArray, List.set_cons_zero, List.set_cons_succ]
            refine wpAnyH_take (i := 9) (oi := { dst := some 122, op := Op.move (Operand.tmp 10), type := 3, pos := "ref.go:99", after := #[{ on := 7, ground := Ground.guard }], guard := some (7, false) }) (v := ?_) rfl (by kernel_rfl) (by kernel_rfl) (by kernel_rfl) (fun _ _ _ h => h) (Or.inl ⟨by rfl, ?_⟩) trivial ?_
            rotate_left
            · intro w hSw
              go_simp
              try with_reducible rfl
            try simp only [Act.put, List.setIfInBounds_toArray, List.set_cons_zero, List.set_cons_succ]
            refine wpAnyH_take (i := 10) (oi := { dst := some 123, op := Op.binOp BinOp.add 3 (Operand.tmp 122) (Operand.const (Value.int IntKind.i64 4)) 3, type := 3, pos := "ref.go:99", after := #[{ on := 9, ground := Ground.data }, { on := 7, ground := Ground.guard }], guard := some (7, false) }) (v := ?_) rfl (by kernel_rfl) (by kernel_rfl) (by kernel_rfl) (fun _ _ _ h => h) (Or.inl ⟨by rfl, ?_⟩) trivial ?_
            rotate_left
            · intro w hSw
              go_simp
              try with_reducible rfl
            try simp only [Act.put, List.setIfInBounds_toArray, List.set_cons_zero, List.set_cons_succ]
            refine wpAnyH_take (i := 11) (oi := { dst := some 124, op := Op.slice 9 (Operand.tmp 121) (some (Operand.tmp 123)) none none, type := 9, pos := "ref.go:99", after := #[{ on := 8, ground := Ground.data }, { on := 10, ground := Ground.data }, { on := 7, ground := Ground.guard }], guard := some (7, false) }) (v := ?_) rfl (by kernel_rfl) (by kernel_rfl) (by kernel_rfl) (fun _ _ _ h => h) (Or.inl ⟨by rfl, ?_⟩) trivial ?_
            rotate_left
            · intro w hSw
              go_simp
              try with_reducible rfl
            try simp only [Act.put, List.setIfInBounds_toArray, List.set_cons_zero, List.set_cons_succ]
            refine wpAnyH_take (i := 12) (oi := { dst := some 125, op := Op.move (Operand.tmp 5), type := 9, pos := "ref.go:99", after := #[{ on := 7, ground := Ground.guard }], guard := some (7, false) }) (v := ?_) rfl (by kernel_rfl) (by kernel_rfl) (by kernel_rfl) (fun _ _ _ h => h) (Or.inl ⟨by rfl, ?_⟩) trivial ?_
            rotate_left
            · intro w hSw
              go_simp
              try with_reducible rfl
            try simp only [Act.put, List.setIfInBounds_toArray, List.set_cons_zero, List.set_cons_succ]
            refine wpAnyH_take (i := 13) (oi := { dst := some 126, op := Op.call { callee := Callee.builtin Builtin.len, args := #[Operand.tmp 125], argTypes := #[9] }, type := 3, pos := "ref.go:99", after := #[{ on := 12, ground := Ground.data }, { on := 7, ground := Ground.guard }], guard := some (7, false) }) (v := ?_) rfl (by kernel_rfl) (by kernel_rfl) (by kernel_rfl) (fun _ _ _ h => h) (Or.inl ⟨by rfl, ?_⟩) trivial ?_
            rotate_left
            · intro w hSw
              go_simp
              try with_reducible rfl
            try simp only [Act.put, List.setIfInBounds_toArray, List.set_cons_zero, List.set_cons_succ]
            refine wpAnyH_take (i := 14) (oi := { dst := some 127, op := Op.move (Operand.tmp 10), type := 3, pos := "ref.go:99", after := #[{ on := 7, ground := Ground.guard }], guard := some (7, false) }) (v := ?_) rfl (by kernel_rfl) (by kernel_rfl) (by kernel_rfl) (fun _ _ _ h => h) (Or.inl ⟨by rfl, ?_⟩) trivial ?_
            rotate_left
            · intro w hSw
              go_simp
              try with_reducible rfl
            try simp only [Act.put, List.setIfInBounds_toArray, List.set_cons_zero, List.set_cons_succ]
            refine wpAnyH_take (i := 15) (oi := { dst := some 128, op := Op.binOp BinOp.sub 3 (Operand.tmp 126) (Operand.tmp 127) 3, type := 3, pos := "ref.go:99", after := #[{ on := 13, ground := Ground.data }, { on := 14, ground := Ground.data }, { on := 7, ground := Ground.guard }], guard := some (7, false) }) (v := ?_) rfl (by kernel_rfl) (by kernel_rfl) (by kernel_rfl) (fun _ _ _ h => h) (Or.inl ⟨by rfl, ?_⟩) trivial ?_
            rotate_left
            · intro w hSw
              go_simp
              try with_reducible rfl
            try simp only [Act.put, List.setIfInBounds_toArray, List.set_cons_zero, List.set_cons_succ]
            refine wpAnyH_take (i := 16) (oi := { dst := some 129, op := Op.binOp BinOp.sub 3 (Operand.tmp 128) (Operand.const (Value.int IntKind.i64 4)) 3, type := 3, pos := "ref.go:99", after := #[{ on := 15, ground := Ground.data }, { on := 7, ground := Ground.guard }], guard := some (7, false) }) (v := ?_) rfl (by kernel_rfl) (by kernel_rfl) (by kernel_rfl) (fun _ _ _ h => h) (Or.inl ⟨by rfl, ?_⟩) trivial ?_
            rotate_left
            · intro w hSw
              go_simp
              try with_reducible rfl
            try simp only [Act.put, List.setIfInBounds_toArray, List.set_cons_zero, List.set_cons_succ]
            refine wpAnyH_ready (rs := [17]) (by kernel_rfl) (by simp) ?_
            refine AllReadyH.cons (o := { dst := some 130, op := Op.makeSlice 23 (Operand.tmp 129) (Operand.tmp 129), type := 23, pos := "ref.go:99", after := #[{ on := 16, ground := Ground.data }, { on := 16, ground := Ground.data }, { on := 7, ground := Ground.guard }], guard := some (7, false) }) rfl (fun K hK => ?_) AllReadyH.nil
            go_simp
            refine hK.out _ _ trivial (fun _ => ?_)
            clear hK K
            try simp only [Act.put, List.setIfInBounds_toArray, List.set_cons_zero, List.set_cons_succ]
            refine wpAnyH_ready (rs := [18]) (by kernel_rfl) (by simp) ?_
            refine AllReadyH.cons (o := { dst := some 131, op := Op.convert 23 9 (Operand.tmp 130), type := 9, pos := "ref.go:99", after := #[{ on := 17, ground := Ground.data }, { on := 7, ground := Ground.guard }], guard := some (7, false) }) rfl (fun K hK => ?_) AllReadyH.nil
            go_simp
            refine hK.out _ _ trivial (fun _ => ?_)
            clear hK K
            try simp only [Act.put, List.setIfInBounds_toArray, List.set_cons_zero, List.set_cons_succ]
            refine wpAnyH_take (i := 19) (oi := { dst := some 132, op := Op.binOp BinOp.neq 9 (Operand.tmp 124) (Operand.tmp 131) 9, type := 4, pos := "ref.go:99", after := #[{ on := 11, ground := Ground.data }, { on := 18, ground := Ground.data }, { on := 7, ground := Ground.guard }], guard := some (7, false) }) (v := ?_) rfl (by kernel_rfl) (by kernel_rfl) (by kernel_rfl) (fun _ _ _ h => h) (Or.inl ⟨by rfl, ?_⟩) trivial ?_
            rotate_left
            · intro w hSw
              go_simp
              try with_reducible rfl
            try simp only [Act.put, List.setIfInBounds_toArray, List.set_cons_zero, List.set_cons_succ]
            refine wpAnyH_take (i := 20) (oi := { dst := some 133, op := Op.pick (Operand.tmp 120) (Operand.const (Value.bool true)) (Operand.tmp 132), type := 4, pos := "ref.go:99", after := #[{ on := 7, ground := Ground.data }, { on := 19, ground := Ground.data }], guard := none }) (v := ?_) rfl (by kernel_rfl) (by kernel_rfl) (by kernel_rfl) (fun _ _ _ h => h) (Or.inl ⟨by rfl, ?_⟩) trivial ?_
            rotate_left
            · intro w hSw
              go_simp
              try with_reducible rfl
            try simp only [Act.put, List.setIfInBounds_toArray, List.set_cons_zero, List.set_cons_succ]
            refine wpAnyH_done (by kernel_rfl) ?_ _
            refine NoPanic.normal ?_
            obtain ⟨w5, hw5⟩ : ∃ w5, w5 = (wr.alloc (.cells MC 5)).drew := ⟨_, rfl⟩
            have D5 : Hid (Below w0.heap.size w0 w5) := by show Below _ _ _; rw [hw5]; exact bstep (bstep DB.out (below_a1 _ _)) ⟨rfl, rfl, rfl, Nat.le_refl _, fun _ _ => rfl⟩
            rw [← hw5]
            clear hw5
            have hc := HXC.out _ D5.out
            have hf := HXF.out _ D5.out
            go_wp2_with fail
            have hz := HZ.out _ D5.out (.string (ofL ((B.drop 4).take v))) (.int .u32 m) (.int .i64 (i : Int)) (.bool true)
            exact bodyPost_ret (v := .agg #[.string (ofL ((B.drop 4).take v)), .int .u32 m, .int .i64 (i : Int), .bool true]) (by simp [results, Tryz.results85, go_sem, hz]) rfl ⟨by rw [HS1.out]; rfl, HB.out _ D5.out _ _ _ _⟩
          · have hne : ((A.extract (8 + v) A.size).toList != Z.toList) = true := by
              rw [hrl, hZl, bne_iff_ne]
              intro h
              exact t4 (by rw [h, List.all_eq_true]; intro x hx; rw [(List.mem_replicate.1 hx).2]; rfl)
            have hqq : ((A.extract (8 + v) A.size).toList == Z.toList) = false := by simpa using hne
            have HN : Hid (readF (LL (x :: L)) = none) := by
              show _ = _
              rw [HQ.out, htx, if_neg (fun h => t4 h.2)]; rfl
            clear htx t4 hrl hZl hdl
            go_wp2_with fail
            refine (T1.out _).mono ?_; rintro e w3 ⟨rfl, rfl⟩
            go_wp2_with fail
            refine (Z1.out _).mono ?_; rintro e w3 ⟨rfl, rfl⟩
            go_wp2_with fail
            refine (T2.out _).mono ?_; rintro e w3 ⟨rfl, rfl⟩
            go_wp2_with fail
            have D0 : Hid (Below wr.heap.size wr wr.drew) := ⟨rfl, rfl, rfl, Nat.le_refl _, fun _ _ => rfl⟩
            have hcv2 : ∀ W : World, (convert 23 9 (.slice (some ⟨W.heap.size, 0, none⟩) q q)).run Tryz.prog (W.alloc (.cells MC 5)).drew = .ok (.string Z) (W.alloc (.cells MC 5)).drew := fun W => hcv W.drew
            have HS2 := Lib.hid hs2
            clear hs2 m4 m5 m6 m7
            refine wp_region_noPanic ?_
            refine wp_region_held_drew (S := fun _ => True) (by kernel_rfl) trivial (fun _ => ?_)
            refine wpAnyH_take (i := 0) (oi := { dst := some 113, op := Op.move (Operand.tmp 11), type := 114, pos := "ref.go:99", after := #[], guard := none }) (v := ?_) rfl (by kernel_rfl) (by kernel_rfl) (by kernel_rfl) (fun _ _ _ h => h) (Or.inl ⟨by rfl, ?_⟩) trivial ?_
            rotate_left
            · intro w hSw
              go_simp
              try with_reducible rfl
            try simp only [Act.put, List.setIfInBounds_toArray, List.set_cons_zero, List.set_cons_succ]
            refine wpAnyH_take (i := 1) (oi := { dst := some 114, op := Op.convert 114 32 (Operand.tmp 113), type := 32, pos := "ref.go:99", after := #[{ on := 0, ground := Ground.data }], guard := none }) (v := ?_) rfl (by kernel_rfl) (by kernel_rfl) (by kernel_rfl) (fun _ _ _ h => h) (Or.inl ⟨by rfl, ?_⟩) trivial ?_
            rotate_left
            · intro w hSw
              go_simp
              try with_reducible rfl
            try simp only [Act.put, List.setIfInBounds_toArray, List.set_cons_zero, List.set_cons_succ]
            refine wpAnyH_take (i := 2) (oi := { dst := some 115, op := Op.move (Operand.tmp 5), type := 9, pos := "ref.go:99", after := #[], guard := none }) (v := ?_) rfl (by kernel_rfl) (by kernel_rfl) (by kernel_rfl) (fun _ _ _ h => h) (Or.inl ⟨by rfl, ?_⟩) trivial ?_
            rotate_left
            · intro w hSw
              go_simp
              try with_reducible rfl
            try simp only [Act.put, List.setIfInBounds_toArray, List.set_cons_zero, List.set_cons_succ]
            refine wpAnyH_take (i := 3) (oi := { dst := some 116, op := Op.move (Operand.tmp 10), type := 3, pos := "ref.go:99", after := #[], guard := none }) (v := ?_) rfl (by kernel_rfl) (by kernel_rfl) (by kernel_rfl) (fun _ _ _ h => h) (Or.inl ⟨by rfl, ?_⟩) trivial ?_
            rotate_left
            · intro w hSw
              go_simp
              try with_reducible rfl
            try simp only [Act.put, List.setIfInBounds_toArray, List.set_cons_zero, List.set_cons_succ]
            refine wpAnyH_take (i := 4) (oi := { dst := some 117, op := Op.slice 9 (Operand.tmp 115) none (some (Operand.tmp 116)) none, type := 9, pos := "ref.go:99", after := #[{ on := 2, ground := Ground.data }, { on := 3, ground := Ground.data }], guard := none }) (v := ?_) rfl (by kernel_rfl) (by kernel_rfl) (by kernel_rfl) (fun _ _ _ h => h) (Or.inl ⟨by rfl, ?_⟩) trivial ?_
            rotate_left
            · intro w hSw
              go_simp
              try with_reducible rfl
            try simp only [Act.put, List.setIfInBounds_toArray, List.set_cons_zero, List.set_cons_succ]
            refine wpAnyH_ready (rs := [5]) (by kernel_rfl) (by simp) ?_
            refine AllReadyH.cons (o := { dst := some 118, op := Op.call { callee := Callee.value (Operand.func 130), args := #[Operand.tmp 117], argTypes := #[9] }, type := 32, pos := "ref.go:99", after := #[{ on := 4, ground := Ground.data }], guard := none }) rfl (fun K hK => ?_) AllReadyH.nil
            go_simp
            go_at_call 130
            refine (C1.out _).mono ?_
            rintro e y ⟨rfl, rfl⟩
            have hs2 := HS2.out
            refine hK.out _ _ trivial (fun _ => ?_)
            clear hK K
            try simp only [Act.put, List.setIfInBounds_toArray, List.set_cons_zero, List.set_cons_succ]
            refine wpAnyH_take (i := 6) (oi := { dst := some 119, op := Op.binOp BinOp.neq 32 (Operand.tmp 114) (Operand.tmp 118) 32, type := 4, pos := "ref.go:99", after := #[{ on := 1, ground := Ground.data }, { on := 5, ground := Ground.data }], guard := none }) (v := ?_) rfl (by kernel_rfl) (by kernel_rfl) (by kernel_rfl) (fun _ _ _ h => h) (Or.inl ⟨by rfl, ?_⟩) trivial ?_
            rotate_left
            · intro w hSw
              go_simp
              try with_reducible rfl
            try simp only [Act.put, List.setIfInBounds_toArray, List.set_cons_zero, List.set_cons_succ]
            refine wpAnyH_take (i := 7) (oi := { dst := some 120, op := Op.move (Operand.tmp 119), type := 4, pos := "ref.go:99", after := #[{ on := 6, ground := Ground.data }, { on := 5, ground := Ground.chain }], guard := none }) (v := ?_) rfl (by kernel_rfl) (by kernel_rfl) (by kernel_rfl) (fun _ _ _ h => h) (Or.inl ⟨by rfl, ?_⟩) trivial ?_
            rotate_left
            · intro w hSw
              go_simp
              try with_reducible rfl
            try simp only [Act.put, List.setIfInBounds_toArray, List.set_cons_zero, List.set_cons_succ]
            refine wpAnyH_take (i := 8) (oi := { dst := some 121, op := Op.move (Operand.tmp 5), type := 9, pos := "ref.go:99", after := #[{ on := 7, ground := Ground.guard }], guard := some (7, false) }) (v := ?_) rfl (by kernel_rfl) (by kernel_rfl) (by kernel_rfl) (fun _ _ _ h => h) (Or.inl ⟨by rfl, ?_⟩) trivial ?_
            rotate_left
            · intro w hSw
              go_simp
              try with_reducible rfl
            try simp only [Act.put, List.setIfInBounds_toArray, List.set_cons_zero, List.set_cons_succ]
            refine wpAnyH_take (i := 9) (oi := { dst := some 122, op := Op.move (Operand.tmp 10), type := 3, pos := "ref.go:99", after := #[{ on := 7, ground := Ground.guard }], guard := some (7, false) }) (v := ?_) rfl (by kernel_rfl) (by kernel_rfl) (by kernel_rfl) (fun _ _ _ h => h) (Or.inl ⟨by rfl, ?_⟩) trivial ?_
            rotate_left
            · intro w hSw
              go_simp
              try with_reducible rfl
            try simp only [Act.put, List.setIfInBounds_toArray, List.set_cons_zero, List.set_cons_succ]
            refine wpAnyH_take (i := 10) (oi := { dst := some 123, op := Op.binOp BinOp.add 3 (Operand.tmp 122) (Operand.const (Value.int IntKind.i64 4)) 3, type := 3, pos := "ref.go:99", after := #[{ on := 9, ground := Ground.data }, { on := 7, ground := Ground.guard }], guard := some (7, false) }) (v := ?_) rfl (by kernel_rfl) (by kernel_rfl) (by kernel_rfl) (fun _ _ _ h => h) (Or.inl ⟨by rfl, ?_⟩) trivial ?_
            rotate_left
            · intro w hSw
              go_simp
              try with_reducible rfl
            try simp only [Act.put, List.setIfInBounds_toArray, List.set_cons_zero, List.set_cons_succ]
            refine wpAnyH_take (i := 11) (oi := { dst := some 124, op := Op.slice 9 (Operand.tmp 121) (some (Operand.tmp 123)) none none, type := 9, pos := "ref.go:99", after := #[{ on := 8, ground := Ground.data }, { on := 10, ground := Ground.data }, { on := 7, ground := Ground.guard }], guard := some (7, false) }) (v := ?_) rfl (by kernel_rfl) (by kernel_rfl) (by kernel_rfl) (fun _ _ _ h => h) (Or.inl ⟨by rfl, ?_⟩) trivial ?_
            rotate_left
            · intro w hSw
              go_simp
              try with_reducible rfl
            try simp only [Act.put, List.setIfInBounds_toArray, List.set_cons_zero, List.set_cons_succ]
            refine wpAnyH_take (i := 12) (oi := { dst := some 125, op := Op.move (Operand.tmp 5), type := 9, pos := "ref.go:99", after := #[{ on := 7, ground := Ground.guard }], guard := some (7, false) }) (v := ?_) rfl (by kernel_rfl) (by kernel_rfl) (by kernel_rfl) (fun _ _ _ h => h) (Or.inl ⟨by rfl, ?_⟩) trivial ?_
            rotate_left
            · intro w hSw
              go_simp
              try with_reducible rfl
            try simp only [Act.put, List.setIfInBounds_toArray, List.set_cons_zero, List.set_cons_succ]
            refine wpAnyH_take (i := 13) (oi := { dst := some 126, op := Op.call { callee := Callee.builtin Builtin.len, args := #[Operand.tmp 125], argTypes := #[9] }, type := 3, pos := "ref.go:99", after := #[{ on := 12, ground := Ground.data }, { on := 7, ground := Ground.guard }], guard := some (7, false) }) (v := ?_) rfl (by kernel_rfl) (by kernel_rfl) (by kernel_rfl) (fun _ _ _ h => h) (Or.inl ⟨by rfl, ?_⟩) trivial ?_
            rotate_left
            · intro w hSw
              go_simp
              try with_reducible rfl
            try simp only [Act.put, List.setIfInBounds_toArray, List.set_cons_zero, List.set_cons_succ]
            refine wpAnyH_take (i := 14) (oi := { dst := some 127, op := Op.move (Operand.tmp 10), type := 3, pos := "ref.go:99", after := #[{ on := 7, ground := Ground.guard }], guard := some (7, false) }) (v := ?_) rfl (by kernel_rfl) (by kernel_rfl) (by kernel_rfl) (fun _ _ _ h => h) (Or.inl ⟨by rfl, ?_⟩) trivial ?_
            rotate_left
            · intro w hSw
              go_simp
              try with_reducible rfl
            try simp only [Act.put, List.setIfInBounds_toArray, List.set_cons_zero, List.set_cons_succ]
            refine wpAnyH_take (i := 15) (oi := { dst := some 128, op := Op.binOp BinOp.sub 3 (Operand.tmp 126) (Operand.tmp 127) 3, type := 3, pos := "ref.go:99", after := #[{ on := 13, ground := Ground.data }, { on := 14, ground := Ground.data }, { on := 7, ground := Ground.guard }], guard := some (7, false) }) (v := ?_) rfl (by kernel_rfl) (by kernel_rfl) (by kernel_rfl) (fun _ _ _ h => h) (Or.inl ⟨by rfl, ?_⟩) trivial ?_
            rotate_left
            · intro w hSw
              go_simp
              try with_reducible rfl
            try simp only [Act.put, List.setIfInBounds_toArray, List.set_cons_zero, List.set_cons_succ]
            refine wpAnyH_take (i := 16) (oi := { dst := some 129, op := Op.binOp BinOp.sub 3 (Operand.tmp 128) (Operand.const (Value.int IntKind.i64 4)) 3, type := 3, pos := "ref.go:99", after := #[{ on := 15, ground := Ground.data }, { on := 7, ground := Ground.guard }], guard := some (7, false) }) (v := ?_) rfl (by kernel_rfl) (by kernel_rfl) (by kernel_rfl) (fun _ _ _ h => h) (Or.inl ⟨by rfl, ?_⟩) trivial ?_
            rotate_left
            · intro w hSw
              go_simp
              try with_reducible rfl
            try simp only [Act.put, List.setIfInBounds_toArray, List.set_cons_zero, List.set_cons_succ]
            refine wpAnyH_ready (rs := [17]) (by kernel_rfl) (by simp) ?_
            refine AllReadyH.cons (o := { dst := some 130, op := Op.makeSlice 23 (Operand.tmp 129) (Operand.tmp 129), type := 23, pos := "ref.go:99", after := #[{ on := 16, ground := Ground.data }, { on := 16, ground := Ground.data }, { on := 7, ground := Ground.guard }], guard := some (7, false) }) rfl (fun K hK => ?_) AllReadyH.nil
            go_simp
            refine hK.out _ _ trivial (fun _ => ?_)
            clear hK K
            try simp only [Act.put, List.setIfInBounds_toArray, List.set_cons_zero, List.set_cons_succ]
            refine wpAnyH_ready (rs := [18]) (by kernel_rfl) (by simp) ?_
            refine AllReadyH.cons (o := { dst := some 131, op := Op.convert 23 9 (Operand.tmp 130), type := 9, pos := "ref.go:99", after := #[{ on := 17, ground := Ground.data }, { on := 7, ground := Ground.guard }], guard := some (7, false) }) rfl (fun K hK => ?_) AllReadyH.nil
            go_simp
            refine hK.out _ _ trivial (fun _ => ?_)
            clear hK K
            try simp only [Act.put, List.setIfInBounds_toArray, List.set_cons_zero, List.set_cons_succ]
            refine wpAnyH_take (i := 19) (oi := { dst := some 132, op := Op.binOp BinOp.neq 9 (Operand.tmp 124) (Operand.tmp 131) 9, type := 4, pos := "ref.go:99", after := #[{ on := 11, ground := Ground.data }, { on := 18, ground := Ground.data }, { on := 7, ground := Ground.guard }], guard := some (7, false) }) (v := ?_) rfl (by kernel_rfl) (by kernel_rfl) (by kernel_rfl) (fun _ _ _ h => h) (Or.inl ⟨by rfl, ?_⟩) trivial ?_
            rotate_left
            · intro w hSw
              go_simp
              try with_reducible rfl
            try simp only [Act.put, List.setIfInBounds_toArray, List.set_cons_zero, List.set_cons_succ]
            refine wpAnyH_take (i := 20) (oi := { dst := some 133, op := Op.pick (Operand.tmp 120) (Operand.const (Value.bool true)) (Operand.tmp 132), type := 4, pos := "ref.go:99", after := #[{ on := 7, ground := Ground.data }, { on := 19, ground := Ground.data }], guard := none }) (v := ?_) rfl (by kernel_rfl) (by kernel_rfl) (by kernel_rfl) (fun _ _ _ h => h) (Or.inl ⟨by rfl, ?_⟩) trivial ?_
            rotate_left
            · intro w hSw
              go_simp
              try with_reducible rfl
            try simp only [Act.put, List.setIfInBounds_toArray, List.set_cons_zero, List.set_cons_succ]
            refine wpAnyH_done (by kernel_rfl) ?_ _
            refine NoPanic.normal ?_
            obtain ⟨w5, hw5⟩ : ∃ w5, w5 = (wr.alloc (.cells MC 5)).drew := ⟨_, rfl⟩
            have D5 : Hid (Below w0.heap.size w0 w5) := by show Below _ _ _; rw [hw5]; exact bstep (bstep DB.out (below_a1 _ _)) ⟨rfl, rfl, rfl, Nat.le_refl _, fun _ _ => rfl⟩
            rw [← hw5]
            clear hw5
            have hc := HXC.out _ D5.out
            have hf := HXF.out _ D5.out
            go_wp2_with fail
            have hz := HZ.out _ D5.out (.string ⟨#[]⟩) (.int .u32 0) (.int .i64 0) (.bool false)
            exact bodyPost_ret (v := .agg #[.string ⟨#[]⟩, .int .u32 0, .int .i64 0, .bool false]) (by simp [results, Tryz.results85, go_sem, hz]) rfl ⟨by rw [HN.out]; rfl, HB.out _ D5.out _ _ _ _⟩
        · have q3 : ((u : Int) != (c : Int)) = true := by rw [bne_iff_ne]; omega
          have HN : Hid (readF (LL (x :: L)) = none) := by
            show _ = _
            rw [HQ.out, htx, if_neg (fun h => t3 (by omega))]; rfl
          clear htx hr t3
          go_wp2_with fail
          refine (T1.out _).mono ?_; rintro e w3 ⟨rfl, rfl⟩
          go_wp2_with fail
          refine (Z1.out _).mono ?_; rintro e w3 ⟨rfl, rfl⟩
          go_wp2_with fail
          refine (T2.out _).mono ?_; rintro e w3 ⟨rfl, rfl⟩
          go_wp2_with fail
          go_quiet ((go_at_call 130; exact Calls.quiet_of_same ((C1.out _).mono fun _ _ h => ⟨h.1, h.2.symm⟩)))
          obtain ⟨w4, hw4⟩ : ∃ w4, w4 = wr.drewN nq := ⟨_, rfl⟩
          have D4 : Hid (Below w0.heap.size w0 w4) := by show Below _ _ _; rw [hw4]; exact bstep DB.out (below_dN _ _)
          rw [← hw4]
          clear hw4
          have hc := HXC.out _ D4.out
          have hf := HXF.out _ D4.out
          go_wp2_with fail
          have hz := HZ.out _ D4.out (.string ⟨#[]⟩) (.int .u32 0) (.int .i64 0) (.bool false)
          exact bodyPost_ret (v := .agg #[.string ⟨#[]⟩, .int .u32 0, .int .i64 0, .bool false]) (by simp [results, Tryz.results85, go_sem, hz]) rfl ⟨by rw [HN.out]; rfl, HB.out _ D4.out _ _ _ _⟩
      · have HN : Hid (readF (LL (x :: L)) = none) := by
          show _ = _
          rw [HQ.out, textF_size hv t2]; rfl
        have g2 : ((szN v : Int) != (i : Int)) = true := by rw [bne_iff_ne]; omega
        obtain ⟨z, hz⟩ : ∃ z, z = szN v := ⟨_, rfl⟩
        rw [← hz] at Z1 g2
        clear hv hz t2
        go_wp2_with fail
        refine (T1.out _).mono ?_; rintro e w3 ⟨rfl, rfl⟩
        go_wp2_with fail
        refine (Z1.out _).mono ?_; rintro e w3 ⟨rfl, rfl⟩
        have hc := HXC.out _ DB.out
        have hf := HXF.out _ DB.out
        go_wp2_with fail
        have hz := HZ.out _ DB.out (.string ⟨#[]⟩) (.int .u32 0) (.int .i64 0) (.bool false)
        exact bodyPost_ret (v := .agg #[.string ⟨#[]⟩, .int .u32 0, .int .i64 0, .bool false]) (by simp [results, Tryz.results85, go_sem, hz]) rfl ⟨by rw [HN.out]; rfl, HB.out _ DB.out _ _ _ _⟩
end Go.Proofs.YtdbiebnnogjccaaGreatDoor
