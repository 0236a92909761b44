/- Frames (layer 18): read. -/
import Derived.Test.YtdbiebnnogjccaaGreatDoorFg
namespace Go.Proofs.YtdbiebnnogjccaaGreatDoor
open Go.RowKit
theorem builder_below {T e : TypeId} {B b : Nat} {bs : List Value} {w w' : World} (h : Lib.IsBuilder T e B b bs w) (hb : Below w.heap.size w w') : Lib.IsBuilder T e B b bs w' := by
  rcases h with ⟨h1, v, h2, h3, h4⟩ | ⟨h1, v, h2, h3, h4⟩
  · exact .inl ⟨h1, v, blk_below h2 hb, row_bel h3 hb, h4⟩
  · exact .inr ⟨h1, v, blk_below h2 hb, row_bel h3 hb, h4⟩
/-- What read hands back. -/
def ReadP (o : Option (List UInt8 × Int × Nat)) (a0 a1 a2 : Addr) (e : Ending) : Prop :=
  match o with
  | some (s, _, k) => e = .returned (.tuple #[.string (ofL s), .int .i64 (k : Int), .nilIface])
  | none => ∃ (m : Int) (a : Addr), (a = a0 ∨ a = a1 ∨ a = a2) ∧ e = .returned (.tuple #[.string ⟨#[]⟩, .int .i64 m, .iface 308 (.pointer (some a))])
def LL (L : List ByteArray) : List (List UInt8) := L.map fun b => b.data.toList
theorem LL_getD {L : List ByteArray} {i : Nat} (h : i < L.length) : (LL L).getD i [] = L[i].data.toList := by
  unfold LL
  rw [List.getD_eq_getElem?_getD, List.getElem?_map, List.getElem?_eq_getElem h]; rfl
theorem body_snoc {L : List ByteArray} {i : Nat} (h : i < L.length) : bodyF ((LL L).take (i + 1)) = bodyF ((LL L).take i) ++ (L[i].extract 8 252).data.toList := by
  have hl : i < (LL L).length := by simpa [LL] using h
  unfold bodyF
  rw [List.take_succ_eq_append_getElem hl, List.map_append, List.flatten_append, extract_list]
  simp [LL]
theorem body_len {L : List ByteArray} : ∀ {i : Nat}, i ≤ L.length → (∀ j (h : j < i) (h2 : j < L.length), L[j].size = 256) → (bodyF ((LL L).take i)).length = i * 244
  | 0, _, _ => by simp [bodyF]
  | i + 1, h, hall => by
    have hi : i < L.length := by omega
    rw [body_snoc hi, List.length_append, body_len (by omega) (fun j hj h2 => hall j (by omega) h2), size_list, ByteArray.size_extract, hall i (by omega) hi]
    omega
theorem num_size {b : ByteArray} (h : numF b.data.toList ≠ 0) : b.size = 256 := by
  unfold numF at h
  split at h
  · rename_i hh; rw [size_list] at hh; exact hh.1
  · exact absurd rfl h
theorem num_bd (b : ByteArray) : 0 ≤ numF b.data.toList ∧ numF b.data.toList < 4294967296 := by
  unfold numF
  split
  · rename_i hh
    have := valBE_bd 4 (b.data.toList.take 4).reverse (by rw [List.length_reverse, List.length_take]; omega)
    unfold valLE; omega
  · omega
theorem take_at2 {b : ByteArray} {a : Nat} (h : a + 2 ≤ b.size) : ∃ v : Nat, (v : Int) = valBE ((b.data.toList.drop a).take 2) ∧ v < 65536 ∧ takeR b a 2 = ((v : Int), (a : Int) + 2, 0) := by
  have hb := valBE_bd 2 ((b.data.toList.drop a).take 2) (by rw [List.length_take, List.length_drop, size_list]; omega)
  refine ⟨(valBE ((b.data.toList.drop a).take 2)).toNat, by omega, by have := hb.2; omega, ?_⟩
  unfold takeR
  rw [if_neg (by decide), if_neg (by omega)]
  have e : ((valBE ((b.data.toList.drop a).take 2)).toNat : Int) = valBE ((b.data.toList.drop a).take 2) := by omega
  rw [e]
  rfl
theorem readF_cons {x : ByteArray} {L : List ByteArray} {k : Nat} (hk : (k : Int) = valBE ((x.data.toList.drop 6).take 2)) : readF (LL (x :: L)) = if numF x.data.toList = 0 ∨ k < 1 ∨ (x :: L).length < k then none
    else if (List.range k).all (fun i => pieceF (numF x.data.toList) k ((LL (x :: L)).getD i []) i) then (textF (bodyF ((LL (x :: L)).take k)) k).map fun s => (s, numF x.data.toList, k) else none := by
  have e : (valBE ((x.data.toList.drop 6).take 2)).toNat = k := by omega
  show readF (x.data.toList :: LL L) = _
  unfold readF
  dsimp only
  rw [e]
  have e2 : (x.data.toList :: LL L).length = (x :: L).length := by simp [LL]
  rw [e2]
  rfl
theorem readF_nil : readF (LL []) = none := rfl
theorem readF_zero {x : ByteArray} {L : List ByteArray} (h : numF x.data.toList = 0) : readF (LL (x :: L)) = none := by
  show readF (x.data.toList :: LL L) = _
  unfold readF
  dsimp only
  rw [if_pos (.inl h)]
set_option maxRecDepth 100000 in
set_option maxHeartbeats 4000000 in
theorem frame_read (v : Value) (L : List ByteArray) (hL : L.length < 9223372036854775807) (a0 a1 a2 : Addr) (w : World) (hw : FrW w a0 a1 a2) (hv : SlStrs w v L) :
    Calls Tryz.prog 117 #[v] w fun e w' => ReadP (readF (LL L)) a0 a1 a2 e ∧ Below w.heap.size w w' := by
  obtain ⟨p, cp, rfl, hcp⟩ := hv.form
  have HW := Lib.hid hw
  have HV := Lib.hid hv
  clear hw hv
  cases L with
  | nil =>
    have HR := Lib.hid readF_nil
    have z0 : (((0 : Nat) : Int) == 0) = true := rfl
    have hc := HW.out.v0
    simp only [List.length_nil]
    go_enter Tryz.func117, Tryz.ntmps117
    go_wp2_with fail
    go_quiet (fail)
    go_wp2_with fail
    go_ret3
    exact ⟨by rw [HR.out]; exact ⟨0, a0, .inl rfl, rfl⟩, below_dN _ _⟩
  | cons x L =>
  obtain ⟨n, hn⟩ : ∃ n : Nat, n = (x :: L).length := ⟨_, rfl⟩
  have hn1 : 1 ≤ n := by rw [hn]; simp
  have hnb : n < 9223372036854775807 := by omega
  obtain ⟨b, off, rfl, hS⟩ := HV.out.at (k := 0) (by simp)
  rw [← hn]
  rw [← hn] at hcp
  have HS := Lib.hid hS
  have Hn := Lib.hid hn
  clear hS hn HV hL
  have hc0 : w.cell? ⟨b, off, none⟩ = some (.string x) := HS.out.at' 0 (by simp)
  have z0 : ((n : Int) == 0) = false := by rw [beq_eq_false_iff_ne]; omega
  have i0 : (0 : Int) < (n : Int) := by omega
  have NB := Lib.hid (fun W => frame_Num x W)
  by_cases c0 : numF x.data.toList = 0
  · have HR := Lib.hid (readF_zero (L := L) c0)
    rw [c0] at NB
    clear c0
    go_enter Tryz.func117, Tryz.ntmps117
    go_wp2_with fail
    refine (NB.out _).mono ?_; rintro e w1 ⟨rfl, hb1⟩
    have hc := (HW.out.below hb1).v0
    have B1 := Lib.hid hb1
    clear hb1
    go_wp2_with fail
    go_quiet (fail)
    go_wp2_with fail
    go_ret3
    exact ⟨by rw [HR.out]; exact ⟨0, a0, .inl rfl, rfl⟩, bstep B1.out (below_dN _ _)⟩
  have hxz := num_size c0
  have hnd := num_bd x
  obtain ⟨k, hk, hkb, ht⟩ := take_at2 (b := x) (a := 6) (by omega)
  have T1 := Lib.hid (fun W h => pack_Take_eq (b := x) (a := 6) (n := 2) ht (by omega) W h)
  have hR := readF_cons (L := L) hk
  rw [← Hn.out] at hR
  have z1 : (numF x.data.toList == 0) = false := by rw [beq_eq_false_iff_ne]; exact c0
  clear ht hk
  have z64 : IntKind.i64.wrap (k : Int) = (k : Int) := IntWalk.i64_in _ (by omega)
  by_cases c1 : k < 1
  · have HR := Lib.hid (hR.trans (if_pos (.inr (.inl c1))))
    have l1 : (k : Int) < 1 := by omega
    obtain ⟨m, hm⟩ : ∃ m, m = numF x.data.toList := ⟨_, rfl⟩
    rw [← hm] at NB z1
    clear hR hm c0 hnd
    go_enter Tryz.func117, Tryz.ntmps117
    go_wp2_with fail
    refine (NB.out _).mono ?_; rintro e w1 ⟨rfl, hb1⟩
    have hc1 := cell_below hc0 hb1
    have B1 := Lib.hid hb1
    clear hb1
    go_wp2_with fail
    refine (T1.out _ (HW.out.below B1.out).et).mono ?_; rintro e w2 ⟨rfl, hb2⟩
    have B2 := Lib.hid (bstep B1.out hb2)
    have hc := (HW.out.below B2.out).v1
    clear hb2 hc1
    go_wp2_with fail
    go_quiet (fail)
    go_wp2_with fail
    go_ret3
    exact ⟨by rw [HR.out]; exact ⟨0, a1, .inr (.inl rfl), rfl⟩, bstep B2.out (below_dN _ _)⟩
  have l1 : ¬ (k : Int) < 1 := by omega
  by_cases c2 : n < k
  · have HR := Lib.hid (hR.trans (if_pos (.inr (.inr c2))))
    have l2 : (n : Int) < (k : Int) := by omega
    obtain ⟨m, hm⟩ : ∃ m, m = numF x.data.toList := ⟨_, rfl⟩
    rw [← hm] at NB z1
    clear hR hm c0 hnd
    go_enter Tryz.func117, Tryz.ntmps117
    go_wp2_with fail
    refine (NB.out _).mono ?_; rintro e w1 ⟨rfl, hb1⟩
    have hc1 := cell_below hc0 hb1
    have B1 := Lib.hid hb1
    clear hb1
    go_wp2_with fail
    refine (T1.out _ (HW.out.below B1.out).et).mono ?_; rintro e w2 ⟨rfl, hb2⟩
    have B2 := Lib.hid (bstep B1.out hb2)
    have hc := (HW.out.below B2.out).v1
    clear hb2 hc1
    go_wp2_with fail
    go_quiet (fail)
    go_wp2_with fail
    go_ret3
    exact ⟨by rw [HR.out]; exact ⟨0, a1, .inr (.inl rfl), rfl⟩, bstep B2.out (below_dN _ _)⟩
  have l2 : ¬ (n : Int) < (k : Int) := by omega
  have hR2 := hR.trans (if_neg (by omega))
  obtain ⟨m, hm⟩ : ∃ m, m = numF x.data.toList := ⟨_, rfl⟩
  rw [← hm] at NB z1 hR2 hnd
  have HR := Lib.hid hR2
  have Hm := Lib.hid hm
  have Hc0 := Lib.hid (show m ≠ 0 by rw [hm]; exact c0)
  have kn : (k : Int) ≤ (n : Int) := by omega
  have k0 : (0 : Int) ≤ (k : Int) := by omega
  clear hR hR2 hm c0
  go_enter Tryz.func117, Tryz.ntmps117
  go_wp2_with fail
  refine (NB.out _).mono ?_; rintro e w1 ⟨rfl, hb1⟩
  have hc1 := cell_below hc0 hb1
  have B1 := Lib.hid hb1
  clear hb1
  go_wp2_with fail
  refine (T1.out _ (HW.out.below B1.out).et).mono ?_; rintro e w2 ⟨rfl, hb2⟩
  have B2 := Lib.hid (bstep B1.out hb2)
  clear hb2 hc1
  have kc : (k : Int) ≤ (cp : Int) := by omega
  go_upto_region 7 with (fail)
  obtain ⟨w3, hw3⟩ : ∃ w3, w2.alloc (.cells #[.pointer none, .slice none 0 0] 194) = w3 := ⟨_, rfl⟩
  have I3 : Hid (Lib.IsBuilder 194 5 w2.heap.size w2.heap.size (Lib.byteCells []) w3) := by show Lib.IsBuilder _ _ _ _ _ _; rw [← hw3]; exact Lib.fresh_isBuilder _ _ _
  have D3 : Hid (Below w2.heap.size w2 w3) := by show Below _ _ _; rw [← hw3]; exact below_a1 _ _
  rw [hw3]
  clear hw3
  have HSk : Hid (StrsAt w2 b off (x :: L)) := HS.out.below B2.out
  have W2 : Hid (FrW w2 a0 a1 a2) := HW.out.below B2.out
  go_wp2_with fail
  go_loopw [48] (fun c wr => ∃ i : Nat, i ≤ k ∧ c = .int .i64 i ∧ Lib.IsBuilder 194 5 w2.heap.size w2.heap.size (Lib.byteCells (bodyF ((LL (x :: L)).take i))) wr ∧ Below w2.heap.size w2 wr ∧ (∀ j, j < i → pieceF m k ((LL (x :: L)).getD j []) j = true)) (fun c _ => k - (intOf c).toNat)
  case atStart => exact ⟨0, Nat.zero_le _, rfl, I3.out, D3.out, fun j h => absurd h (by omega)⟩
  case round =>
    obtain ⟨i, hik, rfl, hI, hB, hP⟩ := hrel
    have HI := Lib.hid hI; have HB := Lib.hid hB; have HP := Lib.hid hP
    clear hI hB hP
    by_cases hlt : i < k
    · have hi : (i : Int) < (k : Int) := by omega
      have hin : i < (x :: L).length := by rw [← Hn.out]; omega
      have ii : (0 : Int) ≤ (i : Int) := by omega
      have cy := (HSk.out.below HB.out).at' i hin
      have cx : wr.cell? ⟨b, off, none⟩ = some (.string x) := (HSk.out.below HB.out).at' 0 (by simp)
      have hg := LL_getD hin
      have hbs := body_snoc hin
      have hsz : Hid (∀ j (h : j < i) (h2 : j < (x :: L).length), (x :: L)[j].size = 256) := fun j h h2 => by
        have hp := HP.out j h
        rw [LL_getD h2] at hp
        unfold pieceF at hp
        simp only [Bool.and_eq_true, decide_eq_true_eq] at hp
        exact num_size (by rw [hp.1]; exact Hc0.out)
      have hbl := body_len (L := x :: L) (i := i) (Nat.le_of_lt hin) hsz.out
      obtain ⟨y, hy⟩ : ∃ y, y = (x :: L)[i] := ⟨_, rfl⟩
      rw [← hy] at cy hg hbs
      have Hg := Lib.hid hg; have Hbs := Lib.hid hbs; have Hbl := Lib.hid hbl
      clear hy hg hbs hbl
      cases hp : pieceF m k y.data.toList i with
      | false =>
        have PC := Lib.hid (fun W h => frame_piece_no y m i k Hc0.out (by omega) hkb a0 a1 a2 W h hp)
        have HN : Hid (readF (LL (x :: L)) = none) := by
          show _ = _
          rw [HR.out, if_neg]
          rw [Bool.not_eq_true, List.all_eq_false]
          exact ⟨i, List.mem_range.2 hlt, by rw [Hg.out, hp]; decide⟩
        clear hp
        go_wp2_with fail
        refine (NB.out _).mono ?_; rintro e y1 ⟨rfl, hb1⟩
        have B3 := Lib.hid (bstep HB.out hb1)
        clear hb1
        go_wp2_with fail
        refine (PC.out _ (W2.out.below B3.out)).mono ?_; rintro e y2 ⟨⟨a, ha, rfl⟩, hb2⟩
        have B4 := Lib.hid (bstep B2.out (bstep B3.out hb2))
        clear hb2
        go_wp2_with fail
        go_ret3
        exact ⟨by rw [HN.out]; exact ⟨0, a, by rcases ha with h | h <;> simp [h], rfl⟩, B4.out⟩
      | true =>
        have PC := Lib.hid (fun W h => frame_piece_ok y m i k Hc0.out (by omega) hkb a0 a1 a2 W h hp)
        have hyz : y.size = 256 := by
          have hp' := hp
          unfold pieceF at hp'
          simp only [Bool.and_eq_true, decide_eq_true_eq] at hp'
          exact num_size (by rw [hp'.1]; exact Hc0.out)
        have HPy := Lib.hid hp
        have Hyz := Lib.hid hyz
        obtain ⟨Y, hY⟩ : ∃ Y, Y = y.extract 8 252 := ⟨_, rfl⟩
        rw [← hY] at PC Hbs
        have hYz : Y.size = 244 := by rw [hY, ByteArray.size_extract]; omega
        clear hp hyz hY
        go_wp2_with fail
        refine (NB.out _).mono ?_; rintro e y1 ⟨rfl, hb1⟩
        have B3 := Lib.hid (bstep HB.out hb1)
        have I4 := Lib.hid (builder_below HI.out hb1)
        clear hb1
        go_wp2_with fail
        refine (PC.out _ (W2.out.below B3.out)).mono ?_; rintro e y2 ⟨rfl, hb2⟩
        have B4 := Lib.hid (bstep B3.out hb2)
        have I5 := Lib.hid (builder_below I4.out hb2)
        clear hb2 I4
        go_wp2_with fail
        refine (Tryz.Builder_WriteString_r w2.heap.size w2.heap.size _ Y _ I5.out (by rw [Lib.byteCells, List.length_map, Hbl.out]; omega) B4.out.size).mono ?_; rintro e y3 ⟨rfl, hI3, hb3⟩
        have B5 := Lib.hid (B4.out.trans hb3)
        have I6 := Lib.hid hI3
        clear hI3 hb3
        go_wp2_with fail
        go_roundw
        case rel =>
          refine ⟨i + 1, by omega, by go_num, ?_, B5.out, ?_⟩
          · rw [Hbs.out]
            have e : Lib.byteCells (bodyF ((LL (x :: L)).take i) ++ Y.data.toList) = Lib.byteCells (bodyF ((LL (x :: L)).take i)) ++ Lib.strCells Y := by simp [Lib.byteCells, Lib.strCells]
            rw [e]; exact .inr I6.out
          · intro j hj
            by_cases hji : j < i
            · exact HP.out j hji
            · obtain rfl : j = i := by omega
              rw [Hg.out]; exact HPy.out
        case measure => simp [intOf]; omega
    · have hi : ¬ (i : Int) < (k : Int) := by omega
      obtain rfl : i = k := by omega
      have hlk : i ≤ (x :: L).length := by rw [← Hn.out]; omega
      have hsz : ∀ j (h : j < i) (h2 : j < (x :: L).length), (x :: L)[j].size = 256 := fun j h h2 => by
        have hp := HP.out j h
        rw [LL_getD h2] at hp
        unfold pieceF at hp
        simp only [Bool.and_eq_true, decide_eq_true_eq] at hp
        exact num_size (by rw [hp.1]; exact Hc0.out)
      have hbl := body_len (L := x :: L) hlk hsz
      obtain ⟨B, hB⟩ : ∃ B, B = bodyF ((LL (x :: L)).take i) := ⟨_, rfl⟩
      have TX := Lib.hid (fun W h => frame_text (ofL B) i (by omega) hkb (by rw [ofL_size, hB, hbl]) a0 a1 a2 W h)
      rw [ofL_list] at TX
      have HQ : Hid (readF (LL (x :: L)) = (textF B i).map fun s => (s, m, i)) := by
        show _ = _
        rw [HR.out, if_pos, ← hB]
        rw [List.all_eq_true]
        intro j hj
        exact HP.out j (List.mem_range.1 hj)
      rw [← hB] at HI
      clear hB hbl hsz hlk
      go_wp2_with fail
      refine (Tryz.Builder_String_r w2.heap.size w2.heap.size B _ HI.out HB.out.size).mono ?_; rintro e y1 ⟨rfl, hb1⟩
      have B3 := Lib.hid (HB.out.trans hb1)
      clear hb1
      go_wp2_with fail
      refine (TX.out _ (W2.out.below B3.out)).mono ?_; rintro e y2 ⟨ht, hb2⟩
      have B4 := Lib.hid (bstep B2.out (bstep B3.out hb2))
      clear hb2
      cases hT : textF B i with
      | none =>
        rw [hT] at ht
        obtain ⟨a, ha, rfl⟩ := ht
        have HN := Lib.hid (HQ.out.trans (congrArg _ hT))
        clear hT
        go_wp2_with fail
        go_ret3
        exact ⟨by rw [HN.out]; exact ⟨(i : Int), a, by rcases ha with h | h <;> simp [h], rfl⟩, B4.out⟩
      | some s =>
        rw [hT] at ht
        obtain rfl : e = _ := ht
        have HN := Lib.hid (HQ.out.trans (congrArg _ hT))
        clear hT
        go_wp2_with fail
        go_ret3
        exact ⟨by rw [HN.out]; rfl, B4.out⟩
end Go.Proofs.YtdbiebnnogjccaaGreatDoor

/- Frames (layer 18): Read. -/
namespace Go.Proofs.YtdbiebnnogjccaaGreatDoor
open Go.RowKit
/-- What Read hands back. -/
def ReadQ (o : Option (List UInt8 × Int × Nat)) (e : Ending) : Prop :=
  match o with
  | some (s, n, k) => e = .returned (.tuple #[.string (ofL s), .int .u32 n, .int .i64 (k : Int), .bool true])
  | none => e = .returned (.tuple #[.string ⟨#[]⟩, .int .u32 0, .int .i64 0, .bool false])
theorem readF_some {L : List ByteArray} {s : List UInt8} {n : Int} {k : Nat} (h : readF (LL L) = some (s, n, k)) : ∃ x L', L = x :: L' ∧ n = numF x.data.toList := by
  cases L with
  | nil => cases h
  | cons x L =>
    refine ⟨x, L, rfl, ?_⟩
    have h' : readF (x.data.toList :: LL L) = some (s, n, k) := h
    unfold readF at h'
    dsimp only at h'
    split at h'
    · cases h'
    · split at h'
      · rw [Option.map_eq_some_iff] at h'
        obtain ⟨t, _, e⟩ := h'
        injection e with _ e2
        injection e2 with e3 _
        exact e3.symm
      · cases h'
set_option maxRecDepth 100000 in
set_option maxHeartbeats 4000000 in
theorem frame_Read (v : Value) (L : List ByteArray) (hL : L.length < 9223372036854775807) (a0 a1 a2 : Addr) (w : World) (hw : FrW w a0 a1 a2) (hv : SlStrs w v L) :
    Calls Tryz.prog 71 #[v] w fun e w' => ReadQ (readF (LL L)) e ∧ Below w.heap.size w w' := by
  have RD := Lib.hid (frame_read v L hL a0 a1 a2 w hw hv)
  have HW := Lib.hid hw
  have HV := Lib.hid hv
  clear hw hv hL
  cases hR : readF (LL L) with
  | none =>
    rw [hR] at RD
    clear hR
    have HN : Hid (∀ W W' : World, Below W.heap.size W W' → ReadQ none (.returned (.tuple #[.string ⟨#[]⟩, .int .u32 0, .int .i64 0, .bool false])) ∧ Below W.heap.size W W') := fun W W' h => ⟨rfl, h⟩
    go_enter Tryz.func71, Tryz.ntmps71
    go_wp2_with fail
    refine RD.out.mono ?_; rintro e w1 ⟨⟨m, a, ha, rfl⟩, hb1⟩
    have W1 := Lib.hid (HW.out.below hb1)
    have B1 := Lib.hid hb1
    clear hb1
    have c0 := W1.out.v0
    have c1 := W1.out.v1
    have c2 := W1.out.v2
    obtain ⟨d0, t0, b0⟩ := W1.out.b0
    obtain ⟨d1, t1, b1⟩ := W1.out.b1
    obtain ⟨d2, t2, b2⟩ := W1.out.b2
    have I0 := Lib.hid b0; have I1 := Lib.hid b1; have I2 := Lib.hid b2
    clear b0 b1 b2
    by_cases h0 : a = a0
    · subst h0
      clear ha
      go_wp2_with fail
      refine (is_same _ _).mono ?_; rintro e w2 ⟨rfl, rfl⟩
      go_wp2_with fail
      refine bodyPost_ret (v := .tuple #[.string ⟨#[]⟩, .int .u32 0, .int .i64 0, .bool false]) (by simp [results, Tryz.results71, go_sem]) rfl (HN.out _ _ B1.out)
    by_cases h1 : a = a1
    · subst h1
      clear ha
      have H0 := Lib.hid h0
      clear h0
      go_wp2_with fail
      refine (is_other _ _ _ _ _ _ _ H0.out I1.out I0.out).mono ?_; rintro e w2 ⟨rfl, rfl⟩
      go_wp2_with fail
      refine (is_same _ _).mono ?_; rintro e w2 ⟨rfl, rfl⟩
      go_wp2_with fail
      refine bodyPost_ret (v := .tuple #[.string ⟨#[]⟩, .int .u32 0, .int .i64 0, .bool false]) (by simp [results, Tryz.results71, go_sem]) rfl (HN.out _ _ B1.out)
    obtain rfl : a = a2 := by
      rcases ha with h | h | h
      · exact absurd h h0
      · exact absurd h h1
      · exact h
    have H0 := Lib.hid h0; have H1 := Lib.hid h1
    clear ha h0 h1
    go_wp2_with fail
    refine (is_other _ _ _ _ _ _ _ H0.out I2.out I0.out).mono ?_; rintro e w2 ⟨rfl, rfl⟩
    go_wp2_with fail
    refine (is_other _ _ _ _ _ _ _ H1.out I2.out I1.out).mono ?_; rintro e w2 ⟨rfl, rfl⟩
    go_wp2_with fail
    refine (is_same _ _).mono ?_; rintro e w2 ⟨rfl, rfl⟩
    go_wp2_with fail
    refine bodyPost_ret (v := .tuple #[.string ⟨#[]⟩, .int .u32 0, .int .i64 0, .bool false]) (by simp [results, Tryz.results71, go_sem]) rfl (HN.out _ _ B1.out)
  | some r =>
    obtain ⟨s, n, k⟩ := r
    rw [hR] at RD
    obtain ⟨x, L', rfl, hn⟩ := readF_some hR
    obtain ⟨p, cp, rfl, hcp⟩ := HV.out.form
    obtain ⟨b, off, rfl, hS⟩ := HV.out.at (k := 0) (by simp)
    obtain ⟨q, hq⟩ : ∃ q, q = (x :: L').length := ⟨_, rfl⟩
    rw [← hq] at RD ⊢
    have i0 : (0 : Int) < (q : Int) := by rw [hq]; simp
    have c0 : w.cell? ⟨b, off, none⟩ = some (.string x) := hS.at' 0 (by simp)
    have C0 := Lib.hid c0
    have NB := Lib.hid (fun W => frame_Num x W)
    rw [← hn] at NB
    have HN : Hid (∀ W W' : World, Below W.heap.size W W' → ReadQ (some (s, n, k)) (.returned (.tuple #[.string (ofL s), .int .u32 n, .int .i64 (k : Int), .bool true])) ∧ Below W.heap.size W W') := fun W W' h => ⟨rfl, h⟩
    clear hR hn hS hcp HV hq c0
    go_enter Tryz.func71, Tryz.ntmps71
    go_wp2_with fail
    refine RD.out.mono ?_; rintro e w1 ⟨he, hb1⟩
    obtain rfl : e = _ := he
    have W1 := Lib.hid (HW.out.below hb1)
    have B1 := Lib.hid hb1
    have cc := cell_below C0.out hb1
    clear hb1
    have c0 := W1.out.v0
    have c1 := W1.out.v1
    have c2 := W1.out.v2
    go_wp2_with fail
    refine (is_nil _ _).mono ?_; rintro e w2 ⟨rfl, rfl⟩
    go_wp2_with fail
    refine (is_nil _ _).mono ?_; rintro e w2 ⟨rfl, rfl⟩
    go_wp2_with fail
    refine (is_nil _ _).mono ?_; rintro e w2 ⟨rfl, rfl⟩
    go_wp2_with fail
    refine (NB.out _).mono ?_; rintro e w2 ⟨rfl, hb2⟩
    have B2 := Lib.hid (bstep B1.out hb2)
    clear hb2
    go_wp2_with fail
    refine bodyPost_ret (v := .tuple #[.string (ofL s), .int .u32 n, .int .i64 (k : Int), .bool true]) (by simp [results, Tryz.results71, go_sem]) rfl (HN.out _ _ B2.out)
end Go.Proofs.YtdbiebnnogjccaaGreatDoor
