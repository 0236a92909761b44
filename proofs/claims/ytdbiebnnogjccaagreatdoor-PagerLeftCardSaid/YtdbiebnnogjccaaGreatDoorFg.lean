/- Frames (layer 18): text. -/
import Derived.Test.YtdbiebnnogjccaaGreatDoorGb
namespace Go.Proofs.YtdbiebnnogjccaaGreatDoor
open Go.RowKit
theorem dropWhile_nil (p : UInt8 → Bool) : ∀ l : List UInt8, l.dropWhile p = [] ↔ ∀ x ∈ l, p x = true
  | [] => by simp
  | y :: l => by
    rw [List.dropWhile_cons]
    by_cases h : p y = true
    · rw [if_pos h, dropWhile_nil p l]
      simp [h]
    · rw [if_neg h]
      simp [h]
theorem trim_nil (l : List UInt8) : (Lib.trimB l 0 = []) ↔ l.all (· == 0) = true := by
  unfold Lib.trimB Lib.trimLeftB Lib.trimRightB
  constructor
  · intro h
    have h1 : ∀ x ∈ (l.reverse.dropWhile (· == 0)).reverse, (x == 0) = true := by
      intro x hx
      by_cases hp : (x == 0) = true
      · exact hp
      · exfalso
        have : ((l.reverse.dropWhile (· == 0)).reverse).dropWhile (· == 0) ≠ [] := by
          rw [Ne, dropWhile_nil]
          intro hall
          exact hp (hall x hx)
        exact this h
    have h2 : l.reverse.dropWhile (· == 0) = [] := by
      cases hd : l.reverse.dropWhile (· == 0) with
      | nil => rfl
      | cons y t =>
        exfalso
        have hy : (y == 0) = true := h1 y (by rw [hd]; simp)
        have := List.head_dropWhile_not (p := (· == 0)) (l := l.reverse) (by rw [hd]; simp)
        simp only [hd, List.head_cons] at this
        rw [this] at hy; cases hy
    rw [dropWhile_nil] at h2
    rw [List.all_eq_true]
    intro x hx
    exact h2 x (by simpa using hx)
  · intro h
    rw [List.all_eq_true] at h
    have h2 : l.reverse.dropWhile (· == 0) = [] := by
      rw [dropWhile_nil]
      intro x hx
      exact h x (by simpa using hx)
    rw [h2]; rfl
/-- What text hands back. -/
def TextP (o : Option (List UInt8)) (a1 a2 : Addr) (e : Ending) : Prop :=
  match o with
  | some s => e = .returned (.tuple #[.string (ofL s), .nilIface])
  | none => ∃ a, (a = a1 ∨ a = a2) ∧ e = .returned (.tuple #[.string ⟨#[]⟩, .iface 308 (.pointer (some a))])
theorem take_at {b : ByteArray} {a : Nat} (h : a + 4 ≤ b.size) : ∃ v : Nat, (v : Int) = valBE ((b.data.toList.drop a).take 4) ∧ v < 4294967296 ∧ takeR b a 4 = ((v : Int), (a : Int) + 4, 0) := by
  have hb := valBE_bd 4 ((b.data.toList.drop a).take 4) (by rw [List.length_take, List.length_drop, size_list]; omega)
  refine ⟨(valBE ((b.data.toList.drop a).take 4)).toNat, by omega, by have := hb.2; omega, ?_⟩
  unfold takeR
  rw [if_neg (by decide), if_neg (by omega)]
  have e : ((valBE ((b.data.toList.drop a).take 4)).toNat : Int) = valBE ((b.data.toList.drop a).take 4) := by omega
  rw [e]
  rfl
theorem empty_of {T : ByteArray} (h : T.data.toList = []) : T.toList = [] ∧ T.toList.isEmpty = true ∧ (T.toList == []) = true := by
  have e : T.toList = [] := by rw [Lib.toList_data]; exact h
  rw [e]; exact ⟨rfl, rfl, rfl⟩
theorem full_of {T : ByteArray} (h : T.data.toList ≠ []) : ¬ T.toList = [] ∧ T.toList.isEmpty = false ∧ (T.toList == []) = false := by
  have e : T.toList ≠ [] := by rw [Lib.toList_data]; exact h
  refine ⟨e, ?_, ?_⟩
  · cases hT : T.toList with
    | nil => exact absurd hT e
    | cons => rfl
  · rw [beq_eq_false_iff_ne]; exact e
theorem below_or {w w' : World} (h : w' = w ∨ w' = w.drew) : Below w.heap.size w w' := by
  rcases h with rfl | rfl
  · exact Below.refl _ _
  · exact ⟨rfl, rfl, rfl, Nat.le_refl _, fun _ _ => rfl⟩
set_option maxRecDepth 100000 in
set_option maxHeartbeats 4000000 in
theorem frame_text (A : ByteArray) (k : Nat) (hk1 : 1 ≤ k) (hk : k < 65536) (hA : A.size = k * 244) (a0 a1 a2 : Addr) (w : World) (hw : FrW w a0 a1 a2) :
    Calls Tryz.prog 149 #[.string A, .int .i64 k] w fun e w' => TextP (textF A.data.toList k) a1 a2 e ∧ Below w.heap.size w w' := by
  have HW := Lib.hid hw
  clear hw
  obtain ⟨v, hv, hv2, ht⟩ := take_at (b := A) (a := 0) (by omega)
  have T1 := Lib.hid (fun W h => pack_Take_eq (b := A) (a := 0) (n := 4) ht (by omega) W h)
  rw [List.drop_zero] at hv
  clear ht
  have z64 : IntKind.i64.wrap (v : Int) = (v : Int) := IntWalk.i64_in _ (by omega)
  by_cases c1 : 2000 < v
  · have e : textF A.data.toList k = none := by unfold textF; rw [← hv, if_pos (.inl (by omega))]
    have HT := Lib.hid e
    have l1 : (2000 : Int) < (v : Int) := by omega
    clear hv e hA
    go_enter Tryz.func149, Tryz.ntmps149
    go_wp2_with fail
    refine (T1.out _ HW.out.et).mono ?_; rintro e w1 ⟨rfl, hb1⟩
    have hc := (HW.out.below hb1).v1
    have B1 := Lib.hid hb1
    clear hb1
    go_wp2_with fail
    go_quiet (fail)
    go_wp2_with fail
    go_ret2
    exact ⟨by rw [HT.out]; exact ⟨a1, .inl rfl, rfl⟩, bstep B1.out (below_dN _ _)⟩
  have l1 : ¬ (2000 : Int) < (v : Int) := by omega
  have Z1 := Lib.hid (fun W => frame_Size (v : Int) W)
  rw [sizeF_nat (by omega)] at Z1
  by_cases c2 : szN v = k
  · subst c2
    have hlen : A.data.toList.length = szN v * 244 := by rw [size_list, hA]
    have hend : 8 + v ≤ A.size := by rw [hA]; unfold szN; omega
    have l2 : ((szN v : Int) != (szN v : Int)) = false := by simp
    obtain ⟨u, hu, hu2, ht⟩ := take_at (b := A) (a := 4 + v) (by omega)
    have T2 := Lib.hid (fun W h => pack_Take_eq (b := A) (a := ((4 + v : Nat) : Int)) (n := 4) ht (by omega) W h)
    rw [show ((4 + v : Nat) : Int) = 4 + (v : Int) by omega] at T2
    have hx : (A.extract 0 (4 + v)).data.toList = A.data.toList.take (4 + v) := by rw [extract_list, List.drop_zero, Nat.sub_zero]
    have C1 := Lib.hid (fun W h => crc_Sum (A.extract 0 (4 + v)) (by rw [ByteArray.size_extract]; omega) W h)
    rw [hx] at C1
    have hc2 := sumN_lt (A.data.toList.take (4 + v))
    obtain ⟨c, hc⟩ : ∃ c, c = sumN (A.data.toList.take (4 + v)) := ⟨_, rfl⟩
    rw [← hc] at C1 hc2
    have hr : (A.extract (8 + v) A.size).data.toList = A.data.toList.drop (8 + v) := by
      rw [extract_list]; exact List.take_of_length_le (by rw [List.length_drop, size_list]; omega)
    obtain ⟨z, hz⟩ : ∃ z, z = szN v := ⟨_, rfl⟩
    have htx : textF A.data.toList (szN v) = if ((u : Int) = (c : Int) ∧ (A.data.toList.drop (8 + v)).all (· == 0) = true) then some ((A.data.toList.drop 4).take v) else none := by
      unfold textF
      rw [← hv, Int.toNat_natCast, if_neg (by omega), ← hu, hc]
    rw [← hz] at Z1 l2 htx ⊢
    have m1 : (0 : Int) ≤ 4 + (v : Int) := by omega
    have m2 : (4 : Int) + (v : Int) ≤ (A.size : Int) := by omega
    have m3 : ((4 : Int) + (v : Int)).toNat = 4 + v := by omega
    have m4 : (8 : Int) + (v : Int) ≤ (A.size : Int) := by omega
    have m5 : ((4 : Int) + (v : Int) + 4).toNat = 8 + v := by omega
    have m6 : (4 : Int) + (v : Int) + 4 ≤ (A.size : Int) := by omega
    have m7 : (0 : Int) ≤ 4 + (v : Int) + 4 := by omega
    have u32 : (u : Int) % 4294967296 = (u : Int) := Int.emod_eq_of_lt (by omega) (by omega)
    have hAb : A.size ≤ 16000000 := by omega
    clear hv hx hc hz ht hu hlen hA
    by_cases c3 : u = c
    · subst c3
      have q3 : ((u : Int) != (u : Int)) = false := by simp
      have TR := Lib.hid (fun W => Tryz.strings_Trim_one (A.extract (8 + v) A.size) 0 (by decide) W (by rw [← size_list, hr, List.length_drop, size_list]; omega))
      rw [hr] at TR
      obtain ⟨T, hT⟩ : ∃ T : ByteArray, T = ⟨(Lib.trimB (A.data.toList.drop (8 + v)) 0).toArray⟩ := ⟨_, rfl⟩
      rw [← hT] at TR
      have hTl : T.data.toList = Lib.trimB (A.data.toList.drop (8 + v)) 0 := by rw [hT]
      by_cases c4 : (A.data.toList.drop (8 + v)).all (· == 0) = true
      · have HT := Lib.hid (htx.trans (if_pos ⟨rfl, c4⟩))
        obtain ⟨f1, f2, f3⟩ := empty_of (T := T) (by rw [hTl]; exact (trim_nil _).2 c4)
        have hxx : A.extract 4 (4 + v) = ofL ((A.data.toList.drop 4).take v) := bytes_ext (by rw [extract_list, ofL_list, Nat.add_sub_cancel_left])
        have hsl : ∀ wx, (Instr.slice 9 (.string A) (some (.int .i64 4)) (some (.int .i64 (4 + (v : Int)))) none).run Tryz.prog wx = .ok (.string (A.extract 4 (4 + v))) wx := fun wx => by
          rw [run_slice_string (P := Tryz.prog) wx 9 A .i64 .i64 4 (4 + (v : Int)) Tryz.underlying9 (by decide) (by omega) m2, m3]; rfl
        clear htx hr c4 hT hTl
        go_enter Tryz.func149, Tryz.ntmps149
        go_wp2_with fail
        refine (T1.out _ HW.out.et).mono ?_; rintro e w1 ⟨rfl, hb1⟩
        have B1 := Lib.hid hb1
        clear hb1
        go_wp2_with fail
        refine (Z1.out _).mono ?_; rintro e y ⟨rfl, rfl⟩
        go_wp2_with fail
        refine (T2.out _ (HW.out.below B1.out).et).mono ?_; rintro e w2 ⟨rfl, hb2⟩
        have B2 := Lib.hid (bstep B1.out hb2)
        clear hb2
        go_wp2_with fail
        refine (C1.out _ (HW.out.below B2.out).tbl).mono ?_; rintro e y ⟨rfl, rfl⟩
        go_wp2_with fail
        refine (TR.out _).mono ?_; rintro e w3 ⟨rfl, hw3⟩
        have B3 := Lib.hid (bstep B2.out (below_or hw3))
        clear hw3
        go_wp2_with fail
        go_ret2
        exact ⟨by rw [HT.out]; show _ = _; first | rfl | simp [hxx], B3.out⟩
      · have HT := Lib.hid (htx.trans (if_neg (fun h => c4 h.2)))
        obtain ⟨f1, f2, f3⟩ := full_of (T := T) (by rw [hTl]; exact fun h => c4 ((trim_nil _).1 h))
        clear htx hr c4 hT hTl
        go_enter Tryz.func149, Tryz.ntmps149
        go_wp2_with fail
        refine (T1.out _ HW.out.et).mono ?_; rintro e w1 ⟨rfl, hb1⟩
        have B1 := Lib.hid hb1
        clear hb1
        go_wp2_with fail
        refine (Z1.out _).mono ?_; rintro e y ⟨rfl, rfl⟩
        go_wp2_with fail
        refine (T2.out _ (HW.out.below B1.out).et).mono ?_; rintro e w2 ⟨rfl, hb2⟩
        have B2 := Lib.hid (bstep B1.out hb2)
        clear hb2
        go_wp2_with fail
        refine (C1.out _ (HW.out.below B2.out).tbl).mono ?_; rintro e y ⟨rfl, rfl⟩
        go_wp2_with fail
        refine (TR.out _).mono ?_; rintro e w3 ⟨rfl, hw3⟩
        have B3 := Lib.hid (bstep B2.out (below_or hw3))
        have hc := (HW.out.below B3.out).v1
        clear hw3
        go_wp2_with fail
        go_quiet (fail)
        go_wp2_with fail
        go_ret2
        exact ⟨by rw [HT.out]; exact ⟨a1, .inl rfl, rfl⟩, bstep B3.out (below_dN _ _)⟩
    · have q3 : ((u : Int) != (c : Int)) = true := by rw [bne_iff_ne]; omega
      have HT := Lib.hid (htx.trans (if_neg (fun h => c3 (by omega))))
      clear htx hr c3
      go_enter Tryz.func149, Tryz.ntmps149
      go_wp2_with fail
      refine (T1.out _ HW.out.et).mono ?_; rintro e w1 ⟨rfl, hb1⟩
      have B1 := Lib.hid hb1
      clear hb1
      go_wp2_with fail
      refine (Z1.out _).mono ?_; rintro e y ⟨rfl, rfl⟩
      go_wp2_with fail
      refine (T2.out _ (HW.out.below B1.out).et).mono ?_; rintro e w2 ⟨rfl, hb2⟩
      have B2 := Lib.hid (bstep B1.out hb2)
      clear hb2
      go_wp2_with fail
      refine (C1.out _ (HW.out.below B2.out).tbl).mono ?_; rintro e y ⟨rfl, rfl⟩
      have hc := (HW.out.below B2.out).v2
      go_wp2_with fail
      go_quiet (fail)
      go_wp2_with fail
      go_ret2
      exact ⟨by rw [HT.out]; exact ⟨a2, .inr rfl, rfl⟩, bstep B2.out (below_dN _ _)⟩
  · have e : textF A.data.toList k = none := by unfold textF; rw [← hv, if_pos (.inr (by rw [Int.toNat_natCast]; exact c2))]
    have HT := Lib.hid e
    have l2 : ((szN v : Int) != (k : Int)) = true := by rw [bne_iff_ne]; omega
    obtain ⟨z, hz⟩ : ∃ z, z = szN v := ⟨_, rfl⟩
    rw [← hz] at Z1 l2
    clear hv e hA hz c2
    go_enter Tryz.func149, Tryz.ntmps149
    go_wp2_with fail
    refine (T1.out _ HW.out.et).mono ?_; rintro e w1 ⟨rfl, hb1⟩
    have hc := (HW.out.below hb1).v1
    have B1 := Lib.hid hb1
    clear hb1
    go_wp2_with fail
    refine (Z1.out _).mono ?_; rintro e y ⟨rfl, rfl⟩
    go_wp2_with fail
    go_quiet (fail)
    go_wp2_with fail
    go_ret2
    exact ⟨by rw [HT.out]; exact ⟨a1, .inl rfl, rfl⟩, bstep B1.out (below_dN _ _)⟩
end Go.Proofs.YtdbiebnnogjccaaGreatDoor
