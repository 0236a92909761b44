/- The walk of CrcTurned. -/
import Derived.Test.YtlpdanghcdajmaaDoorL15
import Derived.Test.YtlpdanghcdajmaaDoorCu
import Derived.Lib.ConvBytes
import Derived.Lib.AtoiErrMem
namespace Go.Proofs.YtlpdanghcdajmaaDoor
open Go.RowKit
theorem keep_Mod (a m : Int) (hm : 0 < m) (hm1 : m < 4294967296) (w : World) :
    Calls Tryd.prog 23 #[.int .i64 a, .int .i64 m] w fun e w' => (∃ p : Nat, (p : Int) < m ∧ e = .returned (.int .i64 p)) ∧ w = w' := by
  have h0 : ¬ m < 1 := by omega
  have h1 : ¬ m = 0 := by omega
  have t1 : -m < a.tmod m := Int.lt_tmod_of_pos a hm
  have t2 : a.tmod m < m := Int.tmod_lt_of_pos a hm
  have t3 : 0 ≤ a.tmod m % m := Int.emod_nonneg _ h1
  have t4 : a.tmod m % m < m := Int.emod_lt_of_pos _ hm
  go_enter Tryd.func23, Tryd.ntmps23
  go_wp2_with fail
  go_ret
  exact ⟨⟨(a.tmod m % m).toNat, by omega, by rw [Int.toNat_of_nonneg t3]; rfl⟩, rfl⟩
/-- The cells of the bytes. -/
structure TuW (w : World) (p : Nat) (B : List UInt8) (w' : World) : Prop where
  cells : ∀ j (hj : j < B.length), w'.cell? ⟨p, j, none⟩ = some (.int .u8 B[j].toNat)
  froz : ∀ j, j < B.length → w'.frozen? ⟨p, j, none⟩ = false
  fr : Below w.heap.size w w'
  tb : TblIs w'
theorem TuW.start (w : World) (ht : TblIs w) (s : ByteArray) : TuW w w.heap.size s.data.toList (Lib.bytesWorld w 5 s) := by
  have hB := Lib.bytesWorld_below w 5 s
  refine ⟨fun j hj => ?_, fun j hj => ?_, hB, ht.below hB⟩
  · rw [Lib.bytesWorld_cell w 5 s j (by rw [← size_list]; exact hj), List.getD, List.getElem?_eq_getElem hj]; rfl
  · have hz : j < (Lib.bytesCells w 5 s).size := by
      rw [size_list] at hj
      simp [Lib.bytesCells]; omega
    simp [World.frozen?, Lib.bytesWorld_at_new]; omega
theorem TuW.set {w : World} {p : Nat} {B : List UInt8} {a : World} (h : TuW w p B a) (ht : TblIs w) (hp : w.heap.size ≤ p) (k : Nat) (hk : k < B.length) (b : UInt8) : TuW w p (B.set k b) (a.setCell ⟨p, k, none⟩ (.int .u8 b.toNat)) := by
  have hF := (Fr.of_below (S := fun k => w.heap.size ≤ k) h.fr).setCell (p := ⟨p, k, none⟩) (.inl hp) (.int .u8 b.toNat)
  have hB : Below w.heap.size w (a.setCell ⟨p, k, none⟩ (.int .u8 b.toNat)) := Fr.below (Fr.shrink (T := fun _ => False) (Fr.refl _ w) (S := fun k => w.heap.size ≤ k) hF (fun k h1 h2 => absurd h2 (by omega)))
  refine ⟨fun j hj => ?_, fun j hj => ?_, hB, ht.below hB⟩
  · have hj' : j < B.length := by rw [List.length_set] at hj; exact hj
    by_cases hjk : j = k
    · subst hjk
      have hs : (a.cell? ⟨p, j, none⟩).isSome = true := by rw [h.cells j hj']; rfl
      rw [World.cell?_setCell_same' _ _ _ hs]; simp
    · have hne : ¬ k = j := fun e => hjk e.symm
      have hc := h.cells j hj'
      have hne2 : (⟨p, k, none⟩ : Addr) ≠ ⟨p, j, none⟩ := fun e => hne (Addr.mk.inj e).2.1
      have ho : (a.setCell ⟨p, k, none⟩ (.int .u8 b.toNat)).cell? ⟨p, j, none⟩ = a.cell? ⟨p, j, none⟩ := by
        first
          | exact World.cell?_setCell_other _ _ _ _ hne2
          | exact World.cell?_setCell_other (h := hne2) ..
          | (rw [World.cell?_setCell_other]; exact hne2)
      rw [ho, hc]
      simp [hne]
  · have hj' : j < B.length := by rw [List.length_set] at hj; exact hj
    rw [World.frozen?_setCell]; exact h.froz j hj'
theorem bit_ne {fl i : Nat} (h : fl / 2 ^ i % 2 = 1) : (fl % 2 ^ (i + 1) != 0) = true := by
  rw [bne_iff_ne]
  intro e
  have := Nat.testBit_mod_two_pow fl (i + 1) i
  rw [e, Nat.zero_testBit, Nat.testBit_eq_decide_div_mod_eq, h] at this
  simp at this
theorem xor_byte (bv : UInt8) {r : Nat} (hr : r < 8) : (UInt8.ofNat (bv.toNat ^^^ 2 ^ r)).toNat = bv.toNat ^^^ 2 ^ r ∧ bits .xor .u8 (bv.toNat : Int) ((2 : Int) ^ r % 256) = (((UInt8.ofNat (bv.toNat ^^^ 2 ^ r)).toNat : Nat) : Int) := by
  have hp : 2 ^ r < 256 := by
    have : 2 ^ r < 2 ^ 8 := Nat.pow_lt_pow_right (by decide) hr
    simpa using this
  have hx : bv.toNat ^^^ 2 ^ r < 256 := Nat.xor_lt_two_pow (n := 8) bv.toNat_lt hp
  have h1 : (UInt8.ofNat (bv.toNat ^^^ 2 ^ r)).toNat = bv.toNat ^^^ 2 ^ r := by rw [UInt8.toNat_ofNat']; exact Nat.mod_eq_of_lt hx
  refine ⟨h1, ?_⟩
  have e : (2 : Int) ^ r = ((2 ^ r : Nat) : Int) := by simp
  have e2 : ((2 ^ r : Nat) : Int) % 256 = ((2 ^ r : Nat) : Int) := by
    generalize (2 ^ r : Nat) = N at hp ⊢
    omega
  rw [e, e2, h1]
  exact u8_xor_nat _ _ bv.toNat_lt hp
theorem str_back (B : List UInt8) : strOfNums (B.map fun b => (b.toNat : Int)) = ⟨B.toArray⟩ := by
  apply bytes_ext
  rw [strOfNums_data]
  simp [Function.comp_def]
set_option maxRecDepth 100000 in
set_option maxHeartbeats 1000000 in
theorem law15_CrcTurned (s : ByteArray) (q : Int) (fl : Nat) (hs : s.size ≤ 140737488351232) (hf : fl < 4294967296) (w : World) (ht : TblIs w) :
    Calls Tryd.prog 5 #[.string s, .int .i64 q, .int .u32 fl] w fun e w' => e = .returned (.bool true) ∧ Below w.heap.size w w' := by
  by_cases z : (20000 : Int) < (s.size : Int)
  · go_enter Tryd.func5, Tryd.ntmps5
    go_wp2_with fail
    refine (law15_wakes _ ht).mono ?_; rintro e w1 ⟨rfl, hb1⟩
    go_wp2_with fail
    go_ret
    exact ⟨rfl, hb1⟩
  by_cases z2 : (s.size : Int) = 0
  · go_enter Tryd.func5, Tryd.ntmps5
    go_wp2_with fail
    refine (law15_wakes _ ht).mono ?_; rintro e w1 ⟨rfl, hb1⟩
    go_wp2_with fail
    go_ret
    exact ⟨rfl, hb1⟩
  have z3 : ((s.size : Int) == 0) = false := by rw [beq_eq_false_iff_ne]; exact z2
  have hcv := Lib.run_convert_string_bytes w 9 29 5 s Tryd.underlying9 Tryd.underlying29 Tryd.underlying5
  have hM := keep_Mod q (8 * (s.size : Int)) (by omega) (by omega)
  have HM := Lib.hid hM
  have Ht := Lib.hid ht
  have HT := Lib.hid (TuW.start w ht s)
  clear hM ht
  go_enter Tryd.func5, Tryd.ntmps5
  go_wp2_with fail
  refine (HM.out _).mono ?_; rintro e w1 ⟨⟨p, hp, rfl⟩, rfl⟩
  clear hcv
  obtain ⟨w0, hw0⟩ : ∃ w0, w0 = Lib.bytesWorld w 5 s := ⟨_, rfl⟩
  obtain ⟨g, hg⟩ : ∃ g, g = w.heap.size := ⟨_, rfl⟩
  have HT1 : Hid (TuW w g s.data.toList w0) := by rw [hw0, hg]; exact HT.out
  rw [← hw0, ← hg]
  have hl : w.heap.size ≤ g := by omega
  clear hw0 hg HT
  obtain ⟨cap, hcap⟩ : ∃ c, c = grownCap w s.size 0 5 := ⟨_, rfl⟩
  rw [← hcap]; clear hcap
  go_wp2_with fail
  go_loopw [9, 10] (fun tv iv wr => ∃ (i : Nat) (B : List UInt8), i ≤ 32 ∧ iv = .int .i64 i ∧ p + i ≤ 8 * s.size + 32 ∧ tv = .bool (fl % 2 ^ i != 0) ∧ Turn ones s.data.toList p fl i B ∧ TuW w g B wr) (fun _ iv _ => 32 - (intOf iv).toNat)
  case atStart => exact ⟨0, _, Nat.zero_le _, rfl, by omega, by simp [Nat.mod_one], Turn.start _ _ _ _, HT1.out⟩
  case round =>
    obtain ⟨i, B, hi, rfl, hpi, rfl, hTu, hW⟩ := hrel
    have HTu := Lib.hid hTu
    have HW := Lib.hid hW
    have hBl : B.length = s.size := by rw [hTu.len, size_list]
    clear hTu hW
    by_cases hgo : i < 32 ∧ p + i < 8 * s.size
    · obtain ⟨hi2, hpi2⟩ := hgo
      have c1 : (i : Int) < 32 := by omega
      have c2 : (p : Int) + (i : Int) < 8 * (s.size : Int) := by omega
      have ht := bit_test1 fl i hf
      by_cases hq : fl / 2 ^ i % 2 = 1
      · have ht' : (bits .and .u32 ((fl : Int) / 2 ^ i) 1 == 1) = true := by rw [ht, hq]; rfl
        clear ht
        have hj : (p + i) / 8 < B.length := by omega
        have hcell := HW.out.cells ((p + i) / 8) hj
        have hfz := HW.out.froz ((p + i) / 8) hj
        obtain ⟨bv, hbv⟩ : ∃ b, b = B[(p + i) / 8] := ⟨_, rfl⟩
        rw [← hbv] at hcell
        have Hbv := Lib.hid hbv
        clear hbv
        obtain ⟨hb1, hb2⟩ := xor_byte bv (r := (p + i) % 8) (by omega)
        obtain ⟨b', hb'⟩ : ∃ b', b' = UInt8.ofNat (bv.toNat ^^^ 2 ^ ((p + i) % 8)) := ⟨_, rfl⟩
        rw [← hb'] at hb1 hb2
        clear hb'
        have Hfl := Lib.hid (HTu.out.flip hq (j := (p + i) / 8) (r := (p + i) % 8) (by omega) (by rw [size_list]; omega) b' hj (by rw [hb1, Hbv.out]))
        have Hne := Lib.hid (bit_ne hq)
        have HW2 := Lib.hid (HW.out.set Ht.out hl ((p + i) / 8) hj b')
        clear hb1 hq
        go_wp2_with fail
        go_roundw
        case rel => exact ⟨i + 1, B.set ((p + i) / 8) b', by omega, by go_num, by omega, by rw [Hne.out], Hfl.out, HW2.out⟩
        case measure => simp [intOf]; omega
      · have ht' : (bits .and .u32 ((fl : Int) / 2 ^ i) 1 == 1) = false := by rw [ht, beq_eq_false_iff_ne]; exact hq
        have hsk := HTu.out.skip (by omega : fl / 2 ^ i % 2 = 0)
        have hm : Hid (fl % 2 ^ (i + 1) = fl % 2 ^ i) := by
          show _ = _
          rw [mod_join, (by omega : fl / 2 ^ i % 2 = 0), Nat.mul_zero, Nat.xor_zero]
        have Hsk := Lib.hid hsk
        clear ht hsk hq
        go_wp2_with fail
        go_roundw
        case rel => exact ⟨i + 1, B, by omega, by go_num, by omega, by rw [hm.out], Hsk.out, HW.out⟩
        case measure => simp [intOf]; omega
    · have hend : (sumN B = sumN s.data.toList) ↔ fl % 2 ^ i = 0 := HTu.out.sums hi
      have hcv := run_convert_bytes_arg (P := Tryd.prog) wr 29 5 Tryd.underlying29 Tryd.underlying5 g 0 s.size cap (B.map fun b => (b.toNat : Int)) (by rw [List.length_map]; exact hBl) (fun j hj => by
        rw [Nat.zero_add, HW.out.cells j (by omega)]
        simp [List.getD, List.getElem?_eq_getElem (by omega : j < B.length)]) 9 Tryd.underlying9
      rw [str_back] at hcv
      have A1 := crc_Sum ⟨B.toArray⟩ (by rw [← size_list]; show B.length ≤ _; omega) wr HW.out.tb
      have A2 := crc_Sum s hs wr HW.out.tb
      have eB : (⟨B.toArray⟩ : ByteArray).data.toList = B := rfl
      rw [eB] at A1
      have W1 := Lib.hid (law15_wakes wr HW.out.tb)
      obtain ⟨S, hS⟩ : ∃ S : ByteArray, S = ⟨B.toArray⟩ := ⟨_, rfl⟩
      rw [← hS] at hcv A1
      clear hS eB
      have hcases : (¬ (i : Int) < 32) ∨ ((i : Int) < 32 ∧ ¬ (p : Int) + (i : Int) < 8 * (s.size : Int)) := by omega
      by_cases hz : fl % 2 ^ i = 0
      · have en : sumN B = sumN s.data.toList := hend.2 hz
        have ht0 : (fl % 2 ^ i != 0) = false := by rw [hz]; rfl
        rw [ht0]
        rw [en] at A1
        generalize sumN s.data.toList = n at A1 A2
        have H1 := Lib.hid A1
        have H2 := Lib.hid A2
        clear A1 A2 hz ht0 en hend hgo
        rcases hcases with c1 | ⟨c1, c2⟩
        all_goals
          go_wp2_with fail
          refine H1.out.mono ?_; rintro e w1 ⟨rfl, rfl⟩
          go_wp2_with fail
          refine H2.out.mono ?_; rintro e w1 ⟨rfl, rfl⟩
          go_wp2_with fail
          refine W1.out.mono ?_; rintro e w2 ⟨rfl, hb2⟩
          go_wp2_with fail
          go_ret
          exact ⟨rfl, bstep HW.out.fr hb2⟩
      · have en : ¬ sumN B = sumN s.data.toList := fun h => hz (hend.1 h)
        have ht0 : (fl % 2 ^ i != 0) = true := by rw [bne_iff_ne]; exact hz
        rw [ht0]
        generalize sumN B = m at A1 en
        generalize sumN s.data.toList = n at A2 en
        have en2 : ((m : Int) != (n : Int)) = true := by rw [bne_iff_ne]; omega
        have en3 : ((m : Int) == (n : Int)) = false := by rw [beq_eq_false_iff_ne]; omega
        have H1 := Lib.hid A1
        have H2 := Lib.hid A2
        clear A1 A2 hz ht0 hend hgo
        rcases hcases with c1 | ⟨c1, c2⟩
        all_goals
          go_wp2_with fail
          refine H1.out.mono ?_; rintro e w1 ⟨rfl, rfl⟩
          go_wp2_with fail
          refine H2.out.mono ?_; rintro e w1 ⟨rfl, rfl⟩
          go_wp2_with fail
          refine W1.out.mono ?_; rintro e w2 ⟨rfl, hb2⟩
          go_wp2_with fail
          go_ret
          exact ⟨rfl, bstep HW.out.fr hb2⟩
theorem law15_CrcTurnedI (s : ByteArray) (q fl : Int) (hs : s.size ≤ 140737488351232) (f0 : 0 ≤ fl) (f1 : fl < 4294967296) (w : World) (ht : TblIs w) :
    Calls Tryd.prog 5 #[.string s, .int .i64 q, .int .u32 fl] w fun e w' => e = .returned (.bool true) ∧ Below w.heap.size w w' := by
  obtain ⟨f', rfl⟩ := Int.eq_ofNat_of_zero_le f0
  exact law15_CrcTurned s q f' hs (by omega) w ht
end Go.Proofs.YtlpdanghcdajmaaDoor
