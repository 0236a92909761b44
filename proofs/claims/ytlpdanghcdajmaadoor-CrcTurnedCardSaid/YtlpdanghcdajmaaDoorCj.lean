/- The walk of crc.Join. -/
import Derived.Test.YtlpdanghcdajmaaDoorCm
import Derived.Laws.Bits128
namespace Go.Proofs.YtlpdanghcdajmaaDoor
open Go.RowKit
theorem TblIs.below {w w' : World} (h : TblIs w) (hb : Below w.heap.size w w') : TblIs w' :=
  ⟨Nat.lt_of_lt_of_le h.1 hb.size, fun i hi => by rw [hb.cell (p := ⟨0, i, none⟩) h.1]; exact h.2 i hi⟩
theorem rep_pair (M : Nat → Nat) : ∀ k x, rep (fun x => M (M x)) k x = rep M (2 * k) x
  | 0, _ => rfl
  | k + 1, x => by
    have : 2 * (k + 1) = (2 * k + 1) + 1 := by omega
    rw [this]
    exact rep_pair M k (M (M x))
structure JoP (w : World) (p : Nat) (d : Array Value) (w' : World) : Prop where
  b1 : w'.heap[p]? = some (.cells d 100 (0, 0))
  fr : Below w.heap.size w w'
  tb : TblIs w'
theorem JoP.below {w : World} {p : Nat} {d : Array Value} {a e : World} (h : JoP w p d a) (hb : Below a.heap.size a e) : JoP w p d e :=
  ⟨blk_below h.b1 hb, bstep h.fr hb, h.tb.below hb⟩
theorem jo_w0 (w : World) (ht : TblIs w) (z : Array Value) : ∃ w0, w.alloc (.cells z 100) = w0 ∧ JoP w w.heap.size z w0 :=
  ⟨_, rfl, blk_new _ _, below_a1 _ _, ht.below (below_a1 _ _)⟩
theorem JoP.fr2 {w : World} {p : Nat} {d' : Array Value} {e : World} (ht : TblIs w) (hb : e.heap[p]? = some (.cells d' 100 (0, 0))) (hf : Fr (fun k => w.heap.size ≤ k) w e) : JoP w p d' e :=
  have hB : Below w.heap.size w e := Fr.below (Fr.shrink (T := fun _ => False) (Fr.refl _ w) (S := fun k => w.heap.size ≤ k) hf (fun k h1 h2 => absurd h2 (by omega)))
  ⟨hb, hB, ht.below hB⟩
theorem JoP.set {w : World} {p : Nat} {d : Array Value} {a : World} (h : JoP w p d a) (hp : p = w.heap.size) (ht : TblIs w) (k : Nat) (v : Value) : JoP w p (d.setIfInBounds k v) (a.setCell ⟨p, k, none⟩ v) :=
  JoP.fr2 ht (blk_set h.b1 k v) ((Fr.of_below h.fr).setCell (p := ⟨p, k, none⟩) (.inl (by show w.heap.size ≤ p; omega)) v)
structure JoR (w : World) (p : Nat) (d : Array Value) (w' : World) : Prop where
  rg : w'.rangeAt p 0 d.toList
  th : w'.there p 0 32
  lt : p < w'.heap.size
  fr : Below w.heap.size w w'
  tb : TblIs w'
theorem JoP.toR {w : World} {p : Nat} {d : Array Value} {a : World} (h : JoP w p d a) (hd : d.size = 32) : JoR w p d a :=
  ⟨range_of h.b1, there_of h.b1 (by omega), blk_lt h.b1, h.fr, h.tb⟩
theorem JoR.below {w : World} {p : Nat} {d : Array Value} {a e : World} (h : JoR w p d a) (hb : Below a.heap.size a e) : JoR w p d e :=
  ⟨fun j v hv => by rw [hb.cell (p := ⟨p, 0 + j, none⟩) h.lt]; exact h.rg j v hv,
   fun j hj => by rw [hb.cell (p := ⟨p, 0 + j, none⟩) h.lt, hb.frozen (p := ⟨p, 0 + j, none⟩) h.lt]; exact h.th j hj,
   Nat.lt_of_lt_of_le h.lt hb.size, bstep h.fr hb, h.tb.below hb⟩
theorem JoR.set {w : World} {p : Nat} {d d' : Array Value} {a : World} (h : JoR w p d a) (hp : p = w.heap.size) (ht : TblIs w) (hd : d'.size = 32) : JoR w p d' (a.setCells p 0 d'.toList) :=
  have hB : Below w.heap.size w (a.setCells p 0 d'.toList) := below_setCells h.fr (by omega) _ _
  have hF := fr_setCells (S := fun _ => True) p d'.toList 0 a (Fr.refl _ a) (.inl trivial)
  ⟨World.rangeAt_setCells_same a p 0 d'.toList (by rw [Array.length_toList, hd]; exact h.th), World.there_setCells h.th p 0 _, Nat.lt_of_lt_of_le h.lt hF.size, hB, ht.below hB⟩
theorem i64_and1 (n : Int) : bits .and .i64 n 1 = n % 2 := by
  have h1 : (BitVec.ofInt 64 1).toNat = 2 ^ 1 - 1 := by decide
  have key : (BitVec.ofInt 64 n &&& BitVec.ofInt 64 1).toNat = (n % ((2 ^ 64 : Nat) : Int)).toNat % 2 ^ 1 := by
    rw [BitVec.toNat_and, BitVec.toNat_ofInt, h1, Nat.and_two_pow_sub_one_eq_mod]
  show IntKind.i64.wrap ((BitVec.ofInt 64 n &&& BitVec.ofInt 64 1).toNat : Nat) = n % 2
  rw [key, IntKind.wrap_i64]
  omega
theorem pow_shl {k : Nat} (h : k < 32) : (2 : Int) ^ k % 4294967296 = ((2 ^ k : Nat) : Int) := by
  have := pow_lt32 h
  have e : (2 : Int) ^ k = ((2 ^ k : Nat) : Int) := by simp
  rw [e]
  generalize (2 ^ k : Nat) = N at this ⊢
  omega
set_option maxRecDepth 100000 in
set_option maxHeartbeats 2000000 in
theorem crc_Join_neg (a b : Nat) (n : Int) (hn : n < 0) (w : World) :
    Calls Tryd.prog 22 #[.int .u32 a, .int .u32 b, .int .i64 n] w fun e w' => e = .returned (.int .u32 0) ∧ Below w.heap.size w w' := by
  go_enter Tryd.func22, Tryd.ntmps22
  go_wp2_with fail
  go_ret
  exact ⟨rfl, Below.refl _ _⟩
set_option maxRecDepth 100000 in
set_option maxHeartbeats 2000000 in
theorem crc_Join_pos (a b n : Nat) (ha : a < 4294967296) (hb : b < 4294967296) (hn : n < 9223372036854775808) (w : World) (ht : TblIs w) :
    Calls Tryd.prog 22 #[.int .u32 a, .int .u32 b, .int .i64 n] w fun e w' => e = .returned (.int .u32 (joinN a b n : Nat)) ∧ Below w.heap.size w w' := by
  have hn0 : ¬ (n : Int) < 0 := by omega
  have Ht := Lib.hid ht
  clear ht
  go_enter Tryd.func22, Tryd.ntmps22
  go_wp2_with fail
  obtain ⟨w0, hw0, T0⟩ := jo_w0 w Ht.out #[.int .u32 0, .int .u32 0, .int .u32 0, .int .u32 0, .int .u32 0, .int .u32 0, .int .u32 0, .int .u32 0, .int .u32 0, .int .u32 0, .int .u32 0, .int .u32 0, .int .u32 0, .int .u32 0, .int .u32 0, .int .u32 0, .int .u32 0, .int .u32 0, .int .u32 0, .int .u32 0, .int .u32 0, .int .u32 0, .int .u32 0, .int .u32 0, .int .u32 0, .int .u32 0, .int .u32 0, .int .u32 0, .int .u32 0, .int .u32 0, .int .u32 0, .int .u32 0]
  rw [hw0]; clear hw0
  obtain ⟨p, hp⟩ : ∃ p, p = w.heap.size := ⟨_, rfl⟩
  rw [← hp] at T0 ⊢
  have H0 := Lib.hid T0
  have Hp := Lib.hid hp
  clear T0 hp
  go_loopw [11] (fun i wr => ∃ (k : Nat) (d : Array Value), k ≤ 32 ∧ i = .int .i64 k ∧ d.size = 32 ∧ (∀ j, j < k → d[j]? = some (.int .u32 (Z (2 ^ j) : Nat))) ∧ JoP w p d wr) (fun i _ => 32 - (intOf i).toNat)
  case atStart => exact ⟨0, _, Nat.zero_le _, rfl, rfl, fun j h => absurd h (by omega), H0.out⟩
  case round =>
    obtain ⟨k, d, hk, rfl, hd, hcells, hT⟩ := hrel
    have HC := Lib.hid hcells
    have HT := Lib.hid hT
    clear hcells hT
    by_cases hlt : k < 32
    · have hi : (k : Int) < 32 := by omega
      have hcell : wr.cell? ⟨p, k, none⟩ = some d[k] := by rw [blk_cell HT.out.b1, Array.getElem?_eq_getElem (by omega)]
      have hfz := blk_frozen HT.out.b1 k
      have hsh := pow_shl hlt
      have hst := crc_step (2 ^ k) 0 (pow_lt32 hlt) (by decide) wr HT.out.tb
      have e0 : ((0 : Nat) : Int) = 0 := rfl
      rw [e0, stepN_eq _ _ (by decide), Nat.xor_zero] at hst
      have Hst := Lib.hid hst
      clear hst e0
      go_wp2_with fail
      refine Hst.out.mono ?_; rintro e w5 ⟨rfl, rfl⟩
      go_wp2_with fail
      go_roundw
      case rel =>
        refine ⟨k + 1, d.setIfInBounds k (.int .u32 (Z (2 ^ k) : Nat)), by omega, by go_num, by simpa using hd, fun j hj => ?_, HT.out.set Hp.out Ht.out k _⟩
        by_cases hjk : j = k
        · subst hjk
          rw [Array.getElem?_setIfInBounds_self_of_lt (by omega)]
        · rw [Array.getElem?_setIfInBounds_ne (fun h => hjk h.symm)]
          exact HC.out j (by omega)
      case measure => simp [intOf]; omega
    · have hi : ¬ (k : Int) < 32 := by omega
      have hk' : k = 32 := by omega
      subst hk'
      have HR := Lib.hid (HT.out.toR hd)
      have HZ : Hid (IsM d Z) := ⟨lin_Z, hd, HC.out⟩
      clear hd
      go_wp2_with fail
      go_loopw [0, 2] (fun av i ws => ∃ (m x : Nat) (M : Nat → Nat) (d : Array Value), i = .int .i64 m ∧ m < 9223372036854775808 ∧ av = .int .u32 x ∧ x < 4294967296 ∧ IsM d M ∧ rep M m x = rep Z n a ∧ JoR w p d ws) (fun _ i _ => (intOf i).toNat)
      case atStart => exact ⟨n, a, Z, d, rfl, hn, rfl, ha, HZ.out, rfl, HR.out⟩
      case round =>
        obtain ⟨m, x, M, d', rfl, hm, rfl, hx, hM, hrep, hR⟩ := hrel
        have HM := Lib.hid hM
        have HRep := Lib.hid hrep
        have HR1 := Lib.hid hR
        clear hM hrep hR
        by_cases h0 : m = 0
        · subst h0
          have hres : Hid (x = rep Z n a) := HRep.out
          have hxx : bits .xor .u32 (x : Int) (b : Int) = ((x ^^^ b : Nat) : Int) := u32_xor_nat _ _ hx hb
          go_wp2_with fail
          go_ret
          exact ⟨by rw [hres.out]; rfl, HR1.out.fr⟩
        · have hgt : (0 : Int) < (m : Int) := by omega
          have hand := i64_and1 (m : Int)
          have hsz := HM.out.size
          have hin : (Tryd.prog.info? 100).map (·.size) = some d'.toList.length := by rw [m_info, Array.length_toList, hsz]
          have hrg := HR1.out.rg
          by_cases hq : m % 2 = 1
          · have hq1 : (m : Int) % 2 = 1 := by omega
            have HNew : Hid (rep (fun x => M (M x)) (m / 2) (M x) = rep Z n a) := by
              have e2 : 2 * (m / 2) + 1 = m := by omega
              have e3 := HRep.out
              rw [← e2] at e3
              show _ = _
              rw [rep_pair]; exact e3
            go_wp2_with (refine wpList_load_mid rfl 100 _ rfl p 0 rfl d'.toList _ hrg m_under rfl hin ?_)
            refine (crc_of d' M HM.out x hx _).mono ?_; rintro e w5 ⟨rfl, hb5⟩
            have HR5 := Lib.hid (HR1.out.below hb5)
            have hrg5 := HR5.out.rg
            clear hb5 hrg
            go_wp2_with (refine wpList_load_mid rfl 100 _ rfl p 0 rfl d'.toList _ hrg5 m_under rfl hin ?_)
            refine (crc_twice d' M HM.out _).mono ?_; rintro e w6 ⟨⟨d2, rfl, hM2⟩, hb6⟩
            have HM2 := Lib.hid hM2
            have HR6 := Lib.hid (HR5.out.below hb6)
            have hth : w6.there p 0 d2.size := by rw [HM2.out.size]; exact HR6.out.th
            have hin2 : (Tryd.prog.info? 100).map (·.size) = some d2.size := by rw [m_info, HM2.out.size]
            have h1 := isM_one HM2.out.size HM2.out.at'
            clear hM2 hb6
            go_wp2_with (refine wpList_store_mid rfl 100 _ _ rfl p 0 d2 rfl rfl hth hin2 h1 ?_)
            go_roundw
            case rel => exact ⟨m / 2, M x, fun x => M (M x), d2, by first | go_num | (congr 1; omega), by omega, rfl, HM.out.lin.bd _ hx, HM2.out, HNew.out, HR6.out.set Hp.out Ht.out HM2.out.size⟩
            case measure => simp [intOf]; omega
          · have hq1 : (m : Int) % 2 = 0 := by omega
            have HNew : Hid (rep (fun x => M (M x)) (m / 2) x = rep Z n a) := by
              show _ = _
              have e2 : 2 * (m / 2) = m := by omega
              rw [rep_pair, e2]; exact HRep.out
            go_wp2_with (refine wpList_load_mid rfl 100 _ rfl p 0 rfl d'.toList _ hrg m_under rfl hin ?_)
            refine (crc_twice d' M HM.out _).mono ?_; rintro e w6 ⟨⟨d2, rfl, hM2⟩, hb6⟩
            have HM2 := Lib.hid hM2
            have HR6 := Lib.hid (HR1.out.below hb6)
            have hth : w6.there p 0 d2.size := by rw [HM2.out.size]; exact HR6.out.th
            have hin2 : (Tryd.prog.info? 100).map (·.size) = some d2.size := by rw [m_info, HM2.out.size]
            have h1 := isM_one HM2.out.size HM2.out.at'
            clear hM2 hb6
            go_wp2_with (refine wpList_store_mid rfl 100 _ _ rfl p 0 d2 rfl rfl hth hin2 h1 ?_)
            go_roundw
            case rel => exact ⟨m / 2, x, fun x => M (M x), d2, by first | go_num | (congr 1; omega), by omega, rfl, hx, HM2.out, HNew.out, HR6.out.set Hp.out Ht.out HM2.out.size⟩
            case measure => simp [intOf]; omega
end Go.Proofs.YtlpdanghcdajmaaDoor
