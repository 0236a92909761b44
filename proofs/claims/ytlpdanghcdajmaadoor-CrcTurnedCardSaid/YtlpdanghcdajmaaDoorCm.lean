/- The walks of crc's matrices. -/
import Derived.Test.YtlpdanghcdajmaaDoorCt
import Derived.Deep.MidRow
import Derived.Deep.WholeRow
import Derived.Deep.RegionHeld3
import Derived.Deep.DeepCutAuto
import Derived.Deep.CutBlock
namespace Go.Proofs.YtlpdanghcdajmaaDoor
open Go.RowKit
/-- The cells of a matrix. -/
structure IsM (c : Array Value) (M : Nat → Nat) : Prop where
  lin : Lin M
  size : c.size = 32
  at' : ∀ k, k < 32 → c[k]? = some (.int .u32 (M (2 ^ k) : Nat))
theorem bit_test1 (x m : Nat) (hx : x < 4294967296) : (bits .and .u32 ((x : Int) / 2 ^ m) 1 == 1) = (x / 2 ^ m % 2 == 1) := by
  have e : (x : Int) / 2 ^ m = ((x / 2 ^ m : Nat) : Int) := by simp
  have hl : x / 2 ^ m < 4294967296 := Nat.lt_of_le_of_lt (Nat.div_le_self _ _) hx
  rw [e, low_bit _ hl, Bool.eq_iff_iff, beq_iff_eq, beq_iff_eq]
  omega
set_option maxHeartbeats 1000000 in
theorem crc_of (c : Array Value) (M : Nat → Nat) (hM : IsM c M) (x : Nat) (hx : x < 4294967296) (w : World) :
    Calls Tryd.prog 57 #[.agg c, .int .u32 x] w fun e w' => e = .returned (.int .u32 (M x : Nat)) ∧ Below w.heap.size w w' := by
  have HM := Lib.hid hM
  clear hM
  have hsz := HM.out.size
  go_enter Tryd.func57, Tryd.ntmps57
  go_wp2_with fail
  obtain ⟨w0, hw0, bx0, hB0⟩ : ∃ w0, w.alloc (.cells c 100) = w0 ∧ w0.heap[w.heap.size]? = some (.cells c 100 (0, 0)) ∧ Below w.heap.size w w0 := ⟨_, rfl, blk_new _ _, below_a1 _ _⟩
  rw [hw0]; clear hw0
  have Bx := Lib.hid bx0
  have HB := Lib.hid hB0
  clear bx0 hB0
  go_loop [5, 7] (fun r i => ∃ k : Nat, k ≤ 32 ∧ i = .int .i64 k ∧ r = .int .u32 (accM M x k : Nat)) (fun _ i => 32 - (intOf i).toNat)
  case atStart => exact ⟨0, Nat.zero_le _, rfl, rfl⟩
  case round =>
    obtain ⟨k, hk, rfl, rfl⟩ := hrel
    obtain ⟨r, hr⟩ : ∃ r, r = accM M x k := ⟨_, rfl⟩
    have lr : r < 4294967296 := by rw [hr]; exact accM_lt HM.out.lin hx k
    rw [← hr]
    have Hr := Lib.hid hr
    clear hr
    by_cases hlt : k < 32
    · have hi : (k : Int) < 32 := by omega
      have ht := bit_test1 x k hx
      have hcell : w0.cell? ⟨w.heap.size, k, none⟩ = some (.int .u32 (M (2 ^ k) : Nat)) := by rw [blk_cell Bx.out]; exact HM.out.at' k hlt
      have hstep : Hid (accM M x (k + 1) = if x / 2 ^ k % 2 = 1 then accM M x k ^^^ M (2 ^ k) else accM M x k) := rfl
      by_cases hq : x / 2 ^ k % 2 = 1
      · have ht' : (bits .and .u32 ((x : Int) / 2 ^ k) 1 == 1) = true := by rw [ht, hq]; rfl
        have hs : Hid (accM M x (k + 1) = r ^^^ M (2 ^ k)) := by show _ = _; rw [hstep.out, if_pos hq, ← Hr.out]
        have hx2 : bits .xor .u32 (r : Int) ((M (2 ^ k) : Nat) : Int) = ((r ^^^ M (2 ^ k) : Nat) : Int) := u32_xor_nat _ _ lr (HM.out.lin.bd _ (pow_lt32 hlt))
        clear ht hq
        go_wp2_with fail
        go_round
        case rel => exact ⟨k + 1, by omega, by go_num, by rw [hs.out]⟩
        case measure => simp [intOf]; omega
      · have ht' : (bits .and .u32 ((x : Int) / 2 ^ k) 1 == 1) = false := by rw [ht, beq_eq_false_iff_ne]; exact hq
        have hs : Hid (accM M x (k + 1) = r) := by show _ = _; rw [hstep.out, if_neg hq, ← Hr.out]
        clear ht hq
        go_wp2_with fail
        go_round
        case rel => exact ⟨k + 1, by omega, by go_num, by rw [hs.out]⟩
        case measure => simp [intOf]; omega
    · have hi : ¬ (k : Int) < 32 := by omega
      have hk' : k = 32 := by omega
      subst hk'
      have hf : Hid (r = M x) := by show _ = _; rw [Hr.out]; exact accM_32 HM.out.lin hx
      go_wp2_with fail
      go_ret
      exact ⟨by rw [hf.out]; rfl, HB.out⟩

/-! ### twice -/
structure TwP (w : World) (p1 p2 p3 : Nat) (c d : Array Value) (w' : World) : Prop where
  b1 : w'.heap[p1]? = some (.cells c 100 (0, 0))
  b2 : ∃ z : Array Value, z.size = 32 ∧ w'.heap[p2]? = some (.cells z 100 (0, 0))
  b3 : w'.heap[p3]? = some (.cells d 100 (0, 0))
  fr : Below w.heap.size w w'
theorem TwP.below {w : World} {p1 p2 p3 : Nat} {c d : Array Value} {a e : World} (h : TwP w p1 p2 p3 c d a) (hb : Below a.heap.size a e) : TwP w p1 p2 p3 c d e :=
  ⟨blk_below h.b1 hb, by obtain ⟨z, hz, h2⟩ := h.b2; exact ⟨z, hz, blk_below h2 hb⟩, blk_below h.b3 hb, bstep h.fr hb⟩
theorem TwP.drew {w : World} {p1 p2 p3 : Nat} {c d : Array Value} {a : World} (h : TwP w p1 p2 p3 c d a) : TwP w p1 p2 p3 c d a.drew :=
  ⟨h.b1, h.b2, h.b3, ⟨h.fr.os, h.fr.tape, h.fr.output, h.fr.size, h.fr.block⟩⟩
theorem TwP.set {w : World} {p1 p2 p3 : Nat} {c d : Array Value} {a : World} (h : TwP w p1 p2 p3 c d a) (h1 : p1 ≠ p3) (h2 : p2 ≠ p3) (h3 : w.heap.size ≤ p3) (k : Nat) (v : Value) : TwP w p1 p2 p3 c (d.setIfInBounds k v) (a.setCell ⟨p3, k, none⟩ v) :=
  ⟨blk_set_far h.b1 h1 v, by obtain ⟨z, hz, hh⟩ := h.b2; exact ⟨z, hz, blk_set_far hh h2 v⟩, blk_set h.b3 k v, by
    have hF := (Fr.of_below (S := fun k => w.heap.size ≤ k) h.fr).setCell (p := ⟨p3, k, none⟩) (.inl h3) v
    exact Fr.below (Fr.shrink (T := fun _ => False) (Fr.refl _ w) (S := fun k => w.heap.size ≤ k) hF (fun k h1 h2 => absurd h2 (by omega)))⟩
theorem range_of {w : World} {p : Nat} {c : Array Value} {t : TypeId} (h : w.heap[p]? = some (.cells c t (0, 0))) : w.rangeAt p 0 c.toList := fun j v hv => by
  rw [Nat.zero_add, blk_cell h, ← hv, Array.getElem?_toList]
/-- What the round's region holds fast to. -/
theorem TwP.S {w : World} {p1 p2 p3 : Nat} {c d : Array Value} {a : World} (h : TwP w p1 p2 p3 c d a) {k : Nat} (hk : k < d.size) {v : Value} (hv : c[k]? = some v) {g : World → Value} (hg : ∀ w', g w' = (w'.cell? ⟨p3, k, none⟩).getD undef) :
    a.rangeAt p1 0 c.toList ∧ a.cell? ⟨p1, k, none⟩ = some v ∧ a.cell? ⟨p3, k, none⟩ = some (g a) ∧ a.frozen? ⟨p3, k, none⟩ = false :=
  ⟨range_of h.b1, by rw [blk_cell h.b1, hv], by rw [hg, blk_cell h.b3, Array.getElem?_eq_getElem hk]; rfl, blk_frozen h.b3 k⟩
def zeroM : Array Value := #[.int .u32 0, .int .u32 0, .int .u32 0, .int .u32 0, .int .u32 0, .int .u32 0, .int .u32 0, .int .u32 0, .int .u32 0, .int .u32 0, .int .u32 0, .int .u32 0, .int .u32 0, .int .u32 0, .int .u32 0, .int .u32 0, .int .u32 0, .int .u32 0, .int .u32 0, .int .u32 0, .int .u32 0, .int .u32 0, .int .u32 0, .int .u32 0, .int .u32 0, .int .u32 0, .int .u32 0, .int .u32 0, .int .u32 0, .int .u32 0, .int .u32 0, .int .u32 0]
theorem tw_w0 (w : World) (c z : Array Value) (hz : z.size = 32) : ∃ w0, ((w.alloc (.cells c 100)).alloc (.cells z 100)).alloc (.cells z 100) = w0 ∧ TwP w w.heap.size (w.heap.size + 1) (w.heap.size + 2) c z w0 :=
  ⟨_, rfl, blk_alloc (blk_alloc (blk_new _ _)), ⟨z, hz, by
    have h := blk_new (w.alloc (.cells c 100)) (.cells z 100)
    exact blk_alloc (by simpa using h)⟩, by
    have h := blk_new ((w.alloc (.cells c 100)).alloc (.cells z 100)) (.cells z 100)
    simpa using h, bstep (below_a2 _ _ _) (below_a1 _ _)⟩
theorem m_under : Tryd.prog.underlying 100 = some (.array 32 22) := by kernel_rfl
theorem m_info : (Tryd.prog.info? 100).map (·.size) = some 32 := by kernel_rfl
theorem fr_setCells {S : Nat → Prop} {a : World} (b : Nat) : ∀ (vs : List Value) (o : Nat) (w : World), Fr S a w → (S b ∨ a.heap.size ≤ b) → Fr S a (w.setCells b o vs)
  | [], _, _, h, _ => h
  | v :: r, o, _, h, hb => fr_setCells b r (o + 1) _ (h.setCell (p := ⟨b, o, none⟩) hb v) hb
theorem below_setCells {w a : World} (h : Below w.heap.size w a) {b : Nat} (hb : w.heap.size ≤ b) (vs : List Value) (o : Nat) : Below w.heap.size w (a.setCells b o vs) := by
  have hF := fr_setCells b vs o a (Fr.of_below (S := fun k => w.heap.size ≤ k) h) (.inl hb)
  exact Fr.below (Fr.shrink (T := fun _ => False) (Fr.refl _ w) (S := fun k => w.heap.size ≤ k) hF (fun k h1 h2 => absurd h2 (by omega)))
theorem there_of {w : World} {p : Nat} {c : Array Value} {t : TypeId} (h : w.heap[p]? = some (.cells c t (0, 0))) {n : Nat} (hn : n ≤ c.size) : w.there p 0 n := fun j hj =>
  ⟨by rw [Nat.zero_add, blk_cell h, Array.getElem?_eq_getElem (by omega)]; rfl, blk_frozen h _⟩
theorem isM_one {d : Array Value} (hd : d.size = 32) {f : Nat → Int} (h : ∀ j, j < 32 → d[j]? = some (.int .u32 (f j))) : d.all (·.oneCell') = true := by
  rw [Array.all_eq_true]
  intro j hj
  have := h j (by omega)
  rw [Array.getElem?_eq_getElem hj] at this
  rw [Option.some.inj this]; rfl
set_option maxRecDepth 100000 in
set_option maxHeartbeats 2000000 in
theorem crc_twice (c : Array Value) (M : Nat → Nat) (hM : IsM c M) (w : World) :
    Calls Tryd.prog 58 #[.agg c] w fun e w' => (∃ d, e = .returned (.agg d) ∧ IsM d (fun x => M (M x))) ∧ Below w.heap.size w w' := by
  have HM := Lib.hid hM
  clear hM
  have hsz := HM.out.size
  go_enter Tryd.func58, Tryd.ntmps58
  go_wp2_with fail
  obtain ⟨w0, hw0, T0⟩ := tw_w0 w c #[.int .u32 0, .int .u32 0, .int .u32 0, .int .u32 0, .int .u32 0, .int .u32 0, .int .u32 0, .int .u32 0, .int .u32 0, .int .u32 0, .int .u32 0, .int .u32 0, .int .u32 0, .int .u32 0, .int .u32 0, .int .u32 0, .int .u32 0, .int .u32 0, .int .u32 0, .int .u32 0, .int .u32 0, .int .u32 0, .int .u32 0, .int .u32 0, .int .u32 0, .int .u32 0, .int .u32 0, .int .u32 0, .int .u32 0, .int .u32 0, .int .u32 0, .int .u32 0] rfl
  rw [hw0]; clear hw0
  have H0 := Lib.hid T0
  clear T0
  obtain ⟨p1, hp1⟩ : ∃ p, p = w.heap.size := ⟨_, rfl⟩
  obtain ⟨p2, hp2⟩ : ∃ p, p = w.heap.size + 1 := ⟨_, rfl⟩
  obtain ⟨p3, hp3⟩ : ∃ p, p = w.heap.size + 2 := ⟨_, rfl⟩
  rw [← hp3, ← hp2, ← hp1] at H0 ⊢
  have n13 : p1 ≠ p3 := by omega
  have n23 : p2 ≠ p3 := by omega
  have n23' : p2 ≠ p1 := by omega
  have l3 : w.heap.size ≤ p3 := by omega
  have l2 : w.heap.size ≤ p2 := by omega
  clear hp1 hp2 hp3
  go_loopw [5] (fun i wr => ∃ (k : Nat) (d : Array Value), k ≤ 32 ∧ i = .int .i64 k ∧ d.size = 32 ∧ (∀ j, j < k → d[j]? = some (.int .u32 (M (M (2 ^ j)) : Nat))) ∧ TwP w p1 p2 p3 c d wr) (fun i _ => 32 - (intOf i).toNat)
  case atStart => exact ⟨0, _, Nat.zero_le _, rfl, rfl, fun j h => absurd h (by omega), H0.out⟩
  case round =>
    obtain ⟨k, d, hk, rfl, hd, hcells, hT⟩ := hrel
    have HC := Lib.hid hcells
    have HT := Lib.hid hT
    clear hcells hT
    by_cases hlt : k < 32
    · have hi : (k : Int) < 32 := by omega
      obtain ⟨g, hg⟩ : ∃ g : World → Value, ∀ w', g w' = (w'.cell? ⟨p3, k, none⟩).getD undef := ⟨_, fun _ => rfl⟩
      have Hg := Lib.hid hg
      clear hg
      have hu := m_under
      have hin : (Tryd.prog.info? 100).map (·.size) = some c.toList.length := by rw [m_info, Array.length_toList, hsz]
      have O1 := Lib.hid (crc_of c M HM.out (M (2 ^ k)) (HM.out.lin.bd _ (pow_lt32 hlt)))
      have S6 := HT.out.drew.S (k := k) (by omega) (HM.out.at' k hlt) Hg.out
      go_upto_region 5 with (fail)
      go_region_held3 (fun w' => w'.rangeAt p1 0 c.toList ∧ w'.cell? ⟨p1, k, none⟩ = some (.int .u32 (M (2 ^ k) : Nat)) ∧ w'.cell? ⟨p3, k, none⟩ = some (g w') ∧ w'.frozen? ⟨p3, k, none⟩ = false) (first | assumption | exact S6 | exact (T8.out.set n13 n23 l3 k _).S (by simp; omega) (HM.out.at' k hlt) Hg.out)
        (first
          | (go_at_call 57; refine (O1.out _).mono ?_; rintro e w8 ⟨rfl, hb8⟩; have T8 := Lib.hid (HT.out.drew.below hb8); have S8 := T8.out.S (k := k) (by omega) (HM.out.at' k hlt) Hg.out; clear hb8))
      go_wp2_with fail
      go_roundw
      case rel =>
        refine ⟨k + 1, d.setIfInBounds k (.int .u32 (M (M (2 ^ k)) : Nat)), by omega, by go_num, by simpa using hd, fun j hj => ?_, T8.out.set n13 n23 l3 k _⟩
        by_cases hjk : j = k
        · subst hjk
          rw [Array.getElem?_setIfInBounds_self_of_lt (by omega)]
        · rw [Array.getElem?_setIfInBounds_ne (fun h => hjk h.symm)]
          exact HC.out j (by omega)
      case measure => simp [intOf]; omega
    · have hi : ¬ (k : Int) < 32 := by omega
      have hk' : k = 32 := by omega
      subst hk'
      have hin : (Tryd.prog.info? 100).map (·.size) = some d.toList.length := by rw [m_info, Array.length_toList, hd]
      have hin' : (Tryd.prog.info? 100).map (·.size) = some d.size := by rw [m_info, hd]
      have hrg := range_of HT.out.b3
      obtain ⟨z, hz, hz2⟩ := HT.out.b2
      have hth := there_of hz2 (n := d.size) (by omega)
      have h1 := isM_one hd (HC.out)
      go_upto_region 7 with (fail)
      go_wp2_with (first | refine wpList_load_mid rfl 100 _ rfl p3 0 rfl d.toList _ hrg m_under rfl hin ?_ | refine wpList_store_mid rfl 100 _ _ rfl p2 0 d rfl rfl hth hin' h1 ?_)
      have hld := run_loadVar_mid (P := Tryd.prog) (wr.setCells p2 0 d.toList) p2 0 100 d.toList _ (World.rangeAt_setCells_same wr p2 0 d.toList (by rw [Array.length_toList]; exact hth)) m_under rfl hin
      rw [Array.toArray_toList] at hld
      refine bodyPost_ret (v := .agg d) ?_ rfl ⟨⟨d, rfl, ⟨HM.out.lin.comp HM.out.lin, hd, HC.out⟩⟩, below_setCells HT.out.fr l2 _ _⟩
      simp [results, Tryd.results58, asAddr, hld]
end Go.Proofs.YtlpdanghcdajmaaDoor
