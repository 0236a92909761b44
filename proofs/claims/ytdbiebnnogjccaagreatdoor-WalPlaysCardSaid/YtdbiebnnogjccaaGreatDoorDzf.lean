/- Disks (layer 19): Of; the law DiskOf. -/
import Derived.Test.YtdbiebnnogjccaaGreatDoorDzb
import Derived.BigQuiet
namespace Go.Proofs.YtdbiebnnogjccaaGreatDoor
open Go.RowKit
def Dk.ofTo (s : ByteArray) (i : Nat) : Dk := { Dk.ofS s with m := fun j => if 0 ≤ j ∧ j < (i : Int) then some (secS s j.toNat) else none }
theorem ofTo_set (s : ByteArray) (i : Nat) : setF (Dk.ofTo s i).m (i : Int) (secS s i) = (Dk.ofTo s (i + 1)).m := by
  funext j
  unfold setF Dk.ofTo
  dsimp only
  by_cases e : j = (i : Int)
  · subst e; rw [if_pos rfl, if_pos (by omega), Int.toNat_natCast]
  · rw [if_neg e]
    by_cases h : 0 ≤ j ∧ j < (i : Int)
    · rw [if_pos h, if_pos (by omega)]
    · rw [if_neg h, if_neg (by omega)]
theorem ofTo_range {s : ByteArray} {i : Nat} {n : Int} (h : (i : Int) ≤ n) : ∀ j, ((Dk.ofTo s i).m j).isSome = true → 0 ≤ j ∧ j < n := fun j hj => by
  unfold Dk.ofTo at hj
  dsimp only at hj
  by_cases h : 0 ≤ j ∧ j < (i : Int)
  · omega
  · rw [if_neg h] at hj; cases hj
set_option maxHeartbeats 1000000 in
theorem ref_Of_bad (s : ByteArray) (hs : s.size ≤ 140737488351232) (h : s.size % 256 ≠ 0 ∨ s.size < 256 ∨ 1048576 < s.size) (w : World) :
    Calls Tryz.prog 81 #[.string s] w fun e w' => e = .returned (.tuple #[.pointer none, .int .i64 1]) ∧ w = w' := by
  by_cases h0 : s.size % 256 = 0
  · have q1 : ((s.size : Int) % 256 != 0) = false := by rw [show (s.size : Int) % 256 = 0 by omega]; rfl
    by_cases h1 : s.size < 256
    · have q2 : (s.size : Int) < 256 := by omega
      clear h h0 h1
      go_enter Tryz.func81, Tryz.ntmps81
      go_wp2_with fail
      go_ret2
      exact ⟨rfl, rfl⟩
    · have q2 : ¬ (s.size : Int) < 256 := by omega
      have q3 : (1048576 : Int) < (s.size : Int) := by omega
      clear h h0 h1
      go_enter Tryz.func81, Tryz.ntmps81
      go_wp2_with fail
      go_ret2
      exact ⟨rfl, rfl⟩
  · have q1 : ((s.size : Int) % 256 != 0) = true := by rw [bne_iff_ne]; omega
    clear h h0
    go_enter Tryz.func81, Tryz.ntmps81
    go_wp2_with fail
    go_ret2
    exact ⟨rfl, rfl⟩
end Go.Proofs.YtdbiebnnogjccaaGreatDoor

/- Disks (layer 19): the law DiskOf. -/
namespace Go.Proofs.YtdbiebnnogjccaaGreatDoor
open Go.RowKit
theorem ofS_firstB {s : ByteArray} : ∀ k, k ≤ s.size / 256 → (Dk.ofS s).firstB k = s.data.toList.take (k * 256)
  | 0, _ => by simp [Dk.firstB]
  | k + 1, h => by
    have e1 : (k + 1) * 256 - k * 256 = 256 := by omega
    have e2 : (k + 1) * 256 = k * 256 + 256 := by omega
    rw [Dk.firstB_succ, ofS_firstB k (by omega), ofS_at (by omega), secS, extract_list, e1, e2, List.take_add]
theorem ofS_bytes {s : ByteArray} (h : s.size % 256 = 0) : ofL (Dk.ofS s).bytes = s := by
  refine bytes_ext ?_
  rw [ofL_list]
  unfold Dk.bytes
  rw [show (Dk.ofS s).n.toNat = s.size / 256 by show (((s.size / 256 : Nat) : Int)).toNat = _; rw [Int.toNat_natCast], ofS_firstB _ (Nat.le_refl _)]
  exact List.take_of_length_le (by rw [size_list]; omega)
theorem ofS_dirty (s : ByteArray) : (Dk.ofS s).dirty = [] := by
  unfold Dk.dirty Dk.ofS
  rw [List.filter_eq_nil_iff]
  intro a _ h
  cases h
end Go.Proofs.YtdbiebnnogjccaaGreatDoor

/- Disks (layer 19): the reference's New; both disks in memory; the law's Same. -/
namespace Go.Proofs.YtdbiebnnogjccaaGreatDoor
open Go.RowKit
/-- Behind the reference's New. -/
def NewP (w : World) (n : Nat) (e : Ending) (w' : World) : Prop := ∃ q sb rb c1 c2, e = .returned (.tuple #[.pointer (some ⟨q, 0, none⟩), .int .i64 0]) ∧ w.heap.size ≤ q ∧ w.heap.size ≤ sb ∧ w.heap.size ≤ rb ∧ RefAny w' q sb rb c1 c2 n (.slice none 0 0) (Dk.new (n : Int)) ∧ Below w.heap.size w w'
theorem zeros_sec {n k : Nat} (h : k < n) : secS (ofL (List.replicate (256 * n) 0)) k = nil256 := by
  unfold secS
  refine bytes_ext ?_
  have e : nil256.data.toList = List.replicate 256 0 := by rw [← ofL_list (List.replicate 256 0)]; rfl
  rw [e, ByteArray.data_extract, Array.toList_extract, ofL_list]
  simp only [List.extract_eq_take_drop, List.drop_replicate, List.take_replicate]
  congr 1; omega
set_option maxRecDepth 20000 in
set_option maxHeartbeats 2000000 in
theorem ref_New (n : Nat) (h0 : 1 ≤ n) (h1 : n ≤ 4096) (w : World) :
    Calls Tryz.prog 22 #[.int .i64 (n : Int)] w (NewP w n) := by
  obtain ⟨MC, hmk, hcv⟩ := make_zeros (256 * n) (by omega)
  have hZ : strOfNums (List.replicate (256 * n) 0) = ofL (List.replicate (256 * n) 0) := bytes_ext (by rw [strOfNums_data, ofL_list]; simp)
  rw [hZ] at hcv
  have e1 : ((256 * n : Nat) : Int) = 256 * (n : Int) := by omega
  rw [e1] at hmk
  have hw1 : IntKind.i64.wrap (256 * (n : Int)) = 256 * (n : Int) := IntWalk.i64_in _ (by omega)
  have q1 : ¬ (n : Int) < 1 := by omega
  have q2 : ¬ (4096 : Int) < (n : Int) := by omega
  have hsz : (ofL (List.replicate (256 * n) 0)).size = 256 * n := by rw [ofL_size, List.length_replicate]
  have RO := Lib.hid (fun W => ref_Of (ofL (List.replicate (256 * n) 0)) (by omega) (by omega) (by omega) W)
  have hdv : (ofL (List.replicate (256 * n) 0)).size / 256 = n := by omega
  have AT : Hid (∀ j : Nat, j < n → (Dk.ofS (ofL (List.replicate (256 * n) 0))).at (j : Int) = (Dk.new (n : Int)).at (j : Int)) := fun j hj => by
    rw [ofS_at (by omega), zeros_sec hj]; rfl
  have NE : Hid ((Dk.new (n : Int)).n = (Dk.ofS (ofL (List.replicate (256 * n) 0))).n) := by show (n : Int) = (((ofL (List.replicate (256 * n) 0)).size / 256 : Nat) : Int); rw [hdv]
  rw [hdv] at RO
  obtain ⟨Z, hZe⟩ : ∃ Z, Z = ofL (List.replicate (256 * n) 0) := ⟨_, rfl⟩
  rw [← hZe] at hcv RO AT NE
  clear hZ hsz hdv hZe h0 h1 e1
  go_enter Tryz.func22, Tryz.ntmps22
  go_wp2_with fail
  refine (RO.out _).mono ?_; rintro e w1 ⟨rfl, hp, hb⟩
  have HP := Lib.hid hp
  have HB := Lib.hid (bstep (below_a1 _ _) hb)
  clear hp hb
  go_wp2_with fail
  go_ret2
  obtain ⟨sb, rb, c1, c2, h1, h2, rn, hr⟩ := HP.out
  have e : (w.alloc (.cells MC 5)).heap.size = w.heap.size + 1 := by simp
  rw [e] at hr h1 h2
  exact ⟨_, sb, rb, c1, c2, rfl, by omega, by omega, by omega, ⟨rn, hr.like AT.out (fun _ _ => rfl) rfl rfl NE.out rfl rfl⟩, HB.out⟩
theorem ref_New_bad (n : Int) (h : n < 1 ∨ 4096 < n) (w : World) :
    Calls Tryz.prog 22 #[.int .i64 n] w fun e w' => e = .returned (.tuple #[.pointer none, .int .i64 1]) ∧ w = w' := by
  rcases h with h | h
  · go_enter Tryz.func22, Tryz.ntmps22
    go_wp2_with fail
    go_ret2
    exact ⟨rfl, rfl⟩
  · have h1 : ¬ n < 1 := by omega
    go_enter Tryz.func22, Tryz.ntmps22
    go_wp2_with fail
    go_ret2
    exact ⟨rfl, rfl⟩
theorem RefAny.below {w w' : World} {q sb cb c1 c2 n : Nat} {kv : Value} {d : Dk} (h : RefAny w q sb cb c1 c2 n kv d) (hb : Below w.heap.size w w') : RefAny w' q sb cb c1 c2 n kv d := by
  obtain ⟨rn, h⟩ := h; exact ⟨rn, h.below hb⟩
theorem ref_two {w : World} {q sb cb c1 c2 n : Nat} {kv : Value} {d : Dk} (h : RefAny w q sb cb c1 c2 n kv d) : w.cell? ⟨q, 0, none⟩ = some (.slice (some ⟨sb, 0, none⟩) n c1) ∧ w.cell? ⟨q, 2, none⟩ = some (.bool d.dead) := by
  obtain ⟨rn, h⟩ := h
  exact ⟨blk_cell h.blk 0, blk_cell h.blk 2⟩
theorem dirty_len {d : Dk} (h : d.n ≤ 4096) : d.dirty.length < 9223372036854775807 := by
  have : d.dirty.length ≤ 4096 := by
    unfold Dk.dirty
    refine Nat.le_trans (List.length_filter_le _ _) ?_
    simp; omega
  omega
theorem int_self (x : Int) : (x == x) = true := by simp
theorem bool_self (x : Bool) : (x == x) = true := by simp
set_option maxRecDepth 100000 in
set_option maxHeartbeats 8000000 in
theorem law19_Same (g mb cb q sb rb c1 c2 n : Nat) (kv kr : Value) (d : Dk) (aD aA : Addr) (w : World) (hw : DkW w aD aA) (hd : DiskAt w g mb cb 4096 kv d) (hr : RefAny w q sb rb c1 c2 n kr d) (ok : d.Ok) (hn : (n : Int) = d.n) :
    Calls Tryz.prog 37 #[.pointer (some ⟨g, 0, none⟩), .pointer (some ⟨q, 0, none⟩)] w fun e w' => e = .returned (.bool true) ∧ Below w.heap.size w w' := by
  have HW := Lib.hid hw
  have HD := Lib.hid hd
  have HR := Lib.hid hr
  have OK := Lib.hid ok
  have hn1 : n ≤ 4096 := by have := ok.n1; omega
  have RW := Lib.hid (fun (W : World) (h : RefAny W q sb rb c1 c2 n kr d) => ref_two h)
  have hc := ref_two hr
  have DD := Lib.hid (fun W h => disk_Dead g mb cb 4096 kv d W h)
  have DS := Lib.hid (fun W h => disk_Size g mb cb 4096 kv d W h)
  simp only [← hn] at DS
  have DI := Lib.hid (fun W h => disk_Dirty g mb cb kv d W h OK.out.ok0)
  have RI := Lib.hid (fun W h => ref_Dirty q sb rb c1 c2 n kr d OK.out.ok0 W h)
  have IN : Hid (∀ v u W, SlIl W v d.dirty → SlIl W u d.dirty → Calls Tryz.prog 48 #[v, u] W fun e w' => e = .returned (.bool true) ∧ Below W.heap.size W w') := fun v u W h1 h2 => by
    have := keep_Ints v u d.dirty d.dirty (dirty_len OK.out.n1) W h1 h2
    rw [decide_eq_true rfl] at this
    exact this
  have DB := Lib.hid (fun W h => disk_Bytes g mb cb kv d W h OK.out.ok0)
  have RB := Lib.hid (fun W h => ref_Bytes q sb rb c1 c2 n kr d OK.out.ok0 W h)
  have DR := Lib.hid (fun z hz W h1 h2 => disk_Read z hz g mb cb 4096 kv d aD aA W h1 h2)
  have RR := Lib.hid (fun z rn W h1 => ref_Read z q sb rb c1 c2 n rn kr d OK.out.sc W h1)
  obtain ⟨B, hB⟩ : ∃ B, B = ofL d.bytes := ⟨_, rfl⟩
  rw [← hB] at DB RB
  have bs := self_eq B
  obtain ⟨D, hD⟩ : ∃ D, D = d.dead := ⟨_, rfl⟩
  rw [← hD] at DD hc RW
  have bd := bool_self D
  have bn := int_self (n : Int)
  clear hB hD hw hd hr ok
  go_enter Tryz.func37, Tryz.ntmps37
  go_upto_region 1 with (fail)
  have SOf : Hid (∀ W, Below w.heap.size w W → W.cell? ⟨q, 0, none⟩ = some (.slice (some ⟨sb, 0, none⟩) n c1) ∧ W.cell? ⟨q, 2, none⟩ = some (.bool D)) := fun W h => ⟨dk_cell hc.1 h, dk_cell hc.2 h⟩
  have BN : Hid (Below w.heap.size w w.drew) := ⟨rfl, rfl, rfl, Nat.le_refl _, fun _ _ => rfl⟩
  have DN := Lib.hid (HD.out.below BN.out)
  have RN := Lib.hid (HR.out.below BN.out)
  have S0 := SOf.out _ BN.out
  clear hc
  go_region_held3 (fun w' => w'.cell? ⟨q, 0, none⟩ = some (.slice (some ⟨sb, 0, none⟩) n c1) ∧ w'.cell? ⟨q, 2, none⟩ = some (.bool D)) (first | exact S0 | assumption)
    (first
      | (go_at_call 36; refine (DD.out _ DN.out).mono ?_; rintro e y ⟨rfl, rfl⟩)
      | (go_at_call 68; refine (DS.out _ DN.out).mono ?_; rintro e y ⟨rfl, rfl⟩)
      | (go_at_call 96; refine (DI.out _ DN.out).mono ?_; rintro e y ⟨v1, rfl, hv, hb⟩; have V1 := Lib.hid hv; (try (have V2 := Lib.hid (V2.out.below hb))); have BN := Lib.hid (bstep BN.out hb); have DN := Lib.hid (DN.out.below hb); have RN := Lib.hid (RN.out.below hb); have S0 := SOf.out _ BN.out; clear hv hb)
      | (go_at_call 97; refine (RI.out _ RN.out).mono ?_; rintro e y ⟨v2, rfl, hv, hb⟩; have V2 := Lib.hid hv; (try (have V1 := Lib.hid (V1.out.below hb))); have BN := Lib.hid (bstep BN.out hb); have DN := Lib.hid (DN.out.below hb); have RN := Lib.hid (RN.out.below hb); have S0 := SOf.out _ BN.out; clear hv hb)
      | (go_at_call 48; refine (IN.out _ _ _ V1.out V2.out).mono ?_; rintro e y ⟨rfl, hb⟩; have BN := Lib.hid (bstep BN.out hb); have DN := Lib.hid (DN.out.below hb); have RN := Lib.hid (RN.out.below hb); have S0 := SOf.out _ BN.out; clear hb)
      | (go_at_call 98; refine (DB.out _ DN.out).mono ?_; rintro e y ⟨rfl, hb⟩; have BN := Lib.hid (bstep BN.out hb); have DN := Lib.hid (DN.out.below hb); have RN := Lib.hid (RN.out.below hb); have S0 := SOf.out _ BN.out; clear hb)
      | (go_at_call 99; refine (RB.out _ RN.out).mono ?_; rintro e y ⟨rfl, hb⟩; have BN := Lib.hid (bstep BN.out hb); have DN := Lib.hid (DN.out.below hb); have RN := Lib.hid (RN.out.below hb); have S0 := SOf.out _ BN.out; clear hb))
  clear IN DI RI DB RB DD DS SOf bd V1 V2
  go_wp2_with fail
  go_loopw [5] (fun c wr => ∃ z : Int, -1 ≤ z ∧ z ≤ (n : Int) + 1 ∧ c = .int .i64 z ∧ DiskAt wr g mb cb 4096 kv d ∧ RefAny wr q sb rb c1 c2 n kr d ∧ Below w.heap.size w wr) (fun c _ => ((n : Int) + 1 - intOf c).toNat)
  case atStart => exact ⟨-1, Int.le_refl _, by omega, rfl, DN.out, RN.out, BN.out⟩
  case round =>
    clear DN RN BN S0
    obtain ⟨z, hz0, hz1, rfl, hd, hr, hb⟩ := hrel
    have D1 := Lib.hid hd; have R1 := Lib.hid hr; have B1 := Lib.hid hb
    have hc := (RW.out _ hr).1
    clear hd hr hb
    by_cases hlt : z ≤ (n : Int)
    · have hwz : wf64 z := wf64_of (by omega) (by omega)
      have DRz := Lib.hid (DR.out z hwz)
      have RRz := Lib.hid (RR.out z)
      obtain ⟨X, hX⟩ : ∃ X, X = (d.read z).1 := ⟨_, rfl⟩
      obtain ⟨Y, hY⟩ : ∃ Y, Y = (d.read z).2 := ⟨_, rfl⟩
      rw [← hX, ← hY] at DRz RRz
      have sx := self_eq X
      have sy := int_self Y
      clear hX hY hwz
      go_wp2_with fail
      refine (DRz.out _ (HW.out.below B1.out) D1.out).mono ?_; rintro e y1 ⟨rfl, hb⟩
      have D2 := Lib.hid (D1.out.below hb)
      have R2 := Lib.hid (R1.out.below hb)
      have B2 := Lib.hid (bstep B1.out hb)
      clear hb hc
      go_wp2_with fail
      obtain ⟨rn, hr⟩ := R2.out
      refine (RRz.out rn _ hr).mono ?_; rintro e y2 ⟨rfl, rfl⟩
      clear hr
      go_wp2_with fail
      go_roundw
      case rel => exact ⟨z + 1, by omega, by omega, by go_num, D2.out, R2.out, B2.out⟩
      case measure => simp [intOf]; omega
    · go_wp2_with fail
      go_ret
      exact ⟨rfl, B1.out⟩
end Go.Proofs.YtdbiebnnogjccaaGreatDoor
