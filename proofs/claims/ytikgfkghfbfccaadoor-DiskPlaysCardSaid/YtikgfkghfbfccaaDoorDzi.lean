/- Disks (layer 19): the law DiskPlays. -/
import Derived.Test.YtikgfkghfbfccaaDoorDzh
namespace Go.Proofs.YtikgfkghfbfccaaDoor
open Go.RowKit
/-- A row of as many pairs (if there are any). -/
def GB (w : World) (G m : Nat) : Prop := 0 < m → ∃ cs, w.heap[G]? = some (.cells cs 56 (0, 0)) ∧ m * 2 ≤ cs.size
theorem GB.fr {S : Nat → Prop} {w w' : World} {G m : Nat} (h : GB w G m) (hf : Fr S w w') (hs : ¬ S G) : GB w' G m := fun h0 => by
  obtain ⟨cs, h1, h2⟩ := h h0; exact ⟨cs, blk_fr h1 hf hs, h2⟩
theorem GB.below {w w' : World} {G m : Nat} (h : GB w G m) (hb : Below w.heap.size w w') : GB w' G m := fun h0 => by
  obtain ⟨cs, h1, h2⟩ := h h0; exact ⟨cs, blk_below h1 hb, h2⟩
theorem GB.lt {w : World} {G m : Nat} (h : GB w G m) : ∀ x, (x = G ∧ 0 < m) → x < w.heap.size := fun x k => by
  obtain ⟨rfl, h0⟩ := k; obtain ⟨cs, h1, _⟩ := h h0; exact blk_lt h1
theorem GB.set {w : World} {G m : Nat} (h : GB w G m) (o : Nat) (u : Value) : GB (w.setCell ⟨G, o, none⟩ u) G m := fun h0 => by
  obtain ⟨cs, h1, h2⟩ := h h0; exact ⟨_, blk_set h1 _ _, by simpa using h2⟩
theorem tick_n (d : Dk) : d.tick.n = d.n := by unfold Dk.tick; split <;> rfl
theorem crash_n (d : Dk) (l : List (Int × Int)) : (d.crash l).n = d.n := by unfold Dk.crash; split <;> rfl
theorem write_n (d : Dk) (i : Int) (s : ByteArray) : (d.write i s).1.n = d.n := by
  unfold Dk.write
  split
  · rfl
  · split
    · rfl
    · split
      · show (((d.put i s).tick).crash d.keep).n = _; rw [crash_n, tick_n]; rfl
      · show ((d.put i s).tick).n = _; rw [tick_n]; rfl
theorem flush_n (d : Dk) : d.flush.1.n = d.n := by
  unfold Dk.flush
  split
  · rfl
  · split
    · show (d.tick.crash d.keep).n = _; rw [crash_n, tick_n]
    · show d.tick.n = _; rw [tick_n]
theorem arm_n (d : Dk) (m : Int) (l : List (Int × Int)) : (d.arm m l).1.n = d.n := by unfold Dk.arm; split <;> rfl
set_option maxRecDepth 100000 in
set_option maxHeartbeats 16000000 in
theorem law19_DiskPlays (n : Int) (v : Value) (L : List Stp) (aD aA : Addr) (w : World) (_hl : L.length ≤ 9223372036854775807) (ht : ∀ x ∈ L, wf64 x.k ∧ wf64 x.n ∧ x.s.size ≤ 9223372036854775807) (hv : SlStps w v L) (hw : DkW w aD aA) :
    Calls Tryd.prog 7 #[.int .i64 n, v] w fun e w' => e = .returned (.bool true) ∧ Below w.heap.size w w' := by
  have HW := Lib.hid hw
  have WK := Lib.hid (fun W h => wakes19 aD aA W h)
  have HT := Lib.hid ht
  have HV := Lib.hid hv
  have FA := Lib.hid (law19_fair v L _hl w hv)
  obtain ⟨p, c, rfl, hc⟩ := hv.form
  clear hw ht hv
  cases hf : fairB L with
  | false =>
    rw [hf] at FA
    clear hf
    go_enter Tryd.func7, Tryd.ntmps7
    go_wp2_with fail
    refine FA.out.mono ?_; rintro e w1 ⟨rfl, rfl⟩
    go_wp2_with fail
    refine (WK.out _ HW.out).mono ?_; rintro e y ⟨rfl, hby⟩
    have By := Lib.hid hby
    clear hby
    go_wp2_with fail
    go_ret
    exact ⟨rfl, By.out⟩
  | true =>
  rw [hf] at FA
  have HF := Lib.hid (fairB_true hf)
  clear hf
  by_cases hn : n < 1 ∨ 4096 < n
  · have DB := Lib.hid (fun W => disk_New_bad n hn W)
    have RB := Lib.hid (fun W => ref_New_bad n hn W)
    clear hn
    go_enter Tryd.func7, Tryd.ntmps7
    go_wp2_with fail
    refine FA.out.mono ?_; rintro e w1 ⟨rfl, rfl⟩
    go_wp2_with fail
    refine (DB.out _).mono ?_; rintro e w1 ⟨rfl, rfl⟩
    go_wp2_with fail
    refine (RB.out _).mono ?_; rintro e w1 ⟨rfl, rfl⟩
    go_wp2_with fail
    go_loop [9] (fun c => c = .int .i64 0) (fun _ => 0)
    case atStart => rfl
    case round =>
      subst hrel
      by_cases h0 : (0 : Int) < (L.length : Int)
      · go_wp2_with fail
        refine (WK.out _ HW.out).mono ?_; rintro e y ⟨rfl, hby⟩
        have By := Lib.hid hby
        clear hby
        go_wp2_with fail
        go_ret
        exact ⟨rfl, By.out⟩
      · have h00 : decide ((0 : Int) < (L.length : Int)) = false := decide_eq_false h0
        go_wp2_with fail
        refine (WK.out _ HW.out).mono ?_; rintro e y ⟨rfl, hby⟩
        have By := Lib.hid hby
        clear hby
        go_wp2_with fail
        go_ret
        exact ⟨rfl, By.out⟩
  obtain ⟨n, rfl⟩ : ∃ m : Nat, n = (m : Int) := ⟨n.toNat, by omega⟩
  have hn0 : 1 ≤ n := by omega
  have hn1 : n ≤ 4096 := by omega
  clear hn
  obtain ⟨g, hg⟩ : ∃ g, g = w.heap.size + 2 := ⟨_, rfl⟩
  obtain ⟨cb, hcb⟩ : ∃ cb, cb = w.heap.size + 1 := ⟨_, rfl⟩
  obtain ⟨mb, hmb⟩ : ∃ mb, mb = w.heap.size := ⟨_, rfl⟩
  have NW := Lib.hid (disk_New (n : Int) (by omega) (by omega) w)
  rw [← hg, ← hcb] at NW
  have NW' : Hid (Calls Tryd.prog 16 #[.int .i64 (n : Int)] w fun e w' => e = .returned (.tuple #[.pointer (some ⟨g, 0, none⟩), .int .i64 0]) ∧ DiskAt w' g mb cb 0 (.slice none 0 0) (Dk.new (n : Int)) ∧ Below w.heap.size w w') := by rw [hmb]; exact NW.out
  have RN := Lib.hid (fun W => ref_New n hn0 hn1 W)
  have O0 : Hid (Dk.new (n : Int)).Ok := Dk.Ok.new (by omega) (by omega)
  have N0 : Hid ((n : Int) = (Dk.new (n : Int)).n) := rfl
  have LD : Hid (∀ x, DkS g mb cb x → w.heap.size ≤ x) := by rintro x (h | h | h) <;> omega
  obtain ⟨d0, hd0⟩ : ∃ d, d = Dk.new (n : Int) := ⟨_, rfl⟩
  unfold NewP at RN
  rw [← hd0] at NW' RN O0 N0
  clear NW hg hcb hmb hd0
  go_enter Tryd.func7, Tryd.ntmps7
  go_wp2_with fail
  refine FA.out.mono ?_; rintro e w1 ⟨rfl, rfl⟩
  go_wp2_with fail
  refine NW'.out.mono ?_; rintro e w1 ⟨rfl, hd, hb⟩
  have D1 : Hid (DiskAt w1 g mb cb 4096 (.slice none 0 0) d0) := ⟨hd.blk, hd.hm.mono (by omega), hd.hc.mono (by omega), hd.hk, hd.n0, hd.n1, hd.gm, hd.gc, hd.mc, hd.kn⟩
  have B1 := Lib.hid hb
  clear hd hb
  go_wp2_with fail
  refine (RN.out _).mono ?_; rintro e w2 ⟨q, sb, rb, c1, c2, rfl, hq, hsb, hrb, hr, hb⟩
  have B2 := Lib.hid (bstep B1.out hb)
  have LAY : Hid (Lay w g mb cb q sb rb) := by
    have h1 := B1.out.size
    have := D1.out.lt; have := D1.out.hm.lt; have := D1.out.hc.lt
    refine ⟨?_, LD.out, ?_⟩
    · rintro x (h | h | h) (k | k | k) <;> omega
    · rintro x (k | k | k) <;> omega
  have D2 : Hid (DkP w2 g mb cb q sb rb d0) := ⟨_, D1.out.below hb, fun b off n c e => by cases e⟩
  have R2 : Hid (RfP w2 g mb cb q sb rb c1 c2 n d0) := ⟨_, hr, fun b off n c e => by cases e⟩
  clear hr hb hq hsb hrb D1 B1 NW' RN LD
  go_wp2_with fail
  obtain ⟨m, hm⟩ : ∃ m, m = L.length := ⟨_, rfl⟩
  rw [← hm]
  have HM := Lib.hid hm
  clear hm hc
  go_loopw [9] (fun c wr => ∃ (i : Nat) (d : Dk), i ≤ m ∧ c = .int .i64 i ∧ d.Ok ∧ (n : Int) = d.n ∧ DkP wr g mb cb q sb rb d ∧ RfP wr g mb cb q sb rb c1 c2 n d ∧ Below w.heap.size w wr) (fun c _ => m - (intOf c).toNat)
  case atStart => exact ⟨0, d0, Nat.zero_le _, rfl, O0.out, N0.out, D2.out, R2.out, B2.out⟩
  case round =>
    clear O0 N0 D2 R2 B2
    obtain ⟨i, d, hik, rfl, ho, hnn, hd, hr, hb⟩ := hrel
    have OK := Lib.hid ho; have NN := Lib.hid hnn; have HD := Lib.hid hd; have HR := Lib.hid hr; have HB := Lib.hid hb
    clear ho hnn hd hr hb
    by_cases hlt : i < m
    · have hi : (i : Int) < (m : Int) := by omega
      have hi0 : (0 : Int) ≤ (i : Int) := by omega
      have h1 : i < L.length := by rw [← HM.out]; exact hlt
      obtain ⟨b, off, hp, hst⟩ := HV.out.atN rfl h1
      subst hp
      have hst2 := hst.below HB.out
      have ck := hst2.kind i h1
      have cn := hst2.num i h1
      have cs := hst2.str i h1
      obtain ⟨kv, ckv0, hkv0⟩ := hst.kep i h1
      have ckv := dk_cell ckv0 HB.out
      have hkv := hkv0.below HB.out
      obtain ⟨kp, kc, rfl⟩ := hkv0.form
      obtain ⟨hwk, hwn, _⟩ := HT.out L[i] (List.getElem_mem h1)
      obtain ⟨hs1, hl1⟩ := HF.out.2 i h1
      obtain ⟨x, hx⟩ : ∃ x, x = L[i] := ⟨_, rfl⟩
      rw [← hx] at ck cn cs hkv hkv0 hwk hwn hs1 hl1 ckv
      obtain ⟨xk, xn, xs, xl⟩ := x
      dsimp only at ck cn cs hkv hkv0 hwk hwn hs1 hl1 ckv
      clear hx hst hst2 ckv0
      go_upto_region 11 with (fail)
      have bx : Below wr.heap.size wr (wr.alloc (.cells #[.int .i64 xk, .int .i64 xn, .string xs, .slice kp xl.length kc] 71)) := below_alloc1 _ _
      have X1 : Hid ((wr.alloc (.cells #[.int .i64 xk, .int .i64 xn, .string xs, .slice kp xl.length kc] 71)).heap[wr.heap.size]? = some (.cells #[.int .i64 xk, .int .i64 xn, .string xs, .slice kp xl.length kc] 71 (0, 0))) := blk_new _ _
      have D1 := Lib.hid (HD.out.below bx)
      have R1 := Lib.hid (HR.out.below bx)
      have B1 := Lib.hid (bstep HB.out bx)
      have K1 := Lib.hid (hkv.below bx)
      have XD : Hid (¬ DkS g mb cb wr.heap.size) := fun h => Nat.lt_irrefl _ (HD.out.lt _ h)
      have XR : Hid (¬ RfS q sb rb wr.heap.size) := fun h => Nat.lt_irrefl _ (HR.out.lt _ h)
      have K0 := Lib.hid hkv0
      obtain ⟨w1, hw1⟩ : ∃ w1, w1 = wr.alloc (.cells #[.int .i64 xk, .int .i64 xn, .string xs, .slice kp xl.length kc] 71) := ⟨_, rfl⟩
      obtain ⟨X, hX⟩ : ∃ X, X = wr.heap.size := ⟨_, rfl⟩
      rw [← hw1, ← hX] at X1
      rw [← hw1] at D1 R1 B1 K1
      rw [← hX] at XD XR
      rw [← hw1, ← hX]
      clear bx HD HR HB hkv hkv0 hw1 hX ck cn cs ckv
      have hcx := blk_cell X1.out
      go_upto_block 2 with (fail)
      go_cut [11, 12, 13, 14, 15, 16] (fun _ _ _ _ _ _ wc => ∃ d' : Dk, d'.Ok ∧ (n : Int) = d'.n ∧ DkP wc g mb cb q sb rb d' ∧ RfP wc g mb cb q sb rb c1 c2 n d' ∧ Below w.heap.size w wc)
      case first =>
        by_cases h0 : xk = 0
        · subst h0
          have PW := Lib.hid (fun W h1 h2 => pd_Write (g := g) (mb := mb) (cb := cb) (q := q) (sb := sb) (rb := rb) (d := d) (aD := aD) (aA := aA) xn hwn xs OK.out W h1 h2)
          have RW := Lib.hid (fun W h1 => pr_Write (g := g) (mb := mb) (cb := cb) (q := q) (sb := sb) (rb := rb) (d := d) (c1 := c1) (c2 := c2) (n := n) xn xs OK.out W h1)
          have O2 := Lib.hid (OK.out.write xn xs)
          have N2 : Hid ((n : Int) = (d.write xn xs).1.n) := by show _ = _; rw [write_n]; exact NN.out
          obtain ⟨d2, hd2⟩ : ∃ d2, d2 = (d.write xn xs).1 := ⟨_, rfl⟩
          obtain ⟨E2, hE2⟩ : ∃ e, e = (d.write xn xs).2 := ⟨_, rfl⟩
          rw [← hd2, ← hE2] at PW RW
          rw [← hd2] at O2 N2
          have se := int_self E2
          clear hd2 hE2
          go_upto_region 13 with (fail)
          have bd : Below w1.heap.size w1 w1.drew := ⟨rfl, rfl, rfl, Nat.le_refl _, fun _ _ => rfl⟩
          have DN := Lib.hid (D1.out.below bd)
          have RN := Lib.hid (R1.out.below bd)
          have BN := Lib.hid (bstep B1.out bd)
          have XN := Lib.hid (blk_below X1.out bd)
          have XO : Hid (∀ W : World, W.heap[X]? = some (.cells #[.int .i64 0, .int .i64 xn, .string xs, .slice kp xl.length kc] 71 (0, 0)) → W.cell? ⟨X, 1, none⟩ = some (.int .i64 xn) ∧ W.cell? ⟨X, 2, none⟩ = some (.string xs)) := fun W h => ⟨blk_cell h 1, blk_cell h 2⟩
          have S0 := XO.out _ XN.out
          clear hcx bd
          go_region_held3 (fun w' => w'.cell? ⟨X, 1, none⟩ = some (.int .i64 xn) ∧ w'.cell? ⟨X, 2, none⟩ = some (.string xs)) (first | exact S0 | assumption)
            (first
              | (go_at_call 20; refine (PW.out _ (HW.out.below BN.out) DN.out).mono ?_; rintro e y ⟨rfl, hd, hf⟩; have DN := Lib.hid hd; have RN := Lib.hid (RN.out.fr LAY.out hf); have BN := Lib.hid (LAY.out.frd BN.out hf); have XN := Lib.hid (blk_fr XN.out hf XD.out); have S0 := XO.out _ XN.out; clear hd hf)
              | (go_at_call 33; refine (RW.out _ RN.out).mono ?_; rintro e y ⟨rfl, hd, hf⟩; have RN := Lib.hid hd; have DN := Lib.hid (DN.out.fr LAY.out hf); have BN := Lib.hid (LAY.out.frr BN.out hf); have XN := Lib.hid (blk_fr XN.out hf XR.out); have S0 := XO.out _ XN.out; clear hd hf))
          go_wp2_with fail
          go_meet
          exact ⟨d2, O2.out, N2.out, DN.out, RN.out, BN.out⟩
        have q0 : (xk == 0) = false := by rw [beq_eq_false_iff_ne]; exact h0
        by_cases h1 : xk = 1
        · subst h1
          have PR := Lib.hid (fun W h1 h2 => pd_Read (g := g) (mb := mb) (cb := cb) (q := q) (sb := sb) (rb := rb) (d := d) (aD := aD) (aA := aA) xn hwn W h1 h2)
          have RR := Lib.hid (fun W h1 => pr_Read (g := g) (mb := mb) (cb := cb) (q := q) (sb := sb) (rb := rb) (d := d) (c1 := c1) (c2 := c2) (n := n) xn OK.out W h1)
          obtain ⟨T2, hT2⟩ : ∃ e, e = (d.read xn).1 := ⟨_, rfl⟩
          obtain ⟨E2, hE2⟩ : ∃ e, e = (d.read xn).2 := ⟨_, rfl⟩
          rw [← hT2, ← hE2] at PR RR
          have se := int_self E2
          have st := self_eq T2
          clear hT2 hE2
          go_wp2_with fail
          refine (PR.out _ (HW.out.below B1.out) D1.out).mono ?_; rintro e y ⟨rfl, hb⟩
          have DN := Lib.hid (D1.out.below hb)
          have RN := Lib.hid (R1.out.below hb)
          have BN := Lib.hid (bstep B1.out hb)
          have XN := Lib.hid (blk_below X1.out hb)
          clear hb hcx
          have hcx := blk_cell XN.out
          go_wp2_with fail
          refine (RR.out _ RN.out).mono ?_; rintro e y2 ⟨rfl, rfl⟩
          go_wp2_with fail
          go_meet
          exact ⟨d, OK.out, NN.out, DN.out, RN.out, BN.out⟩
        have q1 : (xk == 1) = false := by rw [beq_eq_false_iff_ne]; exact h1
        by_cases h2 : xk = 2
        · subst h2
          have PW := Lib.hid (fun W h1 h2 => pd_Flush (g := g) (mb := mb) (cb := cb) (q := q) (sb := sb) (rb := rb) (d := d) (aD := aD) (aA := aA) OK.out W h1 h2)
          have RW := Lib.hid (fun W h1 => pr_Flush (g := g) (mb := mb) (cb := cb) (q := q) (sb := sb) (rb := rb) (d := d) (c1 := c1) (c2 := c2) (n := n) OK.out W h1)
          have O2 := Lib.hid OK.out.flush
          have N2 : Hid ((n : Int) = d.flush.1.n) := by show _ = _; rw [flush_n]; exact NN.out
          obtain ⟨d2, hd2⟩ : ∃ d2, d2 = d.flush.1 := ⟨_, rfl⟩
          obtain ⟨E2, hE2⟩ : ∃ e, e = d.flush.2 := ⟨_, rfl⟩
          rw [← hd2, ← hE2] at PW RW
          rw [← hd2] at O2 N2
          have se := int_self E2
          clear hd2 hE2
          go_wp2_with fail
          refine (PW.out _ (HW.out.below B1.out) D1.out).mono ?_; rintro e y ⟨rfl, hd, hf⟩
          have DN := Lib.hid hd
          have RN := Lib.hid (R1.out.fr LAY.out hf)
          have BN := Lib.hid (LAY.out.frd B1.out hf)
          clear hd hf hcx
          go_wp2_with fail
          refine (RW.out _ RN.out).mono ?_; rintro e y2 ⟨rfl, hd, hf⟩
          have RN := Lib.hid hd
          have DN := Lib.hid (DN.out.fr LAY.out hf)
          have BN := Lib.hid (LAY.out.frr BN.out hf)
          clear hd hf
          go_wp2_with fail
          go_meet
          exact ⟨d2, O2.out, N2.out, DN.out, RN.out, BN.out⟩
        have q2 : (xk == 2) = false := by rw [beq_eq_false_iff_ne]; exact h2
        by_cases h3 : xk = 3
        · subst h3
          have PW := Lib.hid (fun kvv W h1 h2 h3 => pd_Crash (g := g) (mb := mb) (cb := cb) (q := q) (sb := sb) (rb := rb) (d := d) kvv xl (by omega) OK.out W h1 h2 h3)
          have RW := Lib.hid (fun W h1 h2 h3 => pr_Crash (g := g) (mb := mb) (cb := cb) (q := q) (sb := sb) (rb := rb) (d := d) (c1 := c1) (c2 := c2) (n := n) (.slice kp xl.length kc) xl (by omega) OK.out W h1 h2 h3)
          have O2 := Lib.hid (OK.out.crash xl)
          have N2 : Hid ((n : Int) = (d.crash xl).n) := by show _ = _; rw [crash_n]; exact NN.out
          obtain ⟨d2, hd2⟩ : ∃ d2, d2 = d.crash xl := ⟨_, rfl⟩
          rw [← hd2] at PW RW O2 N2
          have HL := Lib.hid hl1
          have KN : Hid (xl ≠ [] → ∀ b off n c, Value.slice kp xl.length kc = .slice (some ⟨b, off, none⟩) n c → ¬ RfS q sb rb b) := fun h0 b off n c e h => by
            have hk := K0.out
            rw [e] at hk
            have := SlKept.lt hk h0
            have := LAY.out.lr b h; omega
          obtain ⟨i0, ih, i1, i2, i3⟩ := info_parts Tryd.info56
          have HLt := Lib.hid D1.out.lt
          have hca : (w1.alloc (.cells #[] 56)).cell? ⟨X, 3, none⟩ = some (.slice kp xl.length kc) := blk_cell (blk_alloc X1.out) 3
          clear hd2 hl1
          go_wp2_with (at_builtin; refine wpList_append_new rfl _ _ _ rfl 56 i0 _ Tryd.underlying42 ih i1 2 i2 (by omega) _ rfl _ rfl xl.length (ktCells xl) (ktCells_len xl) (K1.out.below (below_alloc1 _ _)).cells (by have := HL.out; omega) ?_; intro G gc wg k1 k2 k3 k4 k5; have K2 := Lib.hid (SlKept.of_cells k1 k2 (fun h => (k5 h).2)); have b1 := (bstep (below_alloc1 _ _) k3); have BN := Lib.hid (bstep B1.out b1); have DN := Lib.hid (D1.out.below b1); have RN := Lib.hid (R1.out.below b1); have XN := Lib.hid (blk_below X1.out b1); have hg : w1.heap.size ≤ G := (k4.elim (fun h => Nat.le_of_eq h.symm) (fun h => by rw [h]; simp)); have HN : Hid (∀ b off n c', Value.slice (some ⟨G, 0, none⟩) xl.length gc = .slice (some ⟨b, off, none⟩) n c' → ¬ DkS g mb cb b) := (fun b off n c' e h => by injection e with e _ _; injection e with e; injection e with e _ _; have := HLt.out b h; omega); clear k1 k2 k3 k4 k5 hg b1)
          refine (PW.out _ _ DN.out K2.out HN.out).mono ?_; rintro e y ⟨rfl, hd, hf⟩
          have DN := Lib.hid hd
          have RN := Lib.hid (RN.out.fr LAY.out hf)
          have BN := Lib.hid (LAY.out.frd BN.out hf)
          have XN := Lib.hid (blk_fr XN.out hf XD.out)
          clear hd hf hcx HN K2
          have hcx := blk_cell XN.out
          go_wp2_with fail
          refine (RW.out _ RN.out (K0.out.below BN.out) KN.out).mono ?_; rintro e y2 ⟨rfl, hd, hf⟩
          have RN := Lib.hid hd
          have DN := Lib.hid (DN.out.fr LAY.out hf)
          have BN := Lib.hid (LAY.out.frr BN.out hf)
          clear hd hf
          go_wp2_with fail
          go_meet
          exact ⟨d2, O2.out, N2.out, DN.out, RN.out, BN.out⟩
        have q3 : (xk == 3) = false := by rw [beq_eq_false_iff_ne]; exact h3
        by_cases h4 : xk = 4
        · subst h4
          have hq4 : (4 : Int) = 4 := rfl
          clear hq4
          have O2 := Lib.hid (OK.out.arm xn (l := xl) (by omega))
          have N2 : Hid ((n : Int) = (d.arm xn xl).1.n) := by show _ = _; rw [arm_n]; exact NN.out
          have PW := Lib.hid (fun T kvv W h1 h2 h3 h4 => pd_Arm (g := g) (mb := mb) (cb := cb) (q := q) (sb := sb) (rb := rb) (d := d) (T := T) xn kvv xl (by omega) W h1 h2 h3 h4)
          have RW := Lib.hid (fun T W h1 h2 h3 h4 => pr_Arm (g := g) (mb := mb) (cb := cb) (q := q) (sb := sb) (rb := rb) (d := d) (c1 := c1) (c2 := c2) (n := n) (T := T) xn (.slice kp xl.length kc) xl (by omega) W h1 h2 h3 h4)
          obtain ⟨d2, hd2⟩ : ∃ d2, d2 = (d.arm xn xl).1 := ⟨_, rfl⟩
          obtain ⟨E2, hE2⟩ : ∃ e, e = (d.arm xn xl).2 := ⟨_, rfl⟩
          rw [← hd2] at O2 N2
          rw [← hd2, ← hE2] at PW RW
          have se := int_self E2
          have HL := Lib.hid hl1
          obtain ⟨i0, ih, i1, i2, i3⟩ := info_parts Tryd.info56
          have HLt := Lib.hid D1.out.lt
          have HLr := Lib.hid R1.out.lt
          have hca : (w1.alloc (.cells #[] 56)).cell? ⟨X, 3, none⟩ = some (.slice kp xl.length kc) := blk_cell (blk_alloc X1.out) 3
          clear hd2 hE2 hl1
          go_wp2_with (at_builtin; refine wpList_append_newB rfl _ _ _ rfl 56 i0 _ Tryd.underlying42 ih i1 2 i2 (by omega) _ rfl _ rfl xl.length (ktCells xl) (ktCells_len xl) (K1.out.below (below_alloc1 _ _)).cells (by have := HL.out; omega) ?_; intro G gc wg k1 k2 k3 k4 k5; have b1 := (bstep (below_alloc1 _ _) k3); have hg : w1.heap.size ≤ G := (k4.elim (fun h => Nat.le_of_eq h.symm) (fun h => by rw [h]; simp)); have GN : Hid (GB wg G xl.length) := (fun h => (k5 h).2); have K2 := Lib.hid (SlKept.of_cells k1 k2 (fun h => by obtain ⟨cs', h1, _⟩ := GN.out h; exact blk_lt h1)); have BN := Lib.hid (bstep B1.out b1); have XN := Lib.hid (blk_below X1.out b1); have DN := Lib.hid ((D1.out.toQ (T := fun x => x = G ∧ 0 < xl.length) (fun x h => by rw [h.1]; exact hg)).below b1); have RN := Lib.hid ((R1.out.toQ (T := fun x => x = G ∧ 0 < xl.length) (fun x h => by rw [h.1]; exact hg)).below b1); have TD : Hid (∀ x, DkS g mb cb x → ¬ (x = G ∧ 0 < xl.length)) := (fun x h k => by have := HLt.out x h; omega); have TR : Hid (∀ x, RfS q sb rb x → ¬ (x = G ∧ 0 < xl.length)) := (fun x h k => by have := HLr.out x h; omega); have GX : Hid (0 < xl.length → X ≠ G) := (fun h => by have := blk_lt X1.out; omega); have GD : Hid (¬ DkS g mb cb G) := (fun h => by have := HLt.out G h; omega); have GR : Hid (¬ RfS q sb rb G) := (fun h => by have := HLr.out G h; omega); have GW : Hid (w.heap.size ≤ G) := Nat.le_trans B1.out.size hg; clear k1 k2 k3 k4 k5 hg b1)
          clear hca hcx
          go_upto_region 28 with (fail)
          have bd : Below wg.heap.size wg wg.drew := ⟨rfl, rfl, rfl, Nat.le_refl _, fun _ _ => rfl⟩
          have DN := Lib.hid (DN.out.below bd)
          have RN := Lib.hid (RN.out.below bd)
          have BN := Lib.hid (bstep BN.out bd)
          have XN := Lib.hid (blk_below XN.out bd)
          have KN := Lib.hid (K2.out.below bd)
          have GN := Lib.hid (GN.out.below bd)
          have XO : Hid (∀ W : World, W.heap[X]? = some (.cells #[.int .i64 4, .int .i64 xn, .string xs, .slice kp xl.length kc] 71 (0, 0)) → W.cell? ⟨X, 1, none⟩ = some (.int .i64 xn) ∧ W.cell? ⟨X, 3, none⟩ = some (.slice kp xl.length kc)) := fun W h => ⟨blk_cell h 1, blk_cell h 3⟩
          have S0 := XO.out _ XN.out
          clear bd
          go_region_held3 (fun w' => w'.cell? ⟨X, 1, none⟩ = some (.int .i64 xn) ∧ w'.cell? ⟨X, 3, none⟩ = some (.slice kp xl.length kc)) (first | exact S0 | assumption)
            (first
              | (go_at_call 37; refine (PW.out _ _ _ DN.out GN.out.lt RN.out.p.lt KN.out).mono ?_; rintro e y ⟨rfl, hd, hf⟩; have DN := Lib.hid hd; have RN := Lib.hid (RN.out.fr LAY.out hf); have BN := Lib.hid (LAY.out.frd BN.out hf); have XN := Lib.hid (blk_fr XN.out hf XD.out); have GN := Lib.hid (GN.out.fr hf GD.out); have KN := Lib.hid (KN.out.fr' hf (fun _ b off n c e h => by injection e with e _ _; injection e with e; injection e with e _ _; exact GD.out (by rw [e]; exact h))); have S0 := XO.out _ XN.out; clear hd hf)
              | (go_at_call 38; refine (RW.out _ _ RN.out GN.out.lt DN.out.p.lt (K0.out.below BN.out)).mono ?_; rintro e y ⟨rfl, hd, hf⟩; have RN := Lib.hid hd; have DN := Lib.hid (DN.out.fr LAY.out hf); have BN := Lib.hid (LAY.out.frr BN.out hf); have XN := Lib.hid (blk_fr XN.out hf XR.out); have GN := Lib.hid (GN.out.fr hf GR.out); have KN := Lib.hid (KN.out.fr' hf (fun _ b off n c e h => by injection e with e _ _; injection e with e; injection e with e _ _; exact GR.out (by rw [e]; exact h))); have S0 := XO.out _ XN.out; clear hd hf))
          clear S0 PW RW
          go_wp2_with fail
          go_loopw [16] (fun c wr => ∃ k : Nat, k ≤ xl.length ∧ c = .int .i64 k ∧ DkQ wr g mb cb q sb rb d2 (fun x => x = G ∧ 0 < xl.length) ∧ RfQ wr g mb cb q sb rb c1 c2 n d2 (fun x => x = G ∧ 0 < xl.length) ∧ GB wr G xl.length ∧ Below w.heap.size w wr) (fun c _ => xl.length - (intOf c).toNat)
          case atStart => exact ⟨0, Nat.zero_le _, rfl, DN.out, RN.out, GN.out, BN.out⟩
          case round =>
            clear DN RN GN BN
            obtain ⟨k, hkl, rfl, hd, hr, hgb, hb⟩ := hrel
            have DN := Lib.hid hd; have RN := Lib.hid hr; have GN := Lib.hid hgb; have BN := Lib.hid hb
            clear hd hr hgb hb
            by_cases hlk : k < xl.length
            · have hk1 : (k : Int) < (xl.length : Int) := by omega
              have hk0 : (0 : Int) ≤ (k : Int) := by omega
              have hpos : 0 < xl.length := by omega
              obtain ⟨cs, hcs, hsz⟩ := GN.out hpos
              obtain ⟨u0, hu0⟩ : ∃ u, cs[k * 2]? = some u := ⟨_, Array.getElem?_eq_getElem (by omega)⟩
              obtain ⟨u1, hu1⟩ : ∃ u, cs[k * 2 + 1]? = some u := ⟨_, Array.getElem?_eq_getElem (by omega)⟩
              have hc0 := (blk_cell hcs (k * 2)).trans hu0
              have hc1 := (blk_cell hcs (k * 2 + 1)).trans hu1
              have hfr := blk_frozen hcs
              have HP := Lib.hid hpos
              clear hu0 hu1 hcs hsz hpos
              have ft : Fr (fun x => x = G ∧ 0 < xl.length) wr ((wr.setCell ⟨G, k * 2, none⟩ (.int .i64 3)).setCell ⟨G, k * 2 + 1, none⟩ (.int .i64 7)) := (fr_set (S := fun x => x = G ∧ 0 < xl.length) ⟨rfl, HP.out⟩ _ _).trans (fr_set (S := fun x => x = G ∧ 0 < xl.length) ⟨rfl, HP.out⟩ _ _)
              have D9 := Lib.hid (DN.out.apart TD.out ft)
              have R9 := Lib.hid (RN.out.apart TR.out ft)
              have G9 := Lib.hid ((GN.out.set (k * 2) (.int .i64 3)).set (k * 2 + 1) (.int .i64 7))
              have B9 := Lib.hid ((BN.out.setCell (p := ⟨G, k * 2, none⟩) GW.out (.int .i64 3)).setCell (p := ⟨G, k * 2 + 1, none⟩) GW.out (.int .i64 7))
              have hl50 : xl.length ≤ 50 := HL.out
              clear ft
              go_wp2_with fail
              go_roundw
              case rel => exact ⟨k + 1, by omega, by go_num, D9.out, R9.out, G9.out, B9.out⟩
              case measure => simp [intOf]; omega
            · have hk1 : ¬ (k : Int) < (xl.length : Int) := by omega
              go_wp2_with fail
              go_meet
              exact ⟨d2, O2.out, N2.out, DN.out.p, RN.out.p, BN.out⟩
        have q4 : (xk == 4) = false := by rw [beq_eq_false_iff_ne]; exact h4
        by_cases h5 : xk = 5
        · subst h5
          have PW := Lib.hid (fun W h1 => pd_Start (g := g) (mb := mb) (cb := cb) (q := q) (sb := sb) (rb := rb) (d := d) W h1)
          have RW := Lib.hid (fun W h1 => pr_Start (g := g) (mb := mb) (cb := cb) (q := q) (sb := sb) (rb := rb) (d := d) (c1 := c1) (c2 := c2) (n := n) W h1)
          have O2 := Lib.hid OK.out.start
          have N2 : Hid ((n : Int) = d.start.n) := NN.out
          obtain ⟨d2, hd2⟩ : ∃ d2, d2 = d.start := ⟨_, rfl⟩
          rw [← hd2] at PW RW O2 N2
          clear hd2
          go_wp2_with fail
          refine (PW.out _ D1.out).mono ?_; rintro e y ⟨rfl, hd, hf⟩
          have DN := Lib.hid hd
          have RN := Lib.hid (R1.out.fr LAY.out hf)
          have BN := Lib.hid (LAY.out.frd B1.out hf)
          clear hd hf hcx
          go_wp2_with fail
          refine (RW.out _ RN.out).mono ?_; rintro e y2 ⟨rfl, hd, hf⟩
          have RN := Lib.hid hd
          have DN := Lib.hid (DN.out.fr LAY.out hf)
          have BN := Lib.hid (LAY.out.frr BN.out hf)
          clear hd hf
          go_wp2_with fail
          go_meet
          exact ⟨d2, O2.out, N2.out, DN.out, RN.out, BN.out⟩
        have q5 : (xk == 5) = false := by rw [beq_eq_false_iff_ne]; exact h5
        clear h0 h1 h2 h3 h4 h5
        go_wp2_with fail
        go_meet
        exact ⟨d, OK.out, NN.out, D1.out, R1.out, B1.out⟩
      case rest =>
        obtain ⟨d2, ho, hnn, hd, hr, hb⟩ := hcut
        clear D1 R1 B1 X1 K1 XD XR K0 OK NN hl1 hs1 hwk hwn
        have OK := Lib.hid ho; have NN := Lib.hid hnn; have HD := Lib.hid hd; have HR := Lib.hid hr; have HB := Lib.hid hb
        have hc := rp_two hr
        clear ho hnn hd hr hb
        have DD := Lib.hid (fun W h => pd_Dead (g := g) (mb := mb) (cb := cb) (q := q) (sb := sb) (rb := rb) (d := d2) W h)
        have DI := Lib.hid (fun W h => pd_Dirty (g := g) (mb := mb) (cb := cb) (q := q) (sb := sb) (rb := rb) (d := d2) OK.out W h)
        have RI := Lib.hid (fun W h => pr_Dirty (g := g) (mb := mb) (cb := cb) (q := q) (sb := sb) (rb := rb) (d := d2) (c1 := c1) (c2 := c2) (n := n) OK.out W h)
        have IN : Hid (∀ v u W, SlIl W v d2.dirty → SlIl W u d2.dirty → Calls Tryd.prog 40 #[v, u] W fun e w' => e = .returned (.bool true) ∧ Below W.heap.size W w') := fun v u W h1 h2 => by
          have := keep_Ints v u d2.dirty d2.dirty (dirty_len OK.out.n1) W h1 h2
          rw [decide_eq_true rfl] at this
          exact this
        obtain ⟨D, hD⟩ : ∃ D, D = d2.dead := ⟨_, rfl⟩
        rw [← hD] at DD hc
        have bd := bool_self D
        have SOf : Hid (∀ W, Below wc.heap.size wc W → W.cell? ⟨q, 0, none⟩ = some (.slice (some ⟨sb, 0, none⟩) n c1) ∧ W.cell? ⟨q, 2, none⟩ = some (.bool D)) := fun W h => ⟨dk_cell hc.1 h, dk_cell hc.2 h⟩
        clear hD hc
        by_cases h64 : (n : Int) < 64
        · have hz : decide ((n : Int) < 64) = true := decide_eq_true h64
          clear h64
          go_upto_region 37 with (fail)
          have BN : Hid (Below wc.heap.size wc wc.drew) := ⟨rfl, rfl, rfl, Nat.le_refl _, fun _ _ => rfl⟩
          have DN := Lib.hid (HD.out.below BN.out)
          have RN := Lib.hid (HR.out.below BN.out)
          have S0 := SOf.out _ BN.out
          go_region_held3 (fun w' => w'.cell? ⟨q, 0, none⟩ = some (.slice (some ⟨sb, 0, none⟩) n c1) ∧ w'.cell? ⟨q, 2, none⟩ = some (.bool D)) (first | exact S0 | assumption)
            (first
              | (go_at_call 30; refine (DD.out _ DN.out).mono ?_; rintro e y ⟨rfl, rfl⟩)
              | (go_at_call 28; refine (DI.out _ DN.out).mono ?_; rintro e y ⟨v1, rfl, hv, hb⟩; have V1 := Lib.hid hv; (try (have V2 := Lib.hid (V2.out.below hb))); have BN := Lib.hid (bstep BN.out hb); have DN := Lib.hid (DN.out.below hb); have RN := Lib.hid (RN.out.below hb); have S0 := SOf.out _ BN.out; clear hv hb)
              | (go_at_call 41; refine (RI.out _ RN.out).mono ?_; rintro e y ⟨v2, rfl, hv, hb⟩; have V2 := Lib.hid hv; (try (have V1 := Lib.hid (V1.out.below hb))); have BN := Lib.hid (bstep BN.out hb); have DN := Lib.hid (DN.out.below hb); have RN := Lib.hid (RN.out.below hb); have S0 := SOf.out _ BN.out; clear hv hb)
              | (go_at_call 40; refine (IN.out _ _ _ V1.out V2.out).mono ?_; rintro e y ⟨rfl, hb⟩; have BN := Lib.hid (bstep BN.out hb); have DN := Lib.hid (DN.out.below hb); have RN := Lib.hid (RN.out.below hb); have S0 := SOf.out _ BN.out; clear hb))
          clear S0
          go_wp2_with fail
          go_roundw
          case rel => exact ⟨i + 1, d2, by omega, by go_num, OK.out, NN.out, DN.out, RN.out, bstep HB.out BN.out⟩
          case measure => simp [intOf]; omega
        · have hz : decide ((n : Int) < 64) = false := decide_eq_false h64
          clear h64 IN DI RI
          obtain ⟨hcq0, hcq2⟩ := SOf.out wc (Below.refl _ _)
          have DQ : Hid (∀ k, Calls Tryd.prog 30 #[.pointer (some ⟨g, 0, none⟩)] (wc.drewN k) fun e w' => e = .returned (.bool D) ∧ w' = wc.drewN k) := fun k => (DD.out (wc.drewN k) (HD.out.below (below_dN _ _))).mono fun _ _ h => ⟨h.1, h.2.symm⟩
          clear SOf DD
          go_upto_region 37 with (fail)
          go_quiet ((go_at_call 30; exact Calls.quiet_of_same (DQ.out _)))
          have BN : Hid (Below wc.heap.size wc (wc.drewN nq)) := ⟨rfl, rfl, rfl, Nat.le_refl _, fun _ _ => rfl⟩
          obtain ⟨z, hzz⟩ : ∃ z, z = wc.drewN nq := ⟨_, rfl⟩
          rw [← hzz] at BN ⊢
          clear hzz
          go_wp2_with fail
          go_roundw
          case rel => exact ⟨i + 1, d2, by omega, by go_num, OK.out, NN.out, HD.out.below BN.out, HR.out.below BN.out, bstep HB.out BN.out⟩
          case measure => simp [intOf]; omega
    · have hi : ¬ (i : Int) < (m : Int) := by omega
      have SM := Lib.hid (fun W h1 h2 h3 => p_Same (g := g) (mb := mb) (cb := cb) (q := q) (sb := sb) (rb := rb) (c1 := c1) (c2 := c2) (n := n) (d := d) (aD := aD) (aA := aA) OK.out NN.out W h1 h2 h3)
      go_wp2_with fail
      refine (SM.out _ (HW.out.below HB.out) HD.out HR.out).mono ?_; rintro e y ⟨rfl, hb⟩
      have B2 := Lib.hid (bstep HB.out hb)
      clear hb
      go_wp2_with fail
      refine (WK.out _ (HW.out.below B2.out)).mono ?_; rintro e y ⟨rfl, hby⟩
      have By := Lib.hid (bstep B2.out hby)
      clear hby
      go_wp2_with fail
      go_ret
      exact ⟨rfl, By.out⟩
end Go.Proofs.YtikgfkghfbfccaaDoor
