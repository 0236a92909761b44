/- Heads (layer 20): the law HeadReads. -/
import Derived.Test.YtoebldemcgahnaaGreatDoorJt
import Derived.Test.YtoebldemcgahnaaGreatDoorDo
import Derived.Test.YtoebldemcgahnaaGreatDoorDu
namespace Go.Proofs.YtoebldemcgahnaaGreatDoor
open Go.RowKit
theorem tick_nH (d : Dk) : d.tick.n = d.n := by unfold Dk.tick; split <;> rfl
theorem crash_nH (d : Dk) (l : List (Int × Int)) : (d.crash l).n = d.n := by unfold Dk.crash; split <;> rfl
theorem write_nH (d : Dk) (i : Int) (s : ByteArray) : (d.write i s).1.n = d.n := by
  unfold Dk.write
  split
  · rfl
  · split
    · rfl
    · split
      · show (((d.put i s).tick).crash d.keep).n = _; rw [crash_nH, tick_nH]; rfl
      · show ((d.put i s).tick).n = _; rw [tick_nH]; rfl
theorem putH_n (d : Dk) (x : Hd) : (d.putH x).1.n = d.n := by
  unfold Dk.putH
  split
  · rfl
  · split
    · rfl
    · split
      · rfl
      · exact write_nH _ _ _
theorem putH_Ok {d : Dk} (h : d.Ok) (x : Hd) : (d.putH x).1.Ok := by
  unfold Dk.putH
  split
  · exact h
  · split
    · exact h
    · split
      · exact h
      · exact h.write _ _
theorem sortH_len (l : List Hd) : (sortH l).length = l.length := by
  unfold sortH
  split
  · split <;> rfl
  · rfl
theorem heads_len (d : Dk) : d.heads.1.length ≤ 2 := by
  unfold Dk.heads
  split
  · exact Nat.zero_le _
  · split
    · exact Nat.zero_le _
    · show (sortH _).length ≤ 2
      rw [sortH_len]
      exact acc_len _ _ _ 2
set_option maxRecDepth 100000 in
set_option maxHeartbeats 16000000 in
theorem law20_HeadReads (n : Int) (s0 s1 : ByteArray) (v : Value) (L : List Hd) (a0 a1 a2 aD aA : Addr) (w : World) (_hl : L.length ≤ 9223372036854775807) (ht : ∀ x ∈ L, (0 ≤ x.e ∧ x.e < 4294967296) ∧ (0 ≤ x.f ∧ x.f < 4294967296)) (hv : SlHds w v L) (hw : HwW w a0 a1 a2 aD aA) :
    Calls Tryz.prog 12 #[.int .i64 n, .agg #[.string s0, .string s1], v] w fun e w' => e = .returned (.bool true) ∧ Below w.heap.size w w' := by
  have HW := Lib.hid hw
  have WK := Lib.hid (fun W h => wakes20 a0 a1 a2 aD aA W h)
  have HT := Lib.hid ht
  have HV := Lib.hid hv
  obtain ⟨p, c, rfl⟩ := hv.form
  obtain ⟨w0, hw0⟩ : ∃ w0, w0 = w.alloc (.cells #[.string s0, .string s1] 102) := ⟨_, rfl⟩
  have B0 : Hid (Below w.heap.size w w0) := by show Below _ _ _; rw [hw0]; exact below_a1 _ _
  have X0 : Hid (w0.heap[w.heap.size]? = some (.cells #[.string s0, .string s1] 102 (0, 0))) := by show _ = _; rw [hw0]; exact blk_new _ _
  have z0 : w0.heap.size = w.heap.size + 1 := by rw [hw0]; simp
  have HW0 := Lib.hid hw0
  clear hw ht hv hw0
  by_cases h0 : 2000 < s0.size
  · have q0 : (2000 : Int) < (s0.size : Int) := by omega
    clear h0 z0
    go_enter Tryz.func12, Tryz.ntmps12
    go_upto_region 1 with (fail)
    rw [← HW0.out]
    have hbx := blk_cell X0.out
    go_wp2_with fail
    refine (WK.out _ (HW.out.below B0.out)).mono ?_; rintro e y ⟨rfl, hby⟩
    have By := Lib.hid (bstep B0.out hby)
    clear hby
    go_wp2_with fail
    go_ret
    exact ⟨rfl, By.out⟩
  have q0 : ¬ (2000 : Int) < (s0.size : Int) := by omega
  by_cases h1 : 2000 < s1.size
  · have q1 : (2000 : Int) < (s1.size : Int) := by omega
    clear h0 h1 z0
    go_enter Tryz.func12, Tryz.ntmps12
    go_upto_region 1 with (fail)
    rw [← HW0.out]
    have hbx := blk_cell X0.out
    go_wp2_with fail
    refine (WK.out _ (HW.out.below B0.out)).mono ?_; rintro e y ⟨rfl, hby⟩
    have By := Lib.hid (bstep B0.out hby)
    clear hby
    go_wp2_with fail
    go_ret
    exact ⟨rfl, By.out⟩
  have q1 : ¬ (2000 : Int) < (s1.size : Int) := by omega
  by_cases h2 : 20 < L.length
  · have q2 : (20 : Int) < (L.length : Int) := by omega
    clear h0 h1 h2 z0
    go_enter Tryz.func12, Tryz.ntmps12
    go_upto_region 1 with (fail)
    rw [← HW0.out]
    have hbx := blk_cell X0.out
    go_wp2_with fail
    refine (WK.out _ (HW.out.below B0.out)).mono ?_; rintro e y ⟨rfl, hby⟩
    have By := Lib.hid (bstep B0.out hby)
    clear hby
    go_wp2_with fail
    go_ret
    exact ⟨rfl, By.out⟩
  have q2 : ¬ (20 : Int) < (L.length : Int) := by omega
  by_cases h3 : 400 < n
  · have q3 : (400 : Int) < n := h3
    clear h0 h1 h2 h3 z0
    go_enter Tryz.func12, Tryz.ntmps12
    go_upto_region 1 with (fail)
    rw [← HW0.out]
    have hbx := blk_cell X0.out
    go_wp2_with fail
    refine (WK.out _ (HW.out.below B0.out)).mono ?_; rintro e y ⟨rfl, hby⟩
    have By := Lib.hid (bstep B0.out hby)
    clear hby
    go_wp2_with fail
    go_ret
    exact ⟨rfl, By.out⟩
  have q3 : ¬ (400 : Int) < n := h3
  clear h0 h1 h3
  by_cases hn : n < 1 ∨ 4096 < n
  · have DB := Lib.hid (fun W => disk_New_bad n hn W)
    have RB := Lib.hid (fun W => ref_New_bad n hn W)
    clear hn h2 z0
    go_enter Tryz.func12, Tryz.ntmps12
    go_upto_region 1 with (fail)
    rw [← HW0.out]
    have hbx := blk_cell X0.out
    go_wp2_with fail
    refine (DB.out _).mono ?_; rintro e w1 ⟨rfl, rfl⟩
    go_wp2_with fail
    refine (RB.out _).mono ?_; rintro e w1 ⟨rfl, rfl⟩
    go_wp2_with fail
    refine (head_Read_nil _).mono ?_; rintro e w2 ⟨rfl, hb⟩
    have B2 := Lib.hid (bstep B0.out hb)
    clear hb hbx
    go_wp2_with fail
    refine (head_Write_nil _ _ _ _).mono ?_; rintro e w3 ⟨rfl, hb⟩
    have B3 := Lib.hid (bstep B2.out hb)
    clear hb
    go_wp2_with fail
    refine (WK.out _ (HW.out.below B3.out)).mono ?_; rintro e w4 ⟨rfl, hb⟩
    have B4 := Lib.hid (bstep B3.out hb)
    clear hb
    go_wp2_with fail
    go_ret
    exact ⟨rfl, B4.out⟩
  obtain ⟨n, rfl⟩ : ∃ m : Nat, n = (m : Int) := ⟨n.toNat, by omega⟩
  have hn0 : 1 ≤ n := by omega
  have hn1 : n ≤ 4096 := by omega
  clear hn
  obtain ⟨g, hg⟩ : ∃ g, g = w0.heap.size + 2 := ⟨_, rfl⟩
  obtain ⟨cb, hcb⟩ : ∃ cb, cb = w0.heap.size + 1 := ⟨_, rfl⟩
  obtain ⟨mb, hmb⟩ : ∃ mb, mb = w0.heap.size := ⟨_, rfl⟩
  have NW := Lib.hid (disk_New (n : Int) (by omega) (by omega) w0)
  rw [← hg, ← hcb] at NW
  have NW' : Hid (Calls Tryz.prog 13 #[.int .i64 (n : Int)] w0 fun e w' => e = .returned (.tuple #[.pointer (some ⟨g, 0, none⟩), .int .i64 0]) ∧ DiskAt w' g mb cb 0 (.slice none 0 0) (Dk.new (n : Int)) ∧ Below w0.heap.size w0 w') := by rw [hmb]; exact NW.out
  have RN := Lib.hid (fun W => ref_New n hn0 hn1 W)
  have O0 : Hid (Dk.new (n : Int)).Ok := Dk.Ok.new (by omega) (by omega)
  have N0 : Hid ((n : Int) = (Dk.new (n : Int)).n) := rfl
  have LD : Hid (∀ x, DkS g mb cb x → w.heap.size < x) := by rintro x (h | h | h) <;> omega
  obtain ⟨d0, hd0⟩ : ∃ d, d = Dk.new (n : Int) := ⟨_, rfl⟩
  unfold NewP at RN
  rw [← hd0] at NW' RN O0 N0
  have IN := Lib.hid (fun (v u : Value) (M : List Int) (hM : M.length < 9223372036854775807) W k1 k2 => keep_Ints v u M M hM W k1 k2)
  have SM := Lib.hid (fun v u L h W k1 k2 => law20_same v u L h W k1 k2)
  have q4 : ((0 : Int) != (0 : Int)) = false := by decide
  clear NW hg hcb hmb hd0 z0
  go_enter Tryz.func12, Tryz.ntmps12
  go_upto_region 1 with (fail)
  rw [← HW0.out]
  have hbx := blk_cell X0.out
  go_wp2_with fail
  refine NW'.out.mono ?_; rintro e w1 ⟨rfl, hd, hb⟩
  have D1 : Hid (DiskAt w1 g mb cb 4096 (.slice none 0 0) d0) := ⟨hd.blk, hd.hm.mono (by omega), hd.hc.mono (by omega), hd.hk, hd.n0, hd.n1, hd.gm, hd.gc, hd.mc, hd.kn⟩
  have B1 := Lib.hid (bstep B0.out hb)
  have X1 := Lib.hid (blk_below X0.out hb)
  clear hd hb hbx
  go_wp2_with fail
  refine (RN.out _).mono ?_; rintro e w2 ⟨q, sb, rb, c1, c2, rfl, hq, hsb, hrb, hr, hb⟩
  have B2 := Lib.hid (bstep B1.out hb)
  have X2 := Lib.hid (blk_below X1.out hb)
  have LAY : Hid (Lay w g mb cb q sb rb) := by
    have h1 := B1.out.size
    have := D1.out.lt; have := D1.out.hm.lt; have := D1.out.hc.lt
    refine ⟨?_, fun x hx => Nat.le_of_lt (LD.out x hx), ?_⟩
    · rintro x (h | h | h) (k | k | k) <;> omega
    · rintro x (k | k | k) <;> omega
  have XD : Hid (¬ DkS g mb cb w.heap.size) := fun h => Nat.lt_irrefl _ (LD.out _ h)
  have XR : Hid (¬ RfS q sb rb w.heap.size) := by
    show ¬ _
    have := B1.out.size
    have := blk_lt X1.out
    rintro (k | k | k) <;> omega
  have D2 : Hid (DkP w2 g mb cb q sb rb d0) := ⟨_, D1.out.below hb, fun b off n c e => by cases e⟩
  have R2 : Hid (RfP w2 g mb cb q sb rb c1 c2 n d0) := ⟨_, hr, fun b off n c e => by cases e⟩
  clear hr hb hq hsb hrb D1 B1 X1 NW' RN LD
  go_wp2_with fail
  go_loopw [13] (fun c wr => ∃ (i : Nat) (d : Dk), i ≤ 2 ∧ c = .int .i64 i ∧ d.Ok ∧ (n : Int) = d.n ∧ DkP wr g mb cb q sb rb d ∧ RfP wr g mb cb q sb rb c1 c2 n d ∧ wr.heap[w.heap.size]? = some (.cells #[.string s0, .string s1] 102 (0, 0)) ∧ Below w.heap.size w wr) (fun c _ => 2 - (intOf c).toNat)
  case atStart => exact ⟨0, d0, by omega, rfl, O0.out, N0.out, D2.out, R2.out, X2.out, B2.out⟩
  case round =>
    clear D2 R2 X2 B2 O0 N0
    obtain ⟨i, d, hik, rfl, hO, hN, hD, hR, hX, hB⟩ := hrel
    have HO := Lib.hid hO; have HN := Lib.hid hN; have HD := Lib.hid hD; have HR := Lib.hid hR; have HX := Lib.hid hX; have HBw := Lib.hid hB
    have hbx := blk_cell hX
    clear hO hN hD hR hX hB
    rcases (show i = 0 ∨ i = 1 ∨ i = 2 by omega) with rfl | rfl | rfl
    · clear hik
      go_wp2_with fail
      refine (pd_Write 0 (wf64_of (by omega) (by omega)) s0 HO.out _ (HW.out.below HBw.out).d HD.out).mono ?_; rintro z y1 ⟨rfl, hd, hf⟩
      have HD2 := Lib.hid hd
      have HR2 := Lib.hid (HR.out.fr LAY.out hf)
      have HX2 := Lib.hid (blk_fr HX.out hf XD.out)
      have HB2 := Lib.hid (LAY.out.frd HBw.out hf)
      clear hd hf hbx HD HR HX HBw
      have hbx := blk_cell HX2.out
      go_wp2_with fail
      refine (pr_Write 0 s0 HO.out _ HR2.out).mono ?_; rintro z y2 ⟨rfl, hd, hf⟩
      have HR3 := Lib.hid hd
      have HD3 := Lib.hid (HD2.out.fr LAY.out hf)
      have HX3 := Lib.hid (blk_fr HX2.out hf XR.out)
      have HB3 := Lib.hid (LAY.out.frr HB2.out hf)
      clear hd hf hbx
      go_wp2_with fail
      go_roundw
      case rel => exact ⟨1, _, by omega, by go_num, HO.out.write _ _, HN.out.trans (write_nH _ _ _).symm, HD3.out, HR3.out, HX3.out, HB3.out⟩
      case measure => simp [intOf]
    · clear hik
      go_wp2_with fail
      refine (pd_Write 1 (wf64_of (by omega) (by omega)) s1 HO.out _ (HW.out.below HBw.out).d HD.out).mono ?_; rintro z y1 ⟨rfl, hd, hf⟩
      have HD2 := Lib.hid hd
      have HR2 := Lib.hid (HR.out.fr LAY.out hf)
      have HX2 := Lib.hid (blk_fr HX.out hf XD.out)
      have HB2 := Lib.hid (LAY.out.frd HBw.out hf)
      clear hd hf hbx HD HR HX HBw
      have hbx := blk_cell HX2.out
      go_wp2_with fail
      refine (pr_Write 1 s1 HO.out _ HR2.out).mono ?_; rintro z y2 ⟨rfl, hd, hf⟩
      have HR3 := Lib.hid hd
      have HD3 := Lib.hid (HD2.out.fr LAY.out hf)
      have HX3 := Lib.hid (blk_fr HX2.out hf XR.out)
      have HB3 := Lib.hid (LAY.out.frr HB2.out hf)
      clear hd hf hbx
      go_wp2_with fail
      go_roundw
      case rel => exact ⟨2, _, by omega, by go_num, HO.out.write _ _, HN.out.trans (write_nH _ _ _).symm, HD3.out, HR3.out, HX3.out, HB3.out⟩
      case measure => simp [intOf]
    · clear hik hbx HX
      rw [show ((2 : Nat) : Int) = 2 from rfl]
      go_wp2_with fail
      obtain ⟨m, hm⟩ : ∃ m, m = L.length := ⟨_, rfl⟩
      rw [← hm] at q2 h2 ⊢
      have HM := Lib.hid hm
      clear hm
      go_loopw [14] (fun c wr => ∃ (i : Nat) (d : Dk), i ≤ m + 1 ∧ c = .int .i64 i ∧ d.Ok ∧ (n : Int) = d.n ∧ DkP wr g mb cb q sb rb d ∧ RfP wr g mb cb q sb rb c1 c2 n d ∧ Below w.heap.size w wr) (fun c _ => m + 1 - (intOf c).toNat)
      case atStart => exact ⟨0, d, by omega, rfl, HO.out, HN.out, HD.out, HR.out, HBw.out⟩
      case round =>
        clear HO HN HD HR HBw
        obtain ⟨i, d, hik, rfl, hO, hN, hD, hR, hB⟩ := hrel
        have HO := Lib.hid hO; have HN := Lib.hid hN; have HD := Lib.hid hD; have HR := Lib.hid hR; have HBw := Lib.hid hB
        clear hO hN hD hR hB
        by_cases hle : i ≤ m
        · have hi : (i : Int) ≤ (m : Int) := by omega
          have hi0 : (0 : Int) ≤ (i : Int) := by omega
          have u1 : IntKind.i64.wrap ((i : Int) + 1) = (i : Int) + 1 := IntWalk.i64_in _ (by omega)
          obtain ⟨Q, cq, hQ⟩ : ∃ Q c, d.heads = (Q, c) := ⟨_, _, rfl⟩
          have hQl : Q.length < 9223372036854775807 := by
            have := heads_len d
            rw [hQ] at this; dsimp only at this; omega
          have s2 : (cq != cq) = false := by simp
          have RD := Lib.hid (fun W k1 k2 k3 => pd_headRead (g := g) (mb := mb) (cb := cb) (q := q) (sb := sb) (rb := rb) (d := d) (a0 := a0) (a1 := a1) (a2 := a2) (aD := aD) (aA := aA) W k1 k2 k3)
          have RR := Lib.hid (fun W k1 => pr_headRead (g := g) (mb := mb) (cb := cb) (q := q) (sb := sb) (rb := rb) (c1 := c1) (c2 := c2) (n := n) (d := d) HO.out W k1)
          rw [hQ] at RD RR
          clear hQ
          go_wp2_with fail
          refine (RD.out _ (HW.out.below HBw.out).f (HW.out.below HBw.out).d HD.out).mono ?_; rintro z y1 ⟨v1, rfl, hv1, hb⟩
          have V1 := Lib.hid hv1
          have HD1 := Lib.hid (HD.out.below hb); have HR1 := Lib.hid (HR.out.below hb); have HB1 := Lib.hid (bstep HBw.out hb)
          clear hb hv1 HD HR HBw
          go_wp2_with fail
          refine (RR.out _ HR1.out).mono ?_; rintro z y2 ⟨v2, rfl, hv2, hb⟩
          have V2 := Lib.hid hv2
          have V1 := Lib.hid (V1.out.below hb)
          have HD2 := Lib.hid (HD1.out.below hb); have HR2 := Lib.hid (HR1.out.below hb); have HB2 := Lib.hid (bstep HB1.out hb)
          clear hb hv2 HD1 HR1 HB1
          go_wp2_with fail
          refine (SM.out _ _ Q hQl _ V1.out V2.out).mono ?_; rintro z y3 ⟨rfl, hb⟩
          have HD3 := Lib.hid (HD2.out.below hb); have HR3 := Lib.hid (HR2.out.below hb); have HB3 := Lib.hid (bstep HB2.out hb)
          clear hb V1 V2 HD2 HR2 HB2 RD RR
          by_cases hlt : i < m
          · have hi2 : (i : Int) < (m : Int) := by omega
            have hl : i < L.length := by have := HM.out; omega
            have hx := HT.out L[i] (List.getElem_mem hl)
            obtain ⟨b, off, cap, ev, A⟩ : ∃ b off cap, Value.slice p L.length c = .slice (some ⟨b, off, none⟩) L.length cap ∧ HdsAt w b off L := by
              rcases HV.out with ⟨_, h⟩ | ⟨b, off, cap, ev, _, h⟩
              · rw [h] at hl; exact absurd hl (by simp)
              · exact ⟨b, off, cap, ev, h⟩
            injection ev with ev1 _ ev3
            subst ev1 ev3
            obtain ⟨x, hxe⟩ : ∃ x, x = L[i] := ⟨_, rfl⟩
            have g0 := A.ce i hl
            have g1 := A.cr i hl
            have g2 := A.cf i hl
            rw [← hxe] at hx g0 g1 g2
            have PW := Lib.hid (fun W k1 k2 => pd_headWrite (g := g) (mb := mb) (cb := cb) (q := q) (sb := sb) (rb := rb) (d := d) (a0 := a0) (a1 := a1) (a2 := a2) (aD := aD) (aA := aA) x hx HO.out W k1 k2)
            have RW := Lib.hid (fun W k1 => pr_headWrite (g := g) (mb := mb) (cb := cb) (q := q) (sb := sb) (rb := rb) (c1 := c1) (c2 := c2) (n := n) (d := d) x hx HO.out W k1)
            have O2 : Hid (d.putH x).1.Ok := putH_Ok HO.out x
            have N2 : Hid ((n : Int) = (d.putH x).1.n) := HN.out.trans (putH_n d x).symm
            obtain ⟨d2, c2x, hd2⟩ : ∃ d2 c, d.putH x = (d2, c) := ⟨_, _, rfl⟩
            rw [hd2] at PW RW O2 N2
            dsimp only at O2 N2
            obtain ⟨e, r, f⟩ := x
            unfold Hd.v at PW RW
            dsimp only at PW RW g0 g1 g2
            have s3 : (c2x != c2x) = false := by simp
            have OW := Lib.hid law20_OwnR
            have SOf : Hid (∀ W, Below w.heap.size w W → W.cell? ⟨b, off + i * 3, none⟩ = some (.int .u32 e) ∧ W.cell? ⟨b, off + i * 3 + 1, none⟩ = some (.int .i64 r) ∧ W.cell? ⟨b, off + i * 3 + 2, none⟩ = some (.int .u32 f)) := fun W h => ⟨dk_cell g0 h, dk_cell g1 h, dk_cell g2 h⟩
            clear hx hl hxe A g0 g1 g2 hd2
            go_upto_region 22 with (fail)
            have BN := Lib.hid (bstep HB3.out (show Below y3.heap.size y3 y3.drew from ⟨rfl, rfl, rfl, Nat.le_refl _, fun _ _ => rfl⟩))
            have DN := Lib.hid (HD3.out.below (show Below y3.heap.size y3 y3.drew from ⟨rfl, rfl, rfl, Nat.le_refl _, fun _ _ => rfl⟩))
            have RN := Lib.hid (HR3.out.below (show Below y3.heap.size y3 y3.drew from ⟨rfl, rfl, rfl, Nat.le_refl _, fun _ _ => rfl⟩))
            have S0 := SOf.out _ BN.out
            clear HD3 HR3 HB3
            go_region_held3 (fun w' => w'.cell? ⟨b, off + i * 3, none⟩ = some (.int .u32 e) ∧ w'.cell? ⟨b, off + i * 3 + 1, none⟩ = some (.int .i64 r) ∧ w'.cell? ⟨b, off + i * 3 + 2, none⟩ = some (.int .u32 f)) (first | exact S0 | assumption)
              (first
                | (go_at_call 36; refine (PW.out _ (HW.out.below BN.out) DN.out).mono ?_; rintro z y ⟨rfl, hd, hf⟩; have DN := Lib.hid hd; have RN := Lib.hid (RN.out.fr LAY.out hf); have BN := Lib.hid (LAY.out.frd BN.out hf); have S0 := SOf.out _ BN.out; clear hd hf)
                | (go_at_call 58; refine (RW.out _ RN.out).mono ?_; rintro z y ⟨rfl, hd, hf⟩; have RN := Lib.hid hd; have DN := Lib.hid (DN.out.fr LAY.out hf); have BN := Lib.hid (LAY.out.frr BN.out hf); have S0 := SOf.out _ BN.out; clear hd hf)
                | (go_at_call 33; refine (OW.out _ _ _ _).mono ?_; rintro z y ⟨rfl, hy⟩; have DN := Lib.hid (DN.out.below hy); have RN := Lib.hid (RN.out.below hy); have BN := Lib.hid (bstep BN.out hy); have S0 := SOf.out _ BN.out; clear hy))
            clear S0
            go_wp2_with fail
            go_roundw
            case rel => exact ⟨i + 1, d2, by omega, by go_num, O2.out, N2.out, DN.out, RN.out, BN.out⟩
            case measure => simp [intOf]; omega
          · have hi2 : ¬ (i : Int) < (m : Int) := by omega
            have hi3 : decide ((i : Int) < (m : Int)) = false := decide_eq_false hi2
            go_upto_region 22 with (fail)
            go_quiet (fail)
            have DN := Lib.hid (HD3.out.below (below_dN y3 nq))
            have RN := Lib.hid (HR3.out.below (below_dN y3 nq))
            have BN := Lib.hid (bstep HB3.out (below_dN y3 nq))
            go_wp2_with fail
            go_roundw
            case rel => exact ⟨i + 1, d, by omega, by go_num, HO.out, HN.out, DN.out, RN.out, BN.out⟩
            case measure => simp [intOf]; omega
        · have hi : ¬ (i : Int) ≤ (m : Int) := by omega
          have hdl : d.dirty.length < 9223372036854775807 := by
            have h1 : d.dirty.length ≤ d.n.toNat := by
              unfold Dk.dirty
              refine Nat.le_trans (List.length_filter_le _ _) ?_
              simp
            have := HO.out.n1
            omega
          obtain ⟨J, hJ⟩ : ∃ J, J = d.dirty := ⟨_, rfl⟩
          have PD := Lib.hid (fun W k => pd_Dirty (g := g) (mb := mb) (cb := cb) (q := q) (sb := sb) (rb := rb) (d := d) HO.out W k)
          have PR := Lib.hid (fun W k => pr_Dirty (g := g) (mb := mb) (cb := cb) (q := q) (sb := sb) (rb := rb) (c1 := c1) (c2 := c2) (n := n) (d := d) HO.out W k)
          unfold DirtyP at PD PR
          rw [← hJ] at PD PR hdl
          have dj : decide (J = J) = true := decide_eq_true rfl
          clear hJ
          go_wp2_with fail
          refine (PD.out _ HD.out).mono ?_; rintro z y1 ⟨v1, rfl, hv1, hb⟩
          have V1 := Lib.hid hv1
          have HR1 := Lib.hid (HR.out.below hb); have HB1 := Lib.hid (bstep HBw.out hb)
          clear hb hv1 HD HR HBw PD
          go_wp2_with fail
          refine (PR.out _ HR1.out).mono ?_; rintro z y2 ⟨v2, rfl, hv2, hb⟩
          have V2 := Lib.hid hv2
          have V1 := Lib.hid (V1.out.below hb)
          have HB2 := Lib.hid (bstep HB1.out hb)
          clear hb hv2 HR1 HB1 PR
          go_wp2_with fail
          refine (IN.out _ _ J hdl _ V1.out V2.out).mono ?_; rintro z y3 ⟨rfl, hb⟩
          have HB3 := Lib.hid (bstep HB2.out hb)
          clear hb V1 V2 HB2
          go_wp2_with fail
          refine (WK.out _ (HW.out.below HB3.out)).mono ?_; rintro z y4 ⟨rfl, hb⟩
          have HB4 := Lib.hid (bstep HB3.out hb)
          clear hb
          go_wp2_with fail
          go_ret
          exact ⟨rfl, HB4.out⟩
end Go.Proofs.YtoebldemcgahnaaGreatDoor
