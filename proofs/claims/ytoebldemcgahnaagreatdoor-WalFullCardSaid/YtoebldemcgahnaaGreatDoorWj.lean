/- The log (layer 21): the law WalFull. -/
import Derived.Test.YtoebldemcgahnaaGreatDoorWi
import Derived.Test.YtoebldemcgahnaaGreatDoorDo
import Derived.Test.YtoebldemcgahnaaGreatDoorDa
namespace Go.Proofs.YtoebldemcgahnaaGreatDoor
open Go.RowKit
theorem count_range (a b : Nat) (hab : a ≤ b) : ∀ N, ((List.range N).filter fun i => decide (a ≤ i ∧ i < b)).length = min N b - min N a
  | 0 => by simp
  | N + 1 => by
    rw [List.range_succ, List.filter_append, List.length_append, count_range a b hab N]
    by_cases h : a ≤ N ∧ N < b
    · rw [List.filter_cons_of_pos (by simpa using h)]
      simp; omega
    · rw [List.filter_cons_of_neg (by simpa using h)]
      simp; omega
theorem dirty_count {d : Dk} {u : Nat} (hc : ∀ j, (d.c j).isSome = decide (2 ≤ j ∧ j < 2 + (u : Int))) (hn : 2 + (u : Int) ≤ d.n) : d.dirty.length = u := by
  unfold Dk.dirty
  rw [List.filter_map, List.length_map]
  have e : ((fun i => (d.c i).isSome) ∘ Int.ofNat) = fun i : Nat => decide (2 ≤ i ∧ i < 2 + u) := by
    funext i
    show (d.c (Int.ofNat i)).isSome = _
    rw [hc]
    apply decide_eq_decide.2
    have : Int.ofNat i = (i : Int) := rfl
    rw [this]
    omega
  rw [e, count_range 2 (2 + u) (by omega)]
  omega
/-- Behind so many appendings of one text. -/
structure FullS (N : Int) (lg : Nat) (s : ByteArray) (c : Nat) (d : Dk) : Prop where
  calm : d.Calm N
  ca : ∀ j, (d.c j).isSome = decide (2 ≤ j ∧ j < 2 + ((c * szN s.size : Nat) : Int))
  fit : c * szN s.size ≤ lg
def fullX (s : ByteArray) (c : Nat) : Wl := ⟨List.replicate c s, 1 + (c : Int), c * szN s.size, false⟩
theorem fullS_new {N : Int} {lg : Nat} (s : ByteArray) (h0 : 32 ≤ N) (h1 : N ≤ 4096) : FullS N lg s 0 (Dk.new N) :=
  ⟨calm_new (by omega) h1, fun j => by simp [Dk.new], by simp⟩
theorem fullS_step {N : Int} {lg c : Nat} {s : ByteArray} {d : Dk} (h : FullS N lg s c d) (h0 : 32 ≤ N) (h1 : N ≤ 4096) (hl : (lg : Int) = (N - 2) / 4) (hs : s.size ≤ 2000) (hf : c * szN s.size + szN s.size ≤ lg) :
    ∃ d', d.append (fullX s c) lg s = (d', fullX s (c + 1), 0) ∧ FullS N lg s (c + 1) d' := by
  have hz := sz_pos s.size
  have hcz : c ≤ c * szN s.size := Nat.le_mul_of_pos_right _ hz
  obtain ⟨d', e1, e2, e3, e4, _⟩ := append_calm (x := fullX s c) (lg := lg) (s := s) h.calm h0 h1 hl rfl hs (by show 1 + (c : Int) ≤ _; omega) hf
  refine ⟨d', ?_, e2, fun j => ?_, by rw [Nat.succ_mul]; exact hf⟩
  · rw [e1]
    unfold fullX
    dsimp only
    rw [← List.replicate_succ', Nat.succ_mul]
    congr 3
  · rw [e4]
    have hX : ((fullX s c).used : Int) = ((c * szN s.size : Nat) : Int) := rfl
    rw [hX]
    by_cases q : 2 + ((c * szN s.size : Nat) : Int) ≤ j ∧ j < 2 + ((c * szN s.size : Nat) : Int) + (szN s.size : Int)
    · rw [if_pos q, List.getElem?_eq_getElem (by rw [List.length_map, secsF_length, size_list]; omega)]
      rw [Nat.succ_mul]
      simp; omega
    · rw [if_neg q, h.ca, Nat.succ_mul]
      apply decide_eq_decide.2
      omega
theorem fullS_refuse {lg c : Nat} {s : ByteArray} {d : Dk} (hs : s.size ≤ 2000) (hf : ¬ c * szN s.size + szN s.size ≤ lg) : d.append (fullX s c) lg s = (d, fullX s c, 73) := by
  have hm : (fullX s c).may lg s = 73 := by
    unfold Wl.may
    rw [if_neg (fun h => by cases h), if_neg (by omega), if_pos]
    refine .inl ?_
    rw [sizeF_nat hs]
    show (lg : Int) - ((c * szN s.size : Nat) : Int) < _
    omega
  rw [append_may (by rw [hm]; decide), hm]
set_option maxRecDepth 100000 in
set_option maxHeartbeats 16000000 in
theorem law21_WalFull (k : Int) (s : ByteArray) (k0 : 0 ≤ k) (k1 : k < 256) (sz : s.size ≤ 140737488351232) (a0 a1 a2 aD aA bD bL bF : Addr) (w : World) (hw : WlW w a0 a1 a2 aD aA bD bL bF) :
    Calls Tryz.prog 10 #[.int .u8 k, .string s] w fun e w' => e = .returned (.bool true) ∧ Below w.heap.size w w' := by
  have HW := Lib.hid hw
  have WK := Lib.hid (fun W h => wakes21 a0 a1 a2 aD aA bD bL bF W h)
  clear hw
  obtain ⟨r, hr⟩ : ∃ r, r = k % 60 := ⟨_, rfl⟩
  have j1 : k.tmod 60 = r := by rw [Int.tmod_eq_emod_of_nonneg k0, ← hr]
  have br : 0 ≤ r ∧ r < 60 := by rw [hr]; exact ⟨Int.emod_nonneg _ (by decide), Int.emod_lt_of_pos _ (by decide)⟩
  have i1 : IntKind.i64.wrap k = k := IntWalk.i64_in _ (by omega)
  clear hr
  obtain ⟨N, hN⟩ : ∃ N, N = 32 + r := ⟨_, rfl⟩
  have i2 : IntKind.i64.wrap (32 + r) = N := by rw [← hN]; exact IntWalk.i64_in _ (by omega)
  have i3 : IntKind.i64.wrap (30 + r) = 30 + r := IntWalk.i64_in _ (by omega)
  have i4 : IntKind.i64.wrap r = r := IntWalk.i64_in _ (by omega)
  obtain ⟨lg, hlg⟩ : ∃ lg : Nat, (lg : Int) = (N - 2) / 4 := ⟨((N - 2) / 4).toNat, by omega⟩
  have n0 : 32 ≤ N := by omega
  have n1 : N ≤ 4096 := by omega
  have l1 : lg ≤ 22 := by omega
  have j2 : (30 + r).tdiv 4 = (lg : Int) := by rw [Int.tdiv_eq_ediv_of_nonneg (by omega), hlg, hN]; congr 1; omega
  have i5 : IntKind.i64.wrap (lg : Int) = lg := IntWalk.i64_in _ (by omega)
  have NW := Lib.hid (disk_New N (by omega) (by omega) w)
  obtain ⟨g, hg⟩ : ∃ g, g = w.heap.size + 2 := ⟨_, rfl⟩
  obtain ⟨mb, hmb⟩ : ∃ g, g = w.heap.size := ⟨_, rfl⟩
  obtain ⟨cb, hcb⟩ : ∃ g, g = w.heap.size + 1 := ⟨_, rfl⟩
  have gB : Hid (∀ b, DkS g mb cb b → w.heap.size ≤ b) := by rintro b (h | h | h) <;> omega
  have NW' : Hid (Calls Tryz.prog 13 #[.int .i64 N] w fun e w' => e = .returned (.tuple #[.pointer (some ⟨g, 0, none⟩), .int .i64 0]) ∧ DiskAt w' g mb cb 0 (.slice none 0 0) (Dk.new N) ∧ Below w.heap.size w w') := by rw [hg, hmb, hcb]; exact NW.out
  have C0 : (Dk.new N).Calm N := calm_new (by omega) n1
  have O1 := Lib.hid (fun W k1 k2 => wal_Open 1 (by decide) (by decide) g mb cb (.slice none 0 0) (Dk.new N) lg (logs_of (n := N) (lg := lg) rfl n0 n1 hlg).symm a0 a1 a2 aD aA W k1 k2 C0.ok)
  rw [open_new n0 n1 hlg (by decide) (by decide), show (Dk.new N).n = N from rfl] at O1
  unfold OpenP at O1
  dsimp only at O1
  have F0 : Hid (FullS N lg s 0 (Dk.new N)) := fullS_new s n0 n1
  have X0 : Hid ((⟨[], 1, 0, false⟩ : Wl) = fullX s 0) := by show _ = _; unfold fullX; simp
  obtain ⟨D0, hD0⟩ : ∃ d, d = Dk.new N := ⟨_, rfl⟩
  have OK0 : Hid (D0.Ok ∧ D0.n = N) := by rw [hD0]; exact ⟨C0.ok, rfl⟩
  rw [← hD0] at NW' O1 F0
  have NI : Hid (32 ≤ N ∧ N ≤ 4096 ∧ (lg : Int) = (N - 2) / 4) := ⟨n0, n1, hlg⟩
  clear C0 NW hg hmb hcb hD0 hN n0 n1 hlg br k0 k1
  by_cases c0 : 2000 < s.size
  · have q0 : (2000 : Int) < (s.size : Int) := by omega
    clear c0 sz
    go_enter Tryz.func10, Tryz.ntmps10
    go_wp2_with fail
    refine NW'.out.mono ?_; rintro e w1 ⟨rfl, hd, hb1⟩
    have B1 := Lib.hid hb1
    clear hd hb1
    go_wp2_with fail
    refine (WK.out _ (HW.out.below B1.out)).mono ?_; rintro e w2 ⟨rfl, hb⟩
    have B2 := Lib.hid (bstep B1.out hb)
    clear hb
    go_wp2_with fail
    go_ret
    exact ⟨rfl, B2.out⟩
  have q0 : ¬ (2000 : Int) < (s.size : Int) := by omega
  have HS : Hid (s.size ≤ 2000) := by show _ ≤ _; omega
  obtain ⟨z, hz⟩ : ∃ z, z = szN s.size := ⟨_, rfl⟩
  have SZ := Lib.hid (fun W => ref18_Size (s.size : Int) W)
  rw [sizeF_nat HS.out, ← hz] at SZ
  have z9 : z ≤ 9 := by rw [hz]; exact sz_le HS.out
  have z1 : 1 ≤ z := by rw [hz]; exact sz_pos _
  have HZ := Lib.hid hz
  clear c0 sz hz
  go_enter Tryz.func10, Tryz.ntmps10
  go_wp2_with fail
  refine NW'.out.mono ?_; rintro e w1 ⟨rfl, hd, hb1⟩
  have H1 : Hid (DiskAt w1 g mb cb 4096 (.slice none 0 0) D0) := ⟨hd.blk, hd.hm.mono (by omega), hd.hc.mono (by omega), hd.hk, hd.n0, hd.n1, hd.gm, hd.gc, hd.mc, hd.kn⟩
  have B1 := Lib.hid hb1
  clear hd hb1 NW'
  go_wp2_with fail
  refine (O1.out _ (HW.out.below B1.out).h H1.out).mono ?_; rintro e w2 ⟨hb, p, rv, rfl, hp, hl⟩
  have W2 := Lib.hid (walAt_open B1.out H1.out OK0.out.1 OK0.out.2 NI.out.2.2 NI.out.1 gB.out (fun b off c m e => by cases e) hb hp hl)
  have B2 := Lib.hid (bstep B1.out hb)
  rw [X0.out] at W2
  clear hb hp hl H1 O1 OK0
  go_wp2_with fail
  go_loopw [9, 10] (fun a b wr => ∃ (c i : Nat) (d : Dk) (rv : Value), i ≤ 40 ∧ c ≤ i ∧ a = .int .i64 c ∧ b = .int .i64 i ∧ FullS N lg s c d ∧ WalAt wr w.heap.size p g mb cb (.slice none 0 0) rv N lg (fullX s c) d ∧ Below w.heap.size w wr) (fun _ b _ => 40 - (intOf b).toNat)
  case atStart => exact ⟨0, 0, D0, rv, by omega, by omega, rfl, rfl, F0.out, W2.out, B2.out⟩
  case round =>
    clear W2 B2 F0 X0
    obtain ⟨c, i, d, rv, hi40, hci, rfl, rfl, hF, hWl, hB⟩ := hrel
    have HF := Lib.hid hF; have HWl := Lib.hid hWl; have HB := Lib.hid hB
    clear hF hWl hB
    obtain ⟨u, hu⟩ : ∃ u, u = c * szN s.size := ⟨_, rfl⟩
    have ul : u ≤ lg := by have := HF.out.fit; omega
    have XU : Hid ((fullX s c).used = u) := by show _ = _; rw [hu]; rfl
    have XN : Hid ((fullX s c).next = 1 + (c : Int)) := rfl
    have DL : Hid (d.dirty.length = u) := by show _ = _; rw [hu]; exact dirty_count HF.out.ca (by have h1 := HF.out.fit; have h2 := NI.out; have h3 := HF.out.calm.n; rw [← hu] at h1 ⊢; rw [h3]; omega)
    have LF := Lib.hid (fun W k => wal_Left (B := w.heap.size) (p := p) (g := g) (n := N) (lg := lg) (rv := rv) (x := fullX s c) W k)
    have NX := Lib.hid (fun W k => wal_Next (B := w.heap.size) (p := p) (g := g) (n := N) (lg := lg) (rv := rv) (x := fullX s c) W k)
    rw [XU.out] at LF
    rw [XN.out] at NX
    have DR := Lib.hid (fun W k => disk_Dirty g mb cb (.slice none 0 0) d W k HF.out.calm.ok.ok0)
    unfold DirtyP at DR
    obtain ⟨lv, hlv⟩ : ∃ lv, lv = (lg : Int) - (u : Int) := ⟨_, rfl⟩
    rw [← hlv] at LF
    have uu : ((u : Int) != (u : Int)) = false := by simp
    obtain ⟨nx, hnx⟩ : ∃ nx, nx = 1 + (c : Int) := ⟨_, rfl⟩
    rw [← hnx] at NX
    have nn : (nx != nx) = false := by simp
    have HU := Lib.hid hu
    by_cases hi : i < 40
    · have hii : (i : Int) < 40 := by omega
      have hi0 : (0 : Int) ≤ (i : Int) := by omega
      have v1 : IntKind.i64.wrap ((i : Int) + 1) = (i : Int) + 1 := IntWalk.i64_in _ (by omega)
      have v2 : IntKind.i64.wrap ((c : Int) + 1) = (c : Int) + 1 := IntWalk.i64_in _ (by omega)
      by_cases hf : u + z ≤ lg
      · have q1 : (z : Int) ≤ lv := by omega
        obtain ⟨d', e1, F1⟩ := fullS_step HF.out NI.out.1 NI.out.2.1 NI.out.2.2 HS.out (by rw [← HU.out, ← HZ.out]; exact hf)
        have AP := Lib.hid (fun W k1 k2 => wal_Append (p := p) (g := g) (mb := mb) (cb := cb) (kv := .slice none 0 0) (rv := rv) (n := N) (lg := lg) (x := fullX s c) (d := d) s a0 a1 a2 aD aA bD bL bF w W HW.out k1 k2)
        rw [e1] at AP
        unfold AppP at AP
        dsimp only at AP
        have HF1 := Lib.hid F1
        have XU2 : Hid ((fullX s (c + 1)).used = u + z) := by show _ = _; rw [hu, HZ.out]; show (c + 1) * szN s.size = _; rw [Nat.succ_mul]
        have XN2 : Hid ((fullX s (c + 1)).next = 1 + ((c + 1 : Nat) : Int)) := rfl
        have DL2 : Hid (d'.dirty.length = u + z) := by
          show _ = _
          have e : (c + 1) * szN s.size = u + z := by rw [hu, HZ.out, Nat.succ_mul]
          rw [← e]; exact dirty_count HF1.out.ca (by have h1 := HF1.out.fit; have h2 := NI.out; have h3 := HF1.out.calm.n; rw [e] at h1 ⊢; rw [h3]; omega)
        have LF2 := Lib.hid (fun rv W k => wal_Left (B := w.heap.size) (p := p) (g := g) (n := N) (lg := lg) (rv := rv) (x := fullX s (c + 1)) W k)
        have NX2 := Lib.hid (fun rv W k => wal_Next (B := w.heap.size) (p := p) (g := g) (n := N) (lg := lg) (rv := rv) (x := fullX s (c + 1)) W k)
        rw [XU2.out] at LF2
        rw [XN2.out] at NX2
        have DR2 := Lib.hid (fun W k => disk_Dirty g mb cb (.slice none 0 0) d' W k HF1.out.calm.ok.ok0)
        unfold DirtyP at DR2
        obtain ⟨lw, hlw⟩ : ∃ lw, lw = (lg : Int) - ((u + z : Nat) : Int) := ⟨_, rfl⟩
        rw [← hlw] at LF2
        obtain ⟨ny, hny⟩ : ∃ ny, ny = 1 + ((c + 1 : Nat) : Int) := ⟨_, rfl⟩
        rw [← hny] at NX2
        have f1 : IntKind.i64.wrap (lv - (z : Int)) = lw := by rw [show lv - (z : Int) = lw by omega]; exact IntWalk.i64_in _ (by omega)
        obtain ⟨u2, hu2⟩ : ∃ u2, u2 = u + z := ⟨_, rfl⟩
        have f2 : IntKind.i64.wrap ((u : Int) + (z : Int)) = (u2 : Int) := by rw [show (u : Int) + (z : Int) = (u2 : Int) by omega]; exact IntWalk.i64_in _ (by omega)
        have f3 : IntKind.u32.wrap (nx + 1) = ny := by rw [IntKind.wrap_u32]; omega
        have g1 : (lw != lw) = false := by simp
        have g2 : ((u2 : Int) != (u2 : Int)) = false := by simp
        have g3 : (ny != ny) = false := by simp
        rw [← hu2] at DL2
        clear e1 F1 hlw hny hlv hnx hu hu2
        go_wp2_with fail
        refine (LF.out _ HWl.out.log).mono ?_; rintro e w3 ⟨rfl, kk, hkk⟩
        have B3 : Hid (Below wr.heap.size wr w3) := by show Below _ _ _; rw [hkk]; exact below_dN _ _
        have W3 := Lib.hid (HWl.out.below B3.out)
        have P3 := Lib.hid (bstep HB.out B3.out)
        clear hkk B3 HWl HB
        go_wp2_with fail
        refine (DR.out _ W3.out.dsk).mono ?_; rintro e w4 ⟨v4, rfl, hv4, hb⟩
        have W4 := Lib.hid (W3.out.below hb)
        have P4 := Lib.hid (bstep P3.out hb)
        obtain ⟨pv4, cv4, rfl, _⟩ := hv4.form
        rw [DL.out]
        clear hb hv4 W3 P3
        go_wp2_with fail
        refine (NX.out _ W4.out.log).mono ?_; rintro e w5 ⟨rfl, rfl⟩
        go_wp2_with fail
        refine (AP.out _ P4.out W4.out).mono ?_; rintro e w6 ⟨rv6, rfl, hw6, hf6, _⟩
        have W6 := Lib.hid hw6
        have P6 := Lib.hid (W4.out.bel P4.out rfl hf6)
        clear hw6 hf6 W4 P4
        go_wp2_with fail
        refine (SZ.out _).mono ?_; rintro e w7 ⟨rfl, rfl⟩
        go_wp2_with fail
        refine (LF2.out rv6 _ W6.out.log).mono ?_; rintro e w8 ⟨rfl, kk, hkk⟩
        have B8 : Hid (Below w6.heap.size w6 w8) := by show Below _ _ _; rw [hkk]; exact below_dN _ _
        have W8 := Lib.hid (W6.out.below B8.out)
        have P8 := Lib.hid (bstep P6.out B8.out)
        clear hkk B8 W6 P6
        go_wp2_with fail
        refine (DR2.out _ W8.out.dsk).mono ?_; rintro e w9 ⟨v9, rfl, hv9, hb⟩
        have W9 := Lib.hid (W8.out.below hb)
        have P9 := Lib.hid (bstep P8.out hb)
        obtain ⟨pv9, cv9, rfl, _⟩ := hv9.form
        rw [DL2.out]
        clear hb hv9 W8 P8
        go_wp2_with fail
        refine (NX2.out rv6 _ W9.out.log).mono ?_; rintro e w10 ⟨rfl, rfl⟩
        go_wp2_with fail
        go_roundw
        case rel => exact ⟨c + 1, i + 1, d', rv6, by omega, by omega, by go_num, by go_num, HF1.out, W9.out, P9.out⟩
        case measure => simp [intOf]; omega
      · have q1 : ¬ (z : Int) ≤ lv := by omega
        have q2 : decide ((z : Int) ≤ lv) = false := decide_eq_false q1
        have e1 := fullS_refuse (lg := lg) (c := c) (d := d) HS.out (by rw [← HU.out, ← HZ.out]; exact hf)
        have AP := Lib.hid (fun W k1 k2 => wal_Append (p := p) (g := g) (mb := mb) (cb := cb) (kv := .slice none 0 0) (rv := rv) (n := N) (lg := lg) (x := fullX s c) (d := d) s a0 a1 a2 aD aA bD bL bF w W HW.out k1 k2)
        rw [e1] at AP
        unfold AppP at AP
        dsimp only at AP
        have NX2 := Lib.hid (fun rv W k => wal_Next (B := w.heap.size) (p := p) (g := g) (n := N) (lg := lg) (rv := rv) (x := fullX s c) W k)
        rw [XN.out, ← hnx] at NX2
        clear e1 hlv hnx hu
        go_wp2_with fail
        refine (LF.out _ HWl.out.log).mono ?_; rintro e w3 ⟨rfl, kk, hkk⟩
        have B3 : Hid (Below wr.heap.size wr w3) := by show Below _ _ _; rw [hkk]; exact below_dN _ _
        have W3 := Lib.hid (HWl.out.below B3.out)
        have P3 := Lib.hid (bstep HB.out B3.out)
        clear hkk B3 HWl HB
        go_wp2_with fail
        refine (DR.out _ W3.out.dsk).mono ?_; rintro e w4 ⟨v4, rfl, hv4, hb⟩
        have W4 := Lib.hid (W3.out.below hb)
        have P4 := Lib.hid (bstep P3.out hb)
        obtain ⟨pv4, cv4, rfl, _⟩ := hv4.form
        rw [DL.out]
        clear hb hv4 W3 P3
        go_wp2_with fail
        refine (NX.out _ W4.out.log).mono ?_; rintro e w5 ⟨rfl, rfl⟩
        go_wp2_with fail
        refine (AP.out _ P4.out W4.out).mono ?_; rintro e w6 ⟨rv6, rfl, hw6, hf6, _⟩
        have W6 := Lib.hid hw6
        have P6 := Lib.hid (W4.out.bel P4.out rfl hf6)
        clear hw6 hf6 W4 P4
        go_wp2_with fail
        refine (SZ.out _).mono ?_; rintro e w7 ⟨rfl, rfl⟩
        go_wp2_with fail
        refine (DR.out _ W6.out.dsk).mono ?_; rintro e w9 ⟨v9, rfl, hv9, hb⟩
        have W9 := Lib.hid (W6.out.below hb)
        have P9 := Lib.hid (bstep P6.out hb)
        obtain ⟨pv9, cv9, rfl, _⟩ := hv9.form
        rw [DL.out]
        clear hb hv9 W6 P6
        go_wp2_with fail
        refine (NX2.out rv6 _ W9.out.log).mono ?_; rintro e w10 ⟨rfl, rfl⟩
        go_wp2_with fail
        go_roundw
        case rel => exact ⟨c, i + 1, d, rv6, by omega, by omega, rfl, by go_num, HF.out, W9.out, P9.out⟩
        case measure => simp [intOf]; omega
    · have hii : ¬ (i : Int) < 40 := by omega
      have EM := Lib.hid (fun W k => wal_Empty (B := w.heap.size) (p := p) (g := g) (n := N) (lg := lg) (rv := rv) (x := fullX s c) W k)
      rw [XN.out, ← hnx] at EM
      have RC := Lib.hid (fun W k => wal_Records (B := w.heap.size) (p := p) (g := g) (n := N) (lg := lg) (rv := .slice none 0 0) (x := ⟨[], nx, 0, (fullX s c).dead⟩) W k)
      have LF2 := Lib.hid (fun W k => wal_Left (B := w.heap.size) (p := p) (g := g) (n := N) (lg := lg) (rv := .slice none 0 0) (x := ⟨[], nx, 0, (fullX s c).dead⟩) W k)
      have NX2 := Lib.hid (fun W k => wal_Next (B := w.heap.size) (p := p) (g := g) (n := N) (lg := lg) (rv := .slice none 0 0) (x := ⟨[], nx, 0, (fullX s c).dead⟩) W k)
      dsimp only at RC LF2 NX2
      rw [show (lg : Int) - ((0 : Nat) : Int) = (lg : Int) by omega] at LF2
      have f1 : IntKind.i64.wrap (1 + (c : Int)) = nx := by rw [← hnx]; exact IntWalk.i64_in _ (by omega)
      have f2 : IntKind.u32.wrap nx = nx := by rw [IntKind.wrap_u32]; omega
      have g1 : ((lg : Int) == (lg : Int)) = true := by simp
      have g2 : (nx == nx) = true := by simp
      clear hlv hnx hu
      go_wp2_with fail
      refine (EM.out _ HWl.out.log).mono ?_; rintro e w3 ⟨rfl, hl, hf⟩
      have L3 := Lib.hid hl
      have P3 : Hid (Below w.heap.size w w3) := HWl.out.bel HB.out rfl (hf.mono (fun _ h => .inr (.inl h)))
      clear hl hf
      go_wp2_with fail
      refine (RC.out _ L3.out).mono ?_; rintro e w4 ⟨v4, rfl, hv4, hb⟩
      have L4 := Lib.hid (L3.out.below hb)
      have P4 := Lib.hid (bstep P3.out hb)
      obtain ⟨pv4, cv4, rfl, _⟩ := hv4.form
      clear hb hv4 L3 P3
      go_wp2_with fail
      refine (LF2.out _ L4.out).mono ?_; rintro e w5 ⟨rfl, kk, hkk⟩
      have B5 : Hid (Below w4.heap.size w4 w5) := by show Below _ _ _; rw [hkk]; exact below_dN _ _
      have L5 := Lib.hid (L4.out.below B5.out)
      have P5 := Lib.hid (bstep P4.out B5.out)
      clear hkk B5 L4 P4
      go_wp2_with fail
      refine (NX2.out _ L5.out).mono ?_; rintro e w6 ⟨rfl, rfl⟩
      go_wp2_with fail
      refine (WK.out _ (HW.out.below P5.out)).mono ?_; rintro e w7 ⟨rfl, hb⟩
      have P7 := Lib.hid (bstep P5.out hb)
      clear hb
      go_wp2_with fail
      go_ret
      exact ⟨rfl, P7.out⟩
end Go.Proofs.YtoebldemcgahnaaGreatDoor
