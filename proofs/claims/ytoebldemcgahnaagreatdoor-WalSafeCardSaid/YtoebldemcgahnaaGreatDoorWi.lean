/- The log (layer 21): wakes. -/
import Derived.Test.YtoebldemcgahnaaGreatDoorWg
import Derived.Test.YtoebldemcgahnaaGreatDoorDa
import Derived.Test.YtoebldemcgahnaaGreatDoorDl
import Derived.Test.YtoebldemcgahnaaGreatDoorDq
namespace Go.Proofs.YtoebldemcgahnaaGreatDoor
open Go.RowKit
/-- What an opening hands back, beside its disk. -/
theorem walAt_open {w0 w w' : World} {p g mb cb : Nat} {kv rv : Value} {n : Int} {lg : Nat} {x : Wl} {d : Dk} (hb : Below w0.heap.size w0 w) (hd : DiskAt w g mb cb 4096 kv d) (ok : d.Ok) (hn : d.n = n) (nl : (lg : Int) = (n - 2) / 4) (n32 : 32 ≤ n) (gB : ∀ b, DkS g mb cb b → w0.heap.size ≤ b) (kB : ∀ b off c m, kv = .slice (some ⟨b, off, none⟩) m c → b < w0.heap.size) (hbel : Below w.heap.size w w') (hp : w.heap.size ≤ p) (hl : LogAt w' w.heap.size p g n lg rv x) : WalAt w' w0.heap.size p g mb cb kv rv n lg x d := by
  have hg := hd.lt
  have hm := hd.hm.lt
  have hc := hd.hc.lt
  refine ⟨hl.base hb.size, hd.below hbel, ok, hn, nl, n32, Nat.le_trans hb.size hp, ?_, gB, fun b hb2 => ?_, kB⟩
  · rintro (e | e | e) <;> omega
  · have := (hl.row.lt b hb2).1
    rintro (e | e | e) <;> omega
theorem slStrs_one {w : World} {s : ByteArray} {G : Nat} {t : TypeId} (h : w.heap[G]? = some (.cells #[.string s] t (0, 0))) : SlStrs w (.slice (some ⟨G, 0, none⟩) 1 1) [s] := by
  refine .inr ⟨G, 0, 1, rfl, Nat.le_refl _, ⟨fun _ => blk_lt h, fun i hi => ?_⟩⟩
  have h0 : i = 0 := by simpa using hi
  subst h0
  rw [blk_cell h]; rfl
set_option maxRecDepth 20000 in
set_option maxHeartbeats 8000000 in
theorem wakes21 (a0 a1 a2 aD aA bD bL bF : Addr) (w : World) (hw : WlW w a0 a1 a2 aD aA bD bL bF) :
    Calls Tryz.prog 15 #[] w fun e w' => e = .returned (.bool true) ∧ Below w.heap.size w w' := by
  have HW := Lib.hid hw
  clear hw
  obtain ⟨d1, d3, C0, C1, C3, o1, p1, s1, p2, o2⟩ := wakes21_words
  have n0 : (Dk.new 64).n = 64 := rfl
  have NW := Lib.hid (disk_New 64 (by decide) (by decide) w)
  obtain ⟨g, hg⟩ : ∃ g, g = w.heap.size + 2 := ⟨_, rfl⟩
  obtain ⟨mb, hmb⟩ : ∃ g, g = w.heap.size := ⟨_, rfl⟩
  obtain ⟨cb, hcb⟩ : ∃ g, g = w.heap.size + 1 := ⟨_, rfl⟩
  have gB : Hid (∀ b, DkS g mb cb b → w.heap.size ≤ b) := by rintro b (h | h | h) <;> omega
  have NW' : Hid (Calls Tryz.prog 13 #[.int .i64 64] w fun e w' => e = .returned (.tuple #[.pointer (some ⟨g, 0, none⟩), .int .i64 0]) ∧ DiskAt w' g mb cb 0 (.slice none 0 0) (Dk.new 64) ∧ Below w.heap.size w w') := by rw [hg, hmb, hcb]; exact NW.out
  have O1 := Lib.hid (fun W k1 k2 => wal_Open 5 (by decide) (by decide) g mb cb (.slice none 0 0) (Dk.new 64) 15 (logs_of (n := 64) (lg := 15) rfl (by decide) (by decide) (by decide)).symm a0 a1 a2 aD aA W k1 k2 C0.ok)
  rw [o1] at O1
  unfold OpenP at O1
  dsimp only at O1
  have A1 := Lib.hid (fun p rv W k1 k2 => wal_Append (p := p) (g := g) (mb := mb) (cb := cb) (kv := .slice none 0 0) (rv := rv) (n := 64) (lg := 15) (x := ⟨[], 5, 0, false⟩) (d := Dk.new 64) wsA a0 a1 a2 aD aA bD bL bF w W HW.out k1 k2)
  rw [p1] at A1
  unfold AppP at A1
  dsimp only at A1
  have S1 := Lib.hid (fun p rv W k1 k2 => wal_Sync (B := w.heap.size) (p := p) (g := g) (mb := mb) (cb := cb) (kv := .slice none 0 0) (rv := rv) (n := 64) (lg := 15) (x := ⟨[wsA], 6, 1, false⟩) (d := d1) aD aA W k1 k2)
  rw [s1] at S1
  dsimp only at S1
  have A2 := Lib.hid (fun p rv W k1 k2 => wal_Append (p := p) (g := g) (mb := mb) (cb := cb) (kv := .slice none 0 0) (rv := rv) (n := 64) (lg := 15) (x := ⟨[wsA], 6, 1, false⟩) (d := d1.pour) wsB a0 a1 a2 aD aA bD bL bF w W HW.out k1 k2)
  rw [p2] at A2
  unfold AppP at A2
  dsimp only at A2
  have CK := Lib.hid (fun W h1 h2 h3 => disk_Crash (.slice none 0 0) [] (by decide) g mb cb (.slice none 0 0) d3 W h1 C3.ok.ok0 h2 h3)
  have ST := Lib.hid (fun W h1 => disk_Start g mb cb 4096 (.slice none 0 0) (d3.crash []) W h1)
  have C4 := calm_crashed C3 []
  have n4 : (d3.crash []).start.n = 64 := C4.n
  have O2 := Lib.hid (fun W k1 k2 => wal_Open 5 (by decide) (by decide) g mb cb (.slice none 0 0) (d3.crash []).start 15 (logs_of (n := 64) (lg := 15) C4.n (by decide) (by decide) (by decide)).symm a0 a1 a2 aD aA W k1 k2 C4.ok)
  rw [o2, n4] at O2
  rw [n0] at O1
  unfold OpenP at O2
  dsimp only at O2
  have RC := Lib.hid (fun p rv W k => wal_Records (B := w.heap.size) (p := p) (g := g) (n := 64) (lg := 15) (rv := rv) (x := ⟨[wsA], 6, 1, false⟩) W k)
  have NX := Lib.hid (fun p rv W k => wal_Next (B := w.heap.size) (p := p) (g := g) (n := 64) (lg := 15) (rv := rv) (x := ⟨[wsA], 6, 1, false⟩) W k)
  have LF := Lib.hid (fun p rv W k => wal_Left (B := w.heap.size) (p := p) (g := g) (n := 64) (lg := 15) (rv := rv) (x := ⟨[wsA], 6, 1, false⟩) W k)
  dsimp only at RC NX LF
  have TX := Lib.hid (fun v u W k1 k2 => keep_Texts v u [wsA] [wsA] (by decide) W k1 k2)
  have dt : decide ([wsA] = [wsA]) = true := decide_eq_true rfl
  rw [dt] at TX
  obtain ⟨D0, hD0⟩ : ∃ d, d = Dk.new 64 := ⟨_, rfl⟩
  obtain ⟨D2, hD2⟩ : ∃ d, d = d1.pour := ⟨_, rfl⟩
  obtain ⟨D4, hD4⟩ : ∃ d, d = d3.crash [] := ⟨_, rfl⟩
  obtain ⟨D5, hD5⟩ : ∃ d, d = D4.start := ⟨_, rfl⟩
  have OK0 : Hid (D0.Ok ∧ D0.n = 64) := by rw [hD0]; exact ⟨C0.ok, rfl⟩
  have OK5 : Hid (D5.Ok ∧ D5.n = 64) := by rw [hD5, hD4]; exact ⟨C4.ok, C4.n⟩
  rw [← hD0] at NW' O1 A1
  rw [← hD2] at S1 A2
  rw [← hD4] at CK ST O2
  rw [← hD5] at ST O2
  unfold wsA at A1 A2 S1 RC NX LF O2 TX
  unfold wsB at A2
  clear C0 C1 C3 C4 o1 p1 s1 p2 o2 n0 n4 hg hmb hcb hD0 hD2 hD4 hD5 NW dt
  go_enter Tryz.func15, Tryz.ntmps15
  go_wp2_with fail
  refine NW'.out.mono ?_; rintro e w1 ⟨rfl, hd, hb1⟩
  have H1 : Hid (DiskAt w1 g mb cb 4096 (.slice none 0 0) D0) := ⟨hd.blk, hd.hm.mono (by omega), hd.hc.mono (by omega), hd.hk, hd.n0, hd.n1, hd.gm, hd.gc, hd.mc, hd.kn⟩
  have B1 := Lib.hid hb1
  clear hd hb1 NW'
  go_wp2_with fail
  refine (O1.out _ (HW.out.below B1.out).h H1.out).mono ?_; rintro e w2 ⟨hb, p, rv, rfl, hp, hl⟩
  have W2 := Lib.hid (walAt_open B1.out H1.out OK0.out.1 OK0.out.2 (by decide) (by decide) gB.out (fun b off c m e => by cases e) hb hp hl)
  have B2 := Lib.hid (bstep B1.out hb)
  clear hb hp hl H1
  go_wp2_with fail
  refine (A1.out p rv _ B2.out W2.out).mono ?_; rintro e w3 ⟨rv3, rfl, hw3, hf, _⟩
  have W3 := Lib.hid hw3
  have B3 := Lib.hid (W2.out.bel B2.out rfl hf)
  clear hw3 hf W2
  go_wp2_with fail
  refine (S1.out p rv3 _ (HW.out.below B3.out).h.d W3.out).mono ?_; rintro e w4 ⟨rfl, hw4, hf⟩
  have W4 := Lib.hid hw4
  have B4 := Lib.hid (W3.out.bel B3.out rfl hf)
  clear hw4 hf W3
  go_wp2_with fail
  refine (A2.out p rv3 _ B4.out W4.out).mono ?_; rintro e w5 ⟨rv5, rfl, hw5, hf, _⟩
  have W5 := Lib.hid hw5
  have B5 := Lib.hid (W4.out.bel B4.out rfl hf)
  clear hw5 hf W4
  go_wp2_with fail
  refine (CK.out _ W5.out.dsk (.inl ⟨rfl, _, _, rfl⟩) (fun b off n c e => by cases e)).mono ?_; rintro e w6 ⟨rfl, hd, hf⟩
  have H6 := Lib.hid hd
  have B6 := Lib.hid (frb B5.out hf (gB.out _ (.inl rfl)) (gB.out _ (.inr (.inl rfl))) (gB.out _ (.inr (.inr rfl))))
  clear hd hf W5
  go_wp2_with fail
  refine (ST.out _ H6.out).mono ?_; rintro e w7 ⟨rfl, hd, hf⟩
  have H7 := Lib.hid hd
  have B7 := Lib.hid (frb B6.out (hf.mono (T := DkS g mb cb) (fun _ h => .inl h)) (gB.out _ (.inl rfl)) (gB.out _ (.inr (.inl rfl))) (gB.out _ (.inr (.inr rfl))))
  clear hd hf H6
  go_wp2_with fail
  refine (O2.out _ (HW.out.below B7.out).h H7.out).mono ?_; rintro e w8 ⟨hb, p8, rv8, rfl, hp, hl⟩
  have W8 := Lib.hid (walAt_open B7.out H7.out OK5.out.1 OK5.out.2 (by decide) (by decide) gB.out (fun b off c m e => by cases e) hb hp hl)
  have B8 := Lib.hid (bstep B7.out hb)
  clear hb hp hl H7
  go_wp2_with fail
  refine (RC.out p8 rv8 _ W8.out.log).mono ?_; rintro e w9 ⟨v, rfl, hv, hb⟩
  have V9 := Lib.hid hv
  have W9 := Lib.hid (W8.out.below hb)
  have B9 := Lib.hid (bstep B8.out hb)
  clear hb hv W8
  go_wp2_with fail
  refine (TX.out _ _ _ (V9.out.below (below_a1 _ _)) (slStrs_one (blk_new _ _))).mono ?_; rintro e w10 ⟨rfl, hb⟩
  have W10 := Lib.hid ((W9.out.below (below_a1 _ _)).below hb)
  have B10 := Lib.hid (bstep (bstep B9.out (below_a1 _ _)) hb)
  clear hb V9 W9
  go_wp2_with fail
  refine (NX.out p8 rv8 _ W10.out.log).mono ?_; rintro e w11 ⟨rfl, rfl⟩
  go_wp2_with fail
  refine (LF.out p8 rv8 _ W10.out.log).mono ?_; rintro e w12 ⟨rfl, k, rfl⟩
  have B12 := Lib.hid (bstep B10.out (below_dN _ k))
  go_wp2_with fail
  go_ret
  exact ⟨rfl, B12.out⟩
end Go.Proofs.YtoebldemcgahnaaGreatDoor

/- The log (layer 21): nil logs; the law WalNone. -/
namespace Go.Proofs.YtoebldemcgahnaaGreatDoor
open Go.RowKit
theorem nil_Empty (w : World) : Calls Tryz.prog 26 #[.pointer none] w fun e w' => e = .returned (.tuple #[]) ∧ w = w' := by
  go_enter Tryz.func26, Tryz.ntmps26
  go_wp2_with fail
  refine bodyPost_end (v := .tuple #[]) (by simp [results, Tryz.results26, go_sem]) rfl ?_
  exact ⟨rfl, rfl⟩
theorem nil_Records (w : World) : Calls Tryz.prog 21 #[.pointer none] w fun e w' => e = .returned (.slice none 0 0) ∧ w = w' := by
  go_enter Tryz.func21, Tryz.ntmps21
  go_wp2_with fail
  go_ret
  exact ⟨rfl, rfl⟩
set_option maxRecDepth 20000 in
theorem nil_Append (s : ByteArray) (w : World) : Calls Tryz.prog 16 #[.pointer none, .string s] w fun e w' => e = .returned (.int .i64 1) ∧ w = w' := by
  go_enter Tryz.func16, Tryz.ntmps16
  go_wp2_with fail
  go_ret
  exact ⟨rfl, rfl⟩
theorem nil_Sync (w : World) : Calls Tryz.prog 17 #[.pointer none] w fun e w' => e = .returned (.int .i64 1) ∧ w = w' := by
  go_enter Tryz.func17, Tryz.ntmps17
  go_wp2_with fail
  go_ret
  exact ⟨rfl, rfl⟩
theorem nil_Next (w : World) : Calls Tryz.prog 18 #[.pointer none] w fun e w' => e = .returned (.int .u32 0) ∧ w = w' := by
  go_enter Tryz.func18, Tryz.ntmps18
  go_wp2_with fail
  go_ret
  exact ⟨rfl, rfl⟩
theorem nil_Left (w : World) : Calls Tryz.prog 27 #[.pointer none] w fun e w' => e = .returned (.int .i64 0) ∧ w = w' := by
  go_enter Tryz.func27, Tryz.ntmps27
  go_wp2_with fail
  go_ret
  exact ⟨rfl, rfl⟩
set_option maxRecDepth 20000 in
set_option maxHeartbeats 8000000 in
theorem law21_WalNone (s : ByteArray) (sz : s.size ≤ 140737488351232) (a0 a1 a2 aD aA bD bL bF : Addr) (w : World) (hw : WlW w a0 a1 a2 aD aA bD bL bF) :
    Calls Tryz.prog 6 #[.string s] w fun e w' => e = .returned (.bool true) ∧ Below w.heap.size w w' := by
  have HW := Lib.hid hw
  have WK := Lib.hid (fun W h => wakes21 a0 a1 a2 aD aA bD bL bF W h)
  clear hw
  by_cases c0 : 5000 < s.size
  · have q0 : (5000 : Int) < (s.size : Int) := by omega
    clear c0 sz
    go_enter Tryz.func6, Tryz.ntmps6
    go_wp2_with fail
    refine (WK.out _ HW.out).mono ?_; rintro e w1 ⟨rfl, hb⟩
    have B1 := Lib.hid hb
    clear hb
    go_wp2_with fail
    go_ret
    exact ⟨rfl, B1.out⟩
  have q0 : ¬ (5000 : Int) < (s.size : Int) := by omega
  have NW := Lib.hid (disk_New 31 (by decide) (by decide) w)
  have OK : (Dk.new 31).Ok := Dk.Ok.new (by decide) (by decide)
  have O1 := Lib.hid (fun g mb cb W k1 k2 => wal_Open 5 (by decide) (by decide) g mb cb (.slice none 0 0) (Dk.new 31) (Dk.new 31).logs rfl a0 a1 a2 aD aA W k1 k2 OK)
  have o1 : (Dk.new 31).openW 5 = (none, 75) := by
    have e : (layN (Dk.new 31).n) = ((0, 0, 0, 0), 75) := rfl
    unfold Dk.openW; rw [if_neg (by decide), if_pos (by rw [e]; decide), e]
  rw [o1] at O1
  unfold OpenP at O1
  dsimp only at O1
  obtain ⟨D0, hD0⟩ : ∃ d, d = Dk.new 31 := ⟨_, rfl⟩
  rw [← hD0] at NW O1
  clear o1 OK hD0 c0 sz
  go_enter Tryz.func6, Tryz.ntmps6
  go_wp2_with fail
  refine NW.out.mono ?_; rintro e w1 ⟨rfl, hd, hb1⟩
  have H1 : Hid (DiskAt w1 (w.heap.size + 2) w.heap.size (w.heap.size + 1) 4096 (.slice none 0 0) D0) := ⟨hd.blk, hd.hm.mono (by omega), hd.hc.mono (by omega), hd.hk, hd.n0, hd.n1, hd.gm, hd.gc, hd.mc, hd.kn⟩
  have B1 := Lib.hid hb1
  clear hd hb1 NW
  go_wp2_with fail
  refine (wal_Open_nil _ _).mono ?_; rintro e w2 ⟨rfl, rfl⟩
  go_wp2_with fail
  refine (O1.out _ _ _ _ (HW.out.below B1.out).h H1.out).mono ?_; rintro e w3 ⟨hb, rfl⟩
  have B3 := Lib.hid (bstep B1.out hb)
  clear hb H1 O1
  go_wp2_with fail
  refine (nil_Empty _).mono ?_; rintro e w4 ⟨rfl, rfl⟩
  go_wp2_with fail
  refine (nil_Records _).mono ?_; rintro e w5 ⟨rfl, rfl⟩
  go_wp2_with fail
  refine (nil_Append _ _).mono ?_; rintro e w6 ⟨rfl, rfl⟩
  go_wp2_with fail
  refine (nil_Sync _).mono ?_; rintro e w7 ⟨rfl, rfl⟩
  go_wp2_with fail
  refine (nil_Next _).mono ?_; rintro e w8 ⟨rfl, rfl⟩
  go_wp2_with fail
  refine (nil_Left _).mono ?_; rintro e w9 ⟨rfl, rfl⟩
  go_wp2_with fail
  refine (WK.out _ (HW.out.below B3.out)).mono ?_; rintro e w10 ⟨rfl, hb⟩
  have B10 := Lib.hid (bstep B3.out hb)
  clear hb
  go_wp2_with fail
  go_ret
  exact ⟨rfl, B10.out⟩
end Go.Proofs.YtoebldemcgahnaaGreatDoor
