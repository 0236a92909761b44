/- The log (layer 21): the law WalNumbers. -/
import Derived.Test.YtoebldemcgahnaaGreatDoorWn
import Derived.Test.YtoebldemcgahnaaGreatDoorJa
import Derived.Test.YtoebldemcgahnaaGreatDoorDly
import Derived.Test.YtoebldemcgahnaaGreatDoorWm
namespace Go.Proofs.YtoebldemcgahnaaGreatDoor
open Go.RowKit
set_option maxRecDepth 100000 in
set_option maxHeartbeats 16000000 in
theorem law21_WalNumbers (v : Value) (L : List Stp) (a0 a1 a2 aD aA bD bL bF : Addr) (w : World) (hl : L.length ≤ 9223372036854775807) (_ht : ∀ x ∈ L, wf64 x.k ∧ wf64 x.n ∧ x.s.size ≤ 9223372036854775807) (hv : SlStps w v L) (hw : WlW w a0 a1 a2 aD aA bD bL bF) :
    Calls Tryz.prog 4 #[v] w fun e w' => e = .returned (.bool true) ∧ Below w.heap.size w w' := by
  have HW := Lib.hid hw
  have WK := Lib.hid (fun W h => wakes21 a0 a1 a2 aD aA bD bL bF W h)
  have HV := Lib.hid hv
  have FA := Lib.hid (fun W h => law21_Fair v L hl W h)
  obtain ⟨pv, cv, rfl, _⟩ := hv.form
  clear hw hv hl
  have NW := Lib.hid (disk_New 100 (by decide) (by decide) w)
  obtain ⟨g, hg⟩ : ∃ g, g = w.heap.size + 2 := ⟨_, rfl⟩
  obtain ⟨mb, hmb⟩ : ∃ g, g = w.heap.size := ⟨_, rfl⟩
  obtain ⟨cb, hcb2⟩ : ∃ g, g = w.heap.size + 1 := ⟨_, rfl⟩
  have gB : Hid (∀ b, DkS g mb cb b → w.heap.size ≤ b) := by rintro b (h | h | h) <;> omega
  have NW' : Hid (Calls Tryz.prog 13 #[.int .i64 100] w fun e w' => e = .returned (.tuple #[.pointer (some ⟨g, 0, none⟩), .int .i64 0]) ∧ DiskAt w' g mb cb 0 (.slice none 0 0) (Dk.new 100) ∧ Below w.heap.size w w') := by rw [hg, hmb, hcb2]; exact NW.out
  have C0 : (Dk.new 100).Calm 100 := calm_new (by decide) (by decide)
  have O1 := Lib.hid (fun W k1 k2 => wal_Open 1 (by decide) (by decide) g mb cb (.slice none 0 0) (Dk.new 100) 24 (logs_of (n := 100) (lg := 24) rfl (by decide) (by decide) (by decide)).symm a0 a1 a2 aD aA W k1 k2 C0.ok)
  rw [open_new (lg := 24) (by decide) (by decide) (by decide) (by decide) (by decide), show (Dk.new 100).n = 100 from rfl] at O1
  unfold OpenP at O1
  dsimp only at O1
  have P0 : Hid (PhW 100 24 (Dk.new 100).secs 1 0 0 [] (Dk.new 100)) := PhW.start C0 (by decide) (by decide) (by decide) (area_new 100) (by decide) (by decide) (fun _ => rfl)
  have NX0 := Lib.hid (fun p rv W k => wal_Next (B := w.heap.size) (p := p) (g := g) (n := 100) (lg := 24) (rv := rv) (x := ⟨[], 1, 0, false⟩) W k)
  dsimp only at NX0
  obtain ⟨A0, hA0⟩ : ∃ A, A = (Dk.new 100).secs := ⟨_, rfl⟩
  rw [← hA0] at P0
  obtain ⟨D0, hD0⟩ : ∃ d, d = Dk.new 100 := ⟨_, rfl⟩
  have OK0 : Hid (D0.Ok ∧ D0.n = 100) := by rw [hD0]; exact ⟨C0.ok, rfl⟩
  rw [← hD0] at NW' O1 P0
  clear C0 NW hg hmb hcb2 hD0 hA0
  obtain ⟨m, hm⟩ : ∃ m, m = L.length := ⟨_, rfl⟩
  rw [← hm] at HV ⊢
  rw [← hm] at FA
  have HM := Lib.hid hm
  clear hm
  go_enter Tryz.func4, Tryz.ntmps4
  go_wp2_with fail
  refine NW'.out.mono ?_; rintro e w1 ⟨rfl, hd, hb1⟩
  have H1 : Hid (DiskAt w1 g mb cb 4096 (.slice none 0 0) D0) := ⟨hd.blk, hd.hm.mono (by omega), hd.hc.mono (by omega), hd.hk, hd.n0, hd.n1, hd.gm, hd.gc, hd.mc, hd.kn⟩
  have B1 := Lib.hid hb1
  clear hd hb1 NW'
  go_wp2_with fail
  refine (O1.out _ (HW.out.below B1.out).h H1.out).mono ?_; rintro e w2 ⟨hb, p, rv, rfl, hp, hl⟩
  have W2 := Lib.hid (walAt_open B1.out H1.out OK0.out.1 OK0.out.2 (by decide) (by decide) gB.out (fun b off c m e => by cases e) hb hp hl)
  have B2 := Lib.hid (bstep B1.out hb)
  clear hb hp hl H1 O1 OK0
  go_wp2_with fail
  refine (FA.out _ (HV.out.below B2.out)).mono ?_; rintro e w3 ⟨rfl, fb, rfl, hfb⟩
  cases fb with
  | false =>
    clear hfb
    go_wp2_with fail
    refine (WK.out _ (HW.out.below B2.out)).mono ?_; rintro e w3 ⟨rfl, hb⟩
    have B3 := Lib.hid (bstep B2.out hb)
    clear hb
    go_wp2_with fail
    go_ret
    exact ⟨rfl, B3.out⟩
  | true =>
  obtain ⟨hf60, hfx⟩ := hfb rfl
  have HF := Lib.hid hfx
  have m60 : m ≤ 60 := by have := HM.out; omega
  clear hfb hfx FA hf60
  go_wp2_with fail
  refine (NX0.out p rv _ W2.out.log).mono ?_; rintro e w3 ⟨rfl, rfl⟩
  go_wp2_with fail
  go_loopw [5, 7, 8] (fun xp nv c wr => ∃ (i : Nat) (d : Dk) (p : Nat) (rv : Value) (A : List ByteArray) (q : Int) (u sr : Nat) (X R : List ByteArray), xp = .pointer (some ⟨p, 0, none⟩) ∧ nv = .int .u32 (q + (X.length : Int)) ∧ i ≤ m ∧ c = .int .i64 i ∧ q + (X.length : Int) ≤ 1 + (i : Int) ∧ PhW 100 24 A q u sr X d ∧ WalAt wr w.heap.size p g mb cb (.slice none 0 0) rv 100 24 ⟨R, q + (X.length : Int), u + (layR (numW q X)).length, false⟩ d ∧ Below w.heap.size w wr) (fun _ _ c _ => m - (intOf c).toNat)
  case atStart => exact ⟨0, D0, p, rv, A0, 1, 0, 0, [], [], rfl, rfl, Nat.zero_le _, rfl, by simp, P0.out, by simpa [layR, numW] using W2.out, B2.out⟩
  case round =>
    clear W2 B2 P0 NX0
    obtain ⟨i, d, p, rv, A, q, u, sr, X, R, rfl, rfl, hik, rfl, hqi, hPh, hWl, hB⟩ := hrel
    have PH := Lib.hid hPh; have WL := Lib.hid hWl; have HB := Lib.hid hB
    clear hPh hWl hB
    by_cases hlt : i < m
    · have hi : (i : Int) < (m : Int) := by omega
      have hi0 : (0 : Int) ≤ (i : Int) := by omega
      have v1 : IntKind.i64.wrap ((i : Int) + 1) = (i : Int) + 1 := IntWalk.i64_in _ (by omega)
      have hl : i < L.length := by have := HM.out; omega
      obtain ⟨b, off, rfl, hS⟩ := SlStps.atN HM.out HV.out hl
      obtain ⟨x, hx⟩ : ∃ x, x = L[i] := ⟨_, rfl⟩
      have c0 := hS.kind i hl
      have c1 := hS.num i hl
      have c2 := hS.str i hl
      obtain ⟨kv, c3, hk⟩ := hS.kep i hl
      have hxs := HF.out L[i] (List.getElem_mem hl)
      rw [← hx] at c0 c1 c2 hk hxs
      obtain ⟨kq, kc, rfl⟩ := hk.form
      obtain ⟨xk, xn, xs, xl⟩ := x
      dsimp only at c0 c1 c2 c3 hk hxs
      have hkb : Hid (∀ b off n c, Value.slice kq xl.length kc = .slice (some ⟨b, off, none⟩) n c → xl = [] ∨ b < w.heap.size) := fun b off n c e => by
        by_cases h0 : xl = []
        · exact .inl h0
        · rcases hk with ⟨h, _⟩ | ⟨b2, o2, c2, e2, _, h⟩
          · exact absurd h h0
          · rw [e2] at e; injection e with e _ _; injection e with e; injection e with e _ _
            exact .inr (by rw [← e]; exact h.lt h0)
      have HK := Lib.hid hk
      have d0 := dk_cell c0 HB.out
      have d1 := dk_cell c1 HB.out
      have d2 := dk_cell c2 HB.out
      have d3 := dk_cell c3 HB.out
      have HX := Lib.hid hxs
      obtain ⟨N0, hN0⟩ : ∃ N0, N0 = q + (X.length : Int) := ⟨_, rfl⟩
      have nn : (N0 != N0) = false := by simp
      rw [← hN0] at WL hqi ⊢
      have HN0 := Lib.hid hN0
      have q0 := PH.out.q0
      have N1 : 1 ≤ N0 := by omega
      clear c0 c1 c2 c3 hk hxs hx hS hl hN0
      go_upto_region 10 with (fail)
      obtain ⟨y, hy⟩ : ∃ y, y = wr.alloc (.cells #[.int .i64 xk, .int .i64 xn, .string xs, .slice kq xl.length kc] 46) := ⟨_, rfl⟩
      have Ey : Hid (Below wr.heap.size wr y) := by show Below _ _ _; rw [hy]; exact below_a1 _ _
      have Yb : Hid (y.heap[wr.heap.size]? = some (.cells #[.int .i64 xk, .int .i64 xn, .string xs, .slice kq xl.length kc] 46 (0, 0))) := by show _ = _; rw [hy]; exact blk_new _ _
      have WY := Lib.hid (WL.out.below Ey.out)
      have BY := Lib.hid (bstep HB.out Ey.out)
      obtain ⟨Z, hZ⟩ : ∃ Z, Z = wr.heap.size := ⟨_, rfl⟩
      rw [← hZ] at Yb ⊢
      rw [← hy]
      clear hy hZ Ey WL HB d0 d1 d2 d3
      have hyc := blk_cell Yb.out
      by_cases k0 : xk = 0
      · have e0 : (xk == 0) = true := by rw [k0]; rfl
        have AP := Lib.hid (fun W k1 k2 => wal_Append (p := p) (g := g) (mb := mb) (cb := cb) (kv := .slice none 0 0) (rv := rv) (n := 100) (lg := 24) (x := ⟨R, N0, u + (layR (numW q X)).length, false⟩) (d := d) xs a0 a1 a2 aD aA bD bL bF w W HW.out k1 k2)
        by_cases hm0 : (⟨R, N0, u + (layR (numW q X)).length, false⟩ : Wl).may 24 xs = 0
        · obtain ⟨z1, z2, z3⟩ := may_zero hm0
          dsimp only at z2 z3
          rw [HN0.out] at z3 AP
          obtain ⟨d', e1, PH2⟩ := PH.out.append (s := xs) R z1 z3 (by omega)
          rw [e1] at AP
          unfold AppP at AP
          dsimp only at AP
          rw [← HN0.out] at AP
          have HPH2 := Lib.hid PH2
          obtain ⟨N2, hN2⟩ : ∃ N2, N2 = q + ((X ++ [xs]).length : Int) := ⟨_, rfl⟩
          have f1 : IntKind.u32.wrap (N0 + 1) = N2 := by rw [IntKind.wrap_u32, hN2, List.length_append]; have := HN0.out; simp; omega
          have n2 : (N2 != N2) = false := by simp
          rw [← hN2] at AP
          have NX := Lib.hid (fun rv W k => wal_Next (B := w.heap.size) (p := p) (g := g) (n := 100) (lg := 24) (rv := rv) (x := ⟨R ++ [xs], N2, u + (layR (numW q (X ++ [xs]))).length, false⟩) W k)
          dsimp only at NX
          have HN2 := Lib.hid hN2
          have nb : N2 ≤ 1 + ((i + 1 : Nat) : Int) := by rw [hN2, List.length_append]; have := HN0.out; simp; omega
          clear e1 PH2 hm0 z1 z2 z3 hN2
          go_wp2_with fail
          refine (AP.out _ BY.out WY.out).mono ?_; rintro e w6 ⟨rv6, rfl, hw6, hf6, _⟩
          have W6 := Lib.hid hw6
          have P6 := Lib.hid (WY.out.bel BY.out rfl hf6)
          clear hw6 hf6 WY BY AP hyc
          go_wp2_with fail
          refine (NX.out rv6 _ W6.out.log).mono ?_; rintro e w7 ⟨rfl, rfl⟩
          go_wp2_with fail
          go_roundw
          case rel => exact ⟨i + 1, d', p, rv6, A, q, u, sr, X ++ [xs], R ++ [xs], rfl, by rw [HN2.out], by omega, by go_num, by rw [← HN2.out]; exact nb, HPH2.out, by rw [← HN2.out]; exact W6.out, P6.out⟩
          case measure => simp [intOf]; omega
        · have e1 := append_may (d := d) hm0
          obtain ⟨cc, hcc⟩ : ∃ cc, cc = (⟨R, N0, u + (layR (numW q X)).length, false⟩ : Wl).may 24 xs := ⟨_, rfl⟩
          rw [← hcc] at e1 hm0
          rw [e1] at AP
          unfold AppP at AP
          dsimp only at AP
          have q5 : (cc == 0) = false := by simpa using hm0
          have NX := Lib.hid (fun rv W k => wal_Next (B := w.heap.size) (p := p) (g := g) (n := 100) (lg := 24) (rv := rv) (x := ⟨R, N0, u + (layR (numW q X)).length, false⟩) W k)
          dsimp only at NX
          clear e1 hcc hm0
          go_wp2_with fail
          refine (AP.out _ BY.out WY.out).mono ?_; rintro e w6 ⟨rv6, rfl, hw6, hf6, _⟩
          have W6 := Lib.hid hw6
          have P6 := Lib.hid (WY.out.bel BY.out rfl hf6)
          clear hw6 hf6 WY BY AP hyc
          go_wp2_with fail
          refine (NX.out rv6 _ W6.out.log).mono ?_; rintro e w7 ⟨rfl, rfl⟩
          go_wp2_with fail
          go_roundw
          case rel => exact ⟨i + 1, d, p, rv6, A, q, u, sr, X, R, rfl, by rw [HN0.out], by omega, by go_num, by rw [← HN0.out]; omega, PH.out, by rw [← HN0.out]; exact W6.out, P6.out⟩
          case measure => simp [intOf]; omega
      · have e0 : (xk == 0) = false := by simpa using k0
        have NX := Lib.hid (fun rv W k => wal_Next (B := w.heap.size) (p := p) (g := g) (n := 100) (lg := 24) (rv := rv) (x := ⟨R, N0, u + (layR (numW q X)).length, false⟩) W k)
        dsimp only at NX
        by_cases k1 : xk = 1
        · have e1 : (xk == 1) = true := by rw [k1]; rfl
          have SY := Lib.hid (fun W k1 k2 => wal_Sync (B := w.heap.size) (p := p) (g := g) (mb := mb) (cb := cb) (kv := .slice none 0 0) (rv := rv) (n := 100) (lg := 24) (x := ⟨R, N0, u + (layR (numW q X)).length, false⟩) (d := d) aD aA W k1 k2)
          rw [sync_calm PH.out.calm rfl] at SY
          dsimp only at SY
          have PH2 := Lib.hid PH.out.pour
          go_wp2_with fail
          refine (SY.out _ (HW.out.below BY.out).h.d WY.out).mono ?_; rintro e w6 ⟨rfl, hw6, hf6⟩
          have W6 := Lib.hid hw6
          have P6 := Lib.hid (WY.out.bel BY.out rfl hf6)
          clear hw6 hf6 WY BY SY hyc
          go_wp2_with fail
          refine (NX.out rv _ W6.out.log).mono ?_; rintro e w7 ⟨rfl, rfl⟩
          go_wp2_with fail
          go_roundw
          case rel => exact ⟨i + 1, d.pour, p, rv, A, q, u, X.length, X, R, rfl, by rw [HN0.out], by omega, by go_num, by rw [← HN0.out]; omega, PH2.out, by rw [← HN0.out]; exact W6.out, P6.out⟩
          case measure => simp [intOf]; omega
        · have e1 : (xk == 1) = false := by simpa using k1
          by_cases k3 : xk = 3
          · have e3 : (xk == 3) = true := by rw [k3]; rfl
            have hq61 : q + (X.length : Int) ≤ 256 := by have := HN0.out; omega
            obtain ⟨R2, q2, us2, o2, g1, g2, PH2, NUM⟩ := PH.out.again hq61 xl
            have cT := calm_crashed PH.out.calm xl
            have CK := Lib.hid (fun W h1 h2 h3 => disk_CrashE (.slice kq xl.length kc) xl (by have := HX.out; omega) g mb cb (.slice none 0 0) d W h1 PH.out.calm.ok.ok0 h2 h3)
            have ST := Lib.hid (fun W h1 => disk_Start g mb cb 4096 (.slice none 0 0) (d.crash xl) W h1)
            have O2 := Lib.hid (fun W k1 k2 => wal_Open 1 (by decide) (by decide) g mb cb (.slice none 0 0) (d.crash xl).start 24 (logs_of (n := 100) (lg := 24) cT.n (by decide) (by decide) (by decide)).symm a0 a1 a2 aD aA W k1 k2 cT.ok)
            rw [o2, cT.n] at O2
            unfold OpenP at O2
            dsimp only at O2
            have RDk := Lib.hid (fun (j : Nat) (hj : j < 24) W k1 k2 => disk_Read (2 + (j : Int)) (wf64_of (by omega) (by omega)) g mb cb 4096 (.slice none 0 0) (d.crash xl).start aD aA W k1 k2)
            have RDe : Hid (∀ j : Nat, j < 24 → (d.crash xl).start.read (2 + (j : Int)) = ((d.crash xl).start.tell (2 + (j : Int)), 0)) := fun j hj => cT.read ⟨by omega, by omega⟩
            have RDs : Hid (∀ j : Nat, ((d.crash xl).start.tell (2 + (j : Int))).size = 256) := fun j => cT.ok.tell_size _
            have OK5 : Hid ((d.crash xl).start.Ok ∧ (d.crash xl).start.n = 100) := ⟨cT.ok, cT.n⟩
            obtain ⟨d4, hd4⟩ : ∃ d4, d4 = d.crash xl := ⟨_, rfl⟩
            have CK2 : Hid (∀ W, DiskAt W g mb cb 4096 (.slice none 0 0) d → SlKept W (.slice kq xl.length kc) xl → (xl ≠ [] → ∀ b off n c, Value.slice kq xl.length kc = .slice (some ⟨b, off, none⟩) n c → ¬ DkS g mb cb b) → Calls Tryz.prog 19 #[.pointer (some ⟨g, 0, none⟩), .slice kq xl.length kc] W fun e w' => e = .returned (.tuple #[]) ∧ DiskAt w' g mb cb 4096 (.slice none 0 0) d4 ∧ Fr (DkS g mb cb) W w') := by rw [hd4]; exact CK.out
            rw [← hd4] at ST O2 RDk RDe RDs OK5 PH2 NUM
            obtain ⟨d5, hd5⟩ : ∃ d5, d5 = d4.start := ⟨_, rfl⟩
            rw [← hd5] at ST O2 RDk RDe RDs OK5 PH2 NUM
            have HNUM := Lib.hid NUM
            have HPH2 := Lib.hid PH2
            obtain ⟨A2, hA2⟩ : ∃ A2, A2 = d5.secs := ⟨_, rfl⟩
            rw [← hA2] at HPH2
            obtain ⟨N2, hN2⟩ : ∃ N2, N2 = q2 + (([] : List ByteArray).length : Int) := ⟨_, rfl⟩
            have N2q : N2 = q2 := by rw [hN2]; simp
            rw [← hN2] at O2
            have NX2 := Lib.hid (fun B p rv W k => wal_Next (B := B) (p := p) (g := g) (n := 100) (lg := 24) (rv := rv) (x := ⟨R2, N2, us2 + (layR (numW q2 ([] : List ByteArray))).length, false⟩) W k)
            dsimp only at NX2
            have p1 : ¬ N0 < N2 := by have := HN0.out; omega
            have nn2 : (N2 != N2) = false := by simp
            have HN2 := Lib.hid hN2
            have NM := Lib.hid (fun b W => ref18_NumQ b W)
            have NB : Hid (N2 = q2 ∧ 1 ≤ q2 ∧ q2 ≤ N0) := ⟨N2q, g1, by have := HN0.out; omega⟩
            have HKY := Lib.hid (HK.out.below BY.out)
            clear CK hd4 hd5 o2 cT NUM PH2 hA2 N2q hN2 hq61 g1 g2 NX
            go_wp2_with fail
            refine (CK2.out _ WY.out.dsk HKY.out (fun h0 b off n c e h => by rcases hkb.out b off n c e with k | k; exact h0 k; have := gB.out b h; omega)).mono ?_; rintro e w6 ⟨rfl, hd, hf⟩
            have D6 := Lib.hid hd
            have B6 := Lib.hid (frb BY.out hf (gB.out _ (.inl rfl)) (gB.out _ (.inr (.inl rfl))) (gB.out _ (.inr (.inr rfl))))
            clear hd hf WY BY HKY CK2 hyc Yb
            go_wp2_with fail
            refine (ST.out _ D6.out).mono ?_; rintro e w7 ⟨rfl, hd, hf⟩
            have hf := hf.mono (T := DkS g mb cb) (fun _ h => .inl h)
            have D7 := Lib.hid hd
            have B7 := Lib.hid (frb B6.out hf (gB.out _ (.inl rfl)) (gB.out _ (.inr (.inl rfl))) (gB.out _ (.inr (.inr rfl))))
            clear hd hf D6 B6 ST
            go_wp2_with fail
            refine (O2.out _ (HW.out.below B7.out).h D7.out).mono ?_; rintro e w8 ⟨hb, p2, rv2, rfl, hp2, hl2⟩
            have W8 := Lib.hid (walAt_open B7.out D7.out OK5.out.1 OK5.out.2 (by decide) (by decide) gB.out (fun b off c m e => by cases e) hb hp2 hl2)
            have B8 := Lib.hid (bstep B7.out hb)
            clear hb hp2 hl2 D7 B7 O2
            go_wp2_with fail
            refine (NX2.out _ p2 rv2 _ W8.out.log).mono ?_; rintro e w9 ⟨rfl, rfl⟩
            go_wp2_with fail
            refine (NX2.out _ p2 rv2 _ W8.out.log).mono ?_; rintro e w9 ⟨rfl, rfl⟩
            go_wp2_with fail
            go_loopw [12] (fun c wr => ∃ j : Nat, j ≤ 24 ∧ c = .int .i64 (2 + (j : Int)) ∧ WalAt wr w.heap.size p2 g mb cb (.slice none 0 0) rv2 100 24 ⟨R2, N2, us2 + (layR (numW q2 ([] : List ByteArray))).length, false⟩ d5 ∧ Below w.heap.size w wr) (fun c _ => 26 - (intOf c).toNat)
            case atStart => exact ⟨0, by omega, rfl, W8.out, B8.out⟩
            case round =>
              clear W8 B8
              obtain ⟨j, hj24, rfl, hWl, hB⟩ := hrel
              have WL := Lib.hid hWl; have HB := Lib.hid hB
              clear hWl hB
              by_cases hj : j < 24
              · have q1 : 2 + (j : Int) < 26 := by omega
                have v2 : IntKind.i64.wrap (2 + (j : Int) + 1) = 2 + (j : Int) + 1 := IntWalk.i64_in _ (by omega)
                have R1 := Lib.hid (RDk.out j hj)
                rw [RDe.out j hj] at R1
                have nlt := HNUM.out j hj
                have sz := RDs.out j
                obtain ⟨b, hb⟩ : ∃ b, b = d5.tell (2 + (j : Int)) := ⟨_, rfl⟩
                rw [← hb] at R1 nlt sz
                have s256 : ((b.size : Int) != 256) = false := by rw [sz]; rfl
                have NM1 := Lib.hid (fun W => NM.out b W)
                obtain ⟨nf, hnf⟩ : ∃ nf, nf = numF b.data.toList := ⟨_, rfl⟩
                rw [← hnf] at NM1 nlt
                have nge : ¬ N2 ≤ nf := by have := NB.out; omega
                clear hb hnf sz nlt
                go_wp2_with fail
                refine (R1.out _ (HW.out.below HB.out).h.d WL.out.dsk).mono ?_; rintro e w10 ⟨rfl, hb⟩
                have W10 := Lib.hid (WL.out.below hb)
                have B10 := Lib.hid (bstep HB.out hb)
                clear hb WL HB
                go_wp2_with fail
                refine (NM1.out _).mono ?_; rintro e w11 ⟨rfl, kk, hkk⟩
                have E11 : Hid (Below w10.heap.size w10 w11) := by show Below _ _ _; rw [hkk]; exact below_dN _ _
                have W11 := Lib.hid (W10.out.below E11.out)
                have B11 := Lib.hid (bstep B10.out E11.out)
                clear hkk E11 W10 B10
                go_wp2_with fail
                go_roundw
                case rel => exact ⟨j + 1, by omega, by go_num, W11.out, B11.out⟩
                case measure => simp [intOf]; omega
              · have q1 : ¬ 2 + (j : Int) < 26 := by omega
                go_wp2_with fail
                refine (NX2.out _ p2 rv2 _ WL.out.log).mono ?_; rintro e w12 ⟨rfl, rfl⟩
                go_wp2_with fail
                go_roundw
                case rel => exact ⟨i + 1, d5, p2, rv2, A2, q2, us2, 0, [], R2, rfl, by rw [HN2.out], by omega, by go_num, by rw [← HN2.out]; have := NB.out; omega, HPH2.out, by rw [← HN2.out]; exact WL.out, HB.out⟩
                case measure => simp [intOf]; omega
          · have e3 : (xk == 3) = false := by simpa using k3
            go_wp2_with fail
            refine (NX.out rv _ WY.out.log).mono ?_; rintro e w7 ⟨rfl, rfl⟩
            go_wp2_with fail
            go_roundw
            case rel => exact ⟨i + 1, d, p, rv, A, q, u, sr, X, R, rfl, by rw [HN0.out], by omega, by go_num, by rw [← HN0.out]; omega, PH.out, by rw [← HN0.out]; exact WY.out, BY.out⟩
            case measure => simp [intOf]; omega
    · have hi : ¬ (i : Int) < (m : Int) := by omega
      go_wp2_with fail
      refine (WK.out _ (HW.out.below HB.out)).mono ?_; rintro e w3 ⟨rfl, hb⟩
      have B3 := Lib.hid (bstep HB.out hb)
      clear hb
      go_wp2_with fail
      go_ret
      exact ⟨rfl, B3.out⟩
end Go.Proofs.YtoebldemcgahnaaGreatDoor
