/- Heads (layer 20): the law HeadSafe. -/
import Derived.Test.YtoebldemcgahnaaGreatDoorJr
namespace Go.Proofs.YtoebldemcgahnaaGreatDoor
open Go.RowKit
instance : DecidableEq Hd := fun a b => decidable_of_iff (a.e = b.e ∧ a.r = b.r ∧ a.f = b.f) ⟨fun ⟨h1, h2, h3⟩ => by cases a; cases b; simp_all, fun h => by subst h; exact ⟨rfl, rfl, rfl⟩⟩
theorem take_in {α : Type} [DecidableEq α] {a : α} {l : List α} {i : Nat} (h : i < l.length) : decide (a ∈ l.take (i + 1)) = (decide (a ∈ l.take i) || decide (a = l[i])) := by
  rw [Bool.eq_iff_iff, Bool.or_eq_true, decide_eq_true_eq, decide_eq_true_eq, decide_eq_true_eq, List.take_succ_eq_append_getElem h, List.mem_append, List.mem_singleton]
set_option maxRecDepth 20000 in
set_option maxHeartbeats 16000000 in
theorem law20_HeadSafe (n keep r0 r1 : Int) (n0 : 0 ≤ n) (n1 : n < 256) (k0 : 0 ≤ keep) (k1 : keep < 256) (p0 : 0 ≤ r0) (p1 : r0 < 256) (p2 : 0 ≤ r1) (p3 : r1 < 256) (a0 a1 a2 aD aA : Addr) (w : World) (hw : HwW w a0 a1 a2 aD aA) :
    Calls Tryz.prog 9 #[.int .u8 n, .int .u8 keep, .agg #[.int .u8 r0, .int .u8 r1]] w fun e w' => e = .returned (.bool true) ∧ Below w.heap.size w w' := by
  have HW := Lib.hid hw
  have WK := Lib.hid (fun W h => wakes20 a0 a1 a2 aD aA W h)
  have n3 : n % 300 = n := Int.emod_eq_of_lt n0 (by omega)
  have u1 : IntKind.u32.wrap n = n := by rw [IntKind.wrap_u32]; exact Int.emod_eq_of_lt n0 (by omega)
  have u2 : n.tmod 300 = n := by rw [Int.tmod_eq_emod_of_nonneg n0, n3]
  clear n3
  have i1 : IntKind.i64.wrap r0 = r0 := IntWalk.i64_in _ (by omega)
  have i2 : IntKind.i64.wrap r1 = r1 := IntWalk.i64_in _ (by omega)
  have i5 : IntKind.i64.wrap keep = keep := IntWalk.i64_in _ (by omega)
  obtain ⟨rx, hrx⟩ : ∃ rx, rx = r0 % 40 := ⟨_, rfl⟩
  obtain ⟨ry, hry⟩ : ∃ ry, ry = r1 % 40 := ⟨_, rfl⟩
  have j1 : r0.tmod 40 = rx := by rw [Int.tmod_eq_emod_of_nonneg p0, ← hrx]
  have j2 : r1.tmod 40 = ry := by rw [Int.tmod_eq_emod_of_nonneg p2, ← hry]
  have brx : 0 ≤ rx ∧ rx < 40 := by rw [hrx]; exact ⟨Int.emod_nonneg _ (by decide), Int.emod_lt_of_pos _ (by decide)⟩
  have bry : 0 ≤ ry ∧ ry < 40 := by rw [hry]; exact ⟨Int.emod_nonneg _ (by decide), Int.emod_lt_of_pos _ (by decide)⟩
  clear hrx hry p0 p1 p2 p3
  have j4 : IntKind.i64.wrap rx = rx := IntWalk.i64_in _ (by omega)
  have j5 : IntKind.i64.wrap ry = ry := IntWalk.i64_in _ (by omega)
  obtain ⟨k, hk⟩ : ∃ k, k = n + 2 := ⟨_, rfl⟩
  obtain ⟨kz, hkz⟩ : ∃ kz, kz = k + 1 := ⟨_, rfl⟩
  obtain ⟨ky, hky⟩ : ∃ ky, ky = k + 2 := ⟨_, rfl⟩
  obtain ⟨kp, hkp⟩ : ∃ kp, kp = keep + 1 := ⟨_, rfl⟩
  have u3 : IntKind.u32.wrap (n + 2) = k := by rw [IntKind.wrap_u32, ← hk]; exact Int.emod_eq_of_lt (by omega) (by omega)
  have u4 : IntKind.u32.wrap k = k := by rw [IntKind.wrap_u32]; exact Int.emod_eq_of_lt (by omega) (by omega)
  have u5 : IntKind.u32.wrap (k + 1) = kz := by rw [IntKind.wrap_u32, ← hkz]; exact Int.emod_eq_of_lt (by omega) (by omega)
  have u6 : IntKind.u32.wrap (k + 2) = ky := by rw [IntKind.wrap_u32, ← hky]; exact Int.emod_eq_of_lt (by omega) (by omega)
  have i6 : IntKind.i64.wrap (keep + 1) = kp := by rw [← hkp]; exact IntWalk.i64_in _ (by omega)
  have par : k % 2 = ky % 2 ∧ kz % 2 ≠ ky % 2 := by omega
  obtain ⟨pr, hpr⟩ : ∃ pr, pr = ky % 2 := ⟨_, rfl⟩
  have bpr : 0 ≤ pr ∧ pr < 2 := by rw [hpr]; exact ⟨Int.emod_nonneg _ (by decide), Int.emod_lt_of_pos _ (by decide)⟩
  have j3 : ky.tmod 2 = pr := by rw [Int.tmod_eq_emod_of_nonneg (by omega), ← hpr]
  have HPR := Lib.hid hpr
  have PAR := Lib.hid par
  clear hpr par
  have j6 : IntKind.u32.wrap pr = pr := by rw [IntKind.wrap_u32]; exact Int.emod_eq_of_lt bpr.1 (by omega)
  have u8 : IntKind.i64.wrap pr = pr := IntWalk.i64_in _ (by omega)
  have gx : (Hd.mk k rx 7).good := ⟨by show 1 ≤ k ∧ k ≤ 2147483648; omega, ⟨by show (1 : Int) ≤ (7 : Int); decide, by show (7 : Int) ≤ (2147483648 : Int); decide⟩, by show -1 ≤ rx ∧ rx ≤ 4096; omega⟩
  have gz : (Hd.mk kz rx 8).good := ⟨by show 1 ≤ kz ∧ kz ≤ 2147483648; omega, ⟨by show (1 : Int) ≤ (8 : Int); decide, by show (8 : Int) ≤ (2147483648 : Int); decide⟩, by show -1 ≤ rx ∧ rx ≤ 4096; omega⟩
  have gy : (Hd.mk ky ry 9).good := ⟨by show 1 ≤ ky ∧ ky ≤ 2147483648; omega, ⟨by show (1 : Int) ≤ (9 : Int); decide, by show (9 : Int) ≤ (2147483648 : Int); decide⟩, by show -1 ≤ ry ∧ ry ≤ 4096; omega⟩
  have rx47 : (Hd.mk k rx 7).r < (layN 64).1.2.2.2 := by show rx < 47; omega
  have rz47 : (Hd.mk kz rx 8).r < (layN 64).1.2.2.2 := by show rx < 47; omega
  have ry47 : (Hd.mk ky ry 9).r < (layN 64).1.2.2.2 := by show ry < 47; omega
  obtain ⟨L, hL, hlen, hzL, hall, hfull⟩ := sf_heads (Hd.mk k rx 7) (Hd.mk kz rx 8) (Hd.mk ky ry 9) gx gz gy PAR.out.1 PAR.out.2 (by show k ≠ ky; omega) (by show kz < ky; omega) rx47 rz47 ry47 (n := kp) (by omega) (by omega)
  have c0 : (Dk.new 64).Calm 64 := calm_new (by decide) (by decide)
  have c1 := calm_put c0 (by decide) (Hd.mk k rx 7)
  have c2 := calm_put (sf_c1 (Hd.mk k rx 7)) (by decide) (Hd.mk kz rx 8)
  have E1 := calm_putH c0 (by decide) (by decide) gx rx47
  have E2 := calm_putH (sf_c1 (Hd.mk k rx 7)) (by decide) (by decide) gz rz47
  have E3 := calm_putH (sf_c2 (Hd.mk k rx 7) (Hd.mk kz rx 8)) (by decide) (by decide) gy ry47
  obtain ⟨g, hg⟩ : ∃ g, g = w.heap.size + 3 := ⟨_, rfl⟩
  obtain ⟨mb, hmb⟩ : ∃ g, g = w.heap.size + 1 := ⟨_, rfl⟩
  obtain ⟨cb, hcb⟩ : ∃ g, g = w.heap.size + 2 := ⟨_, rfl⟩
  have lg : Hid (w.heap.size ≤ g) := by show _ ≤ _; omega
  have lm : Hid (w.heap.size ≤ mb) := by show _ ≤ _; omega
  have lc : Hid (w.heap.size ≤ cb) := by show _ ≤ _; omega
  have bg : Hid (w.heap.size ≠ g ∧ w.heap.size ≠ mb ∧ w.heap.size ≠ cb) := ⟨by omega, by omega, by omega⟩
  obtain ⟨w0, hw0⟩ : ∃ w0, w0 = w.alloc (.cells #[.int .u8 r0, .int .u8 r1] 73) := ⟨_, rfl⟩
  have B0 : Hid (Below w.heap.size w w0) := by show Below _ _ _; rw [hw0]; exact below_a1 _ _
  have R0 : Hid (w0.heap[w.heap.size]? = some (.cells #[.int .u8 r0, .int .u8 r1] 73 (0, 0))) := by show _ = _; rw [hw0]; exact blk_new _ _
  have s0 : w0.heap.size = w.heap.size + 1 := by rw [hw0]; simp
  have NW := Lib.hid (disk_New 64 (by decide) (by decide) w0)
  rw [s0] at NW
  have NW' : Hid (Calls Tryz.prog 13 #[.int .i64 64] w0 fun e w' => e = .returned (.tuple #[.pointer (some ⟨g, 0, none⟩), .int .i64 0]) ∧ DiskAt w' g mb cb 0 (.slice none 0 0) (Dk.new 64) ∧ Below w0.heap.size w0 w') := by rw [hg, hmb, hcb, s0]; exact NW.out
  have HW0 := Lib.hid hw0
  have W1 := Lib.hid (fun W q1 q2 q3 q4 => head_Write (Hd.mk k rx 7) (by show 0 ≤ k; omega) (by show k < _; omega) (by show (0 : Int) ≤ 7; decide) (by show (7 : Int) < 4294967296; decide) g mb cb (.slice none 0 0) (Dk.new 64) aD aA W q1 q2 q3 q4 c0.ok)
  rw [E1] at W1
  have F1 := Lib.hid (fun W q1 q2 => disk_Flush g mb cb (.slice none 0 0) ((Dk.new 64).put ((Hd.mk k rx 7).e % 2) (ofL (Hd.mk k rx 7).sec)) aD aA W q1 q2 c1.ok)
  rw [c1.flush] at F1
  have W2 := Lib.hid (fun W q1 q2 q3 q4 => head_Write (Hd.mk kz rx 8) (by show 0 ≤ kz; omega) (by show kz < _; omega) (by show (0 : Int) ≤ 8; decide) (by show (8 : Int) < 4294967296; decide) g mb cb (.slice none 0 0) (sf1 (Hd.mk k rx 7)) aD aA W q1 q2 q3 q4 (sf_c1 (Hd.mk k rx 7)).ok)
  rw [E2] at W2
  have F2 := Lib.hid (fun W q1 q2 => disk_Flush g mb cb (.slice none 0 0) ((sf1 (Hd.mk k rx 7)).put ((Hd.mk kz rx 8).e % 2) (ofL (Hd.mk kz rx 8).sec)) aD aA W q1 q2 c2.ok)
  rw [c2.flush] at F2
  have W3 := Lib.hid (fun W q1 q2 q3 q4 => head_Write (Hd.mk ky ry 9) (by show 0 ≤ ky; omega) (by show ky < _; omega) (by show (0 : Int) ≤ 9; decide) (by show (9 : Int) < 4294967296; decide) g mb cb (.slice none 0 0) (sf2 (Hd.mk k rx 7) (Hd.mk kz rx 8)) aD aA W q1 q2 q3 q4 (sf_c2 (Hd.mk k rx 7) (Hd.mk kz rx 8)).ok)
  rw [E3] at W3
  have CK := Lib.hid (fun kvv W h1 h2 h3 => disk_Crash kvv [(pr, kp)] (by simp) g mb cb (.slice none 0 0) (sf3 (Hd.mk k rx 7) (Hd.mk kz rx 8) (Hd.mk ky ry 9)) W h1 (sf_c3 (Hd.mk k rx 7) (Hd.mk kz rx 8) (Hd.mk ky ry 9)).ok.ok0 h2 h3)
  have ST := Lib.hid (fun W h1 => disk_Start g mb cb 4096 (.slice none 0 0) ((sf3 (Hd.mk k rx 7) (Hd.mk kz rx 8) (Hd.mk ky ry 9)).crash [(pr, kp)]) W h1)
  have RD := Lib.hid (fun W q1 q2 q3 => head_Read g mb cb (.slice none 0 0) ((sf3 (Hd.mk k rx 7) (Hd.mk kz rx 8) (Hd.mk ky ry 9)).crash [(pr, kp)]).start a0 a1 a2 aD aA W q1 q2 q3)
  have hL' : ((sf3 (Hd.mk k rx 7) (Hd.mk kz rx 8) (Hd.mk ky ry 9)).crash [(pr, kp)]).start.heads = (L, 0) := by rw [← hL, HPR.out]; rfl
  rw [hL'] at RD
  obtain ⟨D0, hD0⟩ : ∃ d, d = Dk.new 64 := ⟨_, rfl⟩
  obtain ⟨D1, hD1⟩ : ∃ d, d = D0.put ((Hd.mk k rx 7).e % 2) (ofL (Hd.mk k rx 7).sec) := ⟨_, rfl⟩
  obtain ⟨D2, hD2⟩ : ∃ d, d = sf1 (Hd.mk k rx 7) := ⟨_, rfl⟩
  obtain ⟨D3, hD3⟩ : ∃ d, d = D2.put ((Hd.mk kz rx 8).e % 2) (ofL (Hd.mk kz rx 8).sec) := ⟨_, rfl⟩
  obtain ⟨D4, hD4⟩ : ∃ d, d = sf2 (Hd.mk k rx 7) (Hd.mk kz rx 8) := ⟨_, rfl⟩
  obtain ⟨D5, hD5⟩ : ∃ d, d = sf3 (Hd.mk k rx 7) (Hd.mk kz rx 8) (Hd.mk ky ry 9) := ⟨_, rfl⟩
  obtain ⟨D6, hD6⟩ : ∃ d, d = D5.crash [(pr, kp)] := ⟨_, rfl⟩
  obtain ⟨D7, hD7⟩ : ∃ d, d = D6.start := ⟨_, rfl⟩
  have g1 : D1.pour = D2 := by rw [hD1, hD2, hD0]; rfl
  have g2 : D3.pour = D4 := by rw [hD3, hD4, hD2]; rfl
  have g3 : D4.put ((Hd.mk ky ry 9).e % 2) (ofL (Hd.mk ky ry 9).sec) = D5 := by rw [hD5, hD4]; rfl
  rw [← hD0] at NW' W1 F1
  rw [← hD1] at W1 F1
  rw [g1] at F1
  rw [← hD2] at W2 F2
  rw [← hD3] at W2 F2
  rw [g2] at F2
  rw [← hD4] at W3
  rw [g3] at W3
  rw [← hD5] at CK ST RD
  have CK2 : Hid (∀ kvv W, DiskAt W g mb cb 4096 (.slice none 0 0) D5 → SlKept W kvv [(pr, kp)] → (∀ b off n c, kvv = .slice (some ⟨b, off, none⟩) n c → ¬ DkS g mb cb b) → Calls Tryz.prog 19 #[.pointer (some ⟨g, 0, none⟩), kvv] W fun e w' => e = .returned (.tuple #[]) ∧ DiskAt w' g mb cb 4096 (.slice none 0 0) D6 ∧ Fr (DkS g mb cb) W w') := by rw [hD6]; exact CK.out
  rw [← hD6] at ST RD
  rw [← hD7] at ST RD
  unfold Hd.v at W1 W2 W3
  dsimp only at W1 W2 W3
  have NE : Hid (Hd.mk kz rx 8 ≠ Hd.mk k rx 7 ∧ Hd.mk kz rx 8 ≠ Hd.mk ky ry 9) := ⟨fun h => by injection h with h; omega, fun h => by injection h with h; omega⟩
  have b1 : (kz == kz) = true := by simp
  have b2 : (kz != kz) = false := by simp
  have b3 : (k == kz) = false := by simp; omega
  have b4 : (k != kz) = true := by simp; omega
  have b5 : (ky == kz) = false := by simp; omega
  have b6 : (ky != kz) = true := by simp; omega
  have b7 : (k == k) = true := by simp
  have b8 : (k != k) = false := by simp
  have b9 : (ky != k) = true := by simp; omega
  have b10 : (ky == ky) = true := by simp
  have b11 : (ky != ky) = false := by simp
  have b12 : (rx == rx) = true := by simp
  have b13 : (rx != rx) = false := by simp
  have b14 : (ry == ry) = true := by simp
  have b15 : (ry != ry) = false := by simp
  have q1 : ¬ ((L.length : Int) < 1) := by omega
  have q2 : ¬ (2 : Int) < (L.length : Int) := by omega
  have HLEN := Lib.hid hlen
  have HALL := Lib.hid hall
  have HZ := Lib.hid hzL
  have HFULL := Lib.hid hfull
  have KP : Hid (kp = keep + 1 ∧ 0 ≤ keep ∧ keep < 256) := ⟨hkp, k0, k1⟩
  clear hk hkz hky hkp n0 n1 k0 k1 brx bry bpr PAR HPR gx gz gy rx47 rz47 ry47 hL hlen hzL hall hfull c0 c1 c2 E1 E2 E3 hg hmb hcb NW CK hL' hD0 hD1 hD2 hD3 hD4 hD5 hD6 hD7 g1 g2 g3 hw hw0 s0
  go_enter Tryz.func9, Tryz.ntmps9
  go_upto_region 1 with (fail)
  rw [← HW0.out]
  go_wp2_with fail
  refine NW'.out.mono ?_; rintro e w1 ⟨rfl, hd, hb1⟩
  have D1h : Hid (DiskAt w1 g mb cb 4096 (.slice none 0 0) D0) := ⟨hd.blk, hd.hm.mono (by omega), hd.hc.mono (by omega), hd.hk, hd.n0, hd.n1, hd.gm, hd.gc, hd.mc, hd.kn⟩
  have R1 := Lib.hid (blk_below R0.out hb1)
  have B1 := Lib.hid (bstep B0.out hb1)
  have nb : Hid (¬ DkS g mb cb w.heap.size) := by show ¬ _; rintro (h | h | h); exact bg.out.1 h; exact bg.out.2.1 h; exact bg.out.2.2 h
  clear hd hb1 NW'
  go_wp2_with fail
  go_loopw [10] (fun c wr => ∃ (i : Nat) (D : Dk), c = .int .u32 i ∧ ((i = 0 ∧ D = D0) ∨ (i = 1 ∧ D = D2) ∨ (i = 2 ∧ D = D4)) ∧ DiskAt wr g mb cb 4096 (.slice none 0 0) D ∧ wr.heap[w.heap.size]? = some (.cells #[.int .u8 r0, .int .u8 r1] 73 (0, 0)) ∧ Below w.heap.size w wr) (fun c _ => 2 - (intOf c).toNat)
  case atStart => exact ⟨0, D0, rfl, .inl ⟨rfl, rfl⟩, D1h.out, R1.out, B1.out⟩
  case round =>
    clear D1h R1 B1
    obtain ⟨i, D, rfl, hcase, hD, hR, hB⟩ := hrel
    have HD := Lib.hid hD; have HR := Lib.hid hR; have HBw := Lib.hid hB
    have hcr := blk_cell hR
    clear hD hR hB
    rcases hcase with ⟨rfl, rfl⟩ | ⟨rfl, rfl⟩ | ⟨rfl, rfl⟩
    · go_wp2_with fail
      refine (W1.out _ (HW.out.below HBw.out).f.et (HW.out.below HBw.out).f.tbl (HW.out.below HBw.out).d HD.out).mono ?_; rintro e w2 ⟨rfl, hd, hf⟩
      have HD2 := Lib.hid hd
      have HR2 := Lib.hid (blk_fr HR.out hf nb.out)
      have HB2 := Lib.hid (frb HBw.out hf lg.out lm.out lc.out)
      clear hd hf hcr HD HR HBw
      go_wp2_with fail
      refine (F1.out _ (HW.out.below HB2.out).d HD2.out).mono ?_; rintro e w3 ⟨rfl, hd, hf⟩
      have HD3 := Lib.hid hd
      have HR3 := Lib.hid (blk_fr HR2.out hf nb.out)
      have HB3 := Lib.hid (frb HB2.out hf lg.out lm.out lc.out)
      clear hd hf
      go_wp2_with fail
      go_roundw
      case rel => exact ⟨1, D2, rfl, .inr (.inl ⟨rfl, rfl⟩), HD3.out, HR3.out, HB3.out⟩
      case measure => simp [intOf]
    · go_wp2_with fail
      refine (W2.out _ (HW.out.below HBw.out).f.et (HW.out.below HBw.out).f.tbl (HW.out.below HBw.out).d HD.out).mono ?_; rintro e w2 ⟨rfl, hd, hf⟩
      have HD2 := Lib.hid hd
      have HR2 := Lib.hid (blk_fr HR.out hf nb.out)
      have HB2 := Lib.hid (frb HBw.out hf lg.out lm.out lc.out)
      clear hd hf hcr HD HR HBw
      go_wp2_with fail
      refine (F2.out _ (HW.out.below HB2.out).d HD2.out).mono ?_; rintro e w3 ⟨rfl, hd, hf⟩
      have HD3 := Lib.hid hd
      have HR3 := Lib.hid (blk_fr HR2.out hf nb.out)
      have HB3 := Lib.hid (frb HB2.out hf lg.out lm.out lc.out)
      clear hd hf
      go_wp2_with fail
      go_roundw
      case rel => exact ⟨2, D4, rfl, .inr (.inr ⟨rfl, rfl⟩), HD3.out, HR3.out, HB3.out⟩
      case measure => simp [intOf]
    · clear W1 W2 F1 F2
      have hfr := blk_frozen HR.out
      go_upto_region 11 with (fail)
      obtain ⟨y1, hy⟩ : ∃ y, y = wr.alloc (.cells #[.int .u32 k, .int .i64 rx, .int .u32 7] 54) := ⟨_, rfl⟩
      have By : Hid (Below wr.heap.size wr y1) := by show Below _ _ _; rw [hy]; exact below_a1 _ _
      have HD2 := Lib.hid (HD.out.below By.out)
      have HR2 := Lib.hid (blk_below HR.out By.out)
      have HB2 := Lib.hid (bstep HBw.out By.out)
      have A2 : Hid (y1.heap[wr.heap.size]? = some (.cells #[.int .u32 k, .int .i64 rx, .int .u32 7] 54 (0, 0))) := by show _ = _; rw [hy]; exact blk_new _ _
      obtain ⟨G1, hG1⟩ : ∃ G, G = wr.heap.size := ⟨_, rfl⟩
      have l1 : Hid (w.heap.size ≤ G1 ∧ ¬ DkS g mb cb G1) := by
        show _ ∧ ¬ _
        have := HBw.out.size; have := HD.out.lt; have := HD.out.hm.lt; have := HD.out.hc.lt
        exact ⟨by omega, by rintro (h | h | h) <;> omega⟩
      rw [← hG1] at A2 ⊢
      rw [← hy]
      clear hy hG1 By HD HR HBw hcr hfr
      have hcr := blk_cell HR2.out
      go_upto_region 12 with (fail)
      obtain ⟨y2, hy⟩ : ∃ y, y = y1.alloc (.cells #[.int .u32 kz, .int .i64 rx, .int .u32 8] 54) := ⟨_, rfl⟩
      have By : Hid (Below y1.heap.size y1 y2) := by show Below _ _ _; rw [hy]; exact below_a1 _ _
      have HD3 := Lib.hid (HD2.out.below By.out)
      have HR3 := Lib.hid (blk_below HR2.out By.out)
      have HB3 := Lib.hid (bstep HB2.out By.out)
      have A3 := Lib.hid (blk_below A2.out By.out)
      have Z3 : Hid (y2.heap[y1.heap.size]? = some (.cells #[.int .u32 kz, .int .i64 rx, .int .u32 8] 54 (0, 0))) := by show _ = _; rw [hy]; exact blk_new _ _
      obtain ⟨G2, hG2⟩ : ∃ G, G = y1.heap.size := ⟨_, rfl⟩
      have l2 : Hid (w.heap.size ≤ G2 ∧ ¬ DkS g mb cb G2) := by
        show _ ∧ ¬ _
        have := HB2.out.size; have := HD2.out.lt; have := HD2.out.hm.lt; have := HD2.out.hc.lt
        exact ⟨by omega, by rintro (h | h | h) <;> omega⟩
      rw [← hG2] at Z3 ⊢
      rw [← hy]
      clear hy hG2 By HD2 HR2 HB2 A2 hcr
      have hcr := blk_cell HR3.out
      go_upto_region 13 with (fail)
      obtain ⟨y3, hy⟩ : ∃ y, y = y2.alloc (.cells #[.int .u32 ky, .int .i64 ry, .int .u32 9] 54) := ⟨_, rfl⟩
      have By : Hid (Below y2.heap.size y2 y3) := by show Below _ _ _; rw [hy]; exact below_a1 _ _
      have HD4 := Lib.hid (HD3.out.below By.out)
      have HB4 := Lib.hid (bstep HB3.out By.out)
      have A4 := Lib.hid (blk_below A3.out By.out)
      have Z4 := Lib.hid (blk_below Z3.out By.out)
      have Y4 : Hid (y3.heap[y2.heap.size]? = some (.cells #[.int .u32 ky, .int .i64 ry, .int .u32 9] 54 (0, 0))) := by show _ = _; rw [hy]; exact blk_new _ _
      obtain ⟨G3, hG3⟩ : ∃ G, G = y2.heap.size := ⟨_, rfl⟩
      have l3 : Hid (w.heap.size ≤ G3 ∧ ¬ DkS g mb cb G3) := by
        show _ ∧ ¬ _
        have := HB3.out.size; have := HD3.out.lt; have := HD3.out.hm.lt; have := HD3.out.hc.lt
        exact ⟨by omega, by rintro (h | h | h) <;> omega⟩
      rw [← hG3] at Y4 ⊢
      rw [← hy]
      clear hy hG3 By HD3 HR3 HB3 A3 Z3 hcr
      have hcy := blk_cell Y4.out
      go_wp2_with fail
      refine (W3.out _ (HW.out.below HB4.out).f.et (HW.out.below HB4.out).f.tbl (HW.out.below HB4.out).d HD4.out).mono ?_; rintro e y4 ⟨rfl, hd, hf⟩
      have HD5 := Lib.hid hd
      have HB5 := Lib.hid (frb HB4.out hf lg.out lm.out lc.out)
      have A5 := Lib.hid (blk_fr A4.out hf l1.out.2)
      have Z5 := Lib.hid (blk_fr Z4.out hf l2.out.2)
      have Y5 := Lib.hid (blk_fr Y4.out hf l3.out.2)
      clear hd hf hcy HD4 HB4 A4 Z4 Y4 W3
      have hcy := blk_cell Y5.out
      go_wp2_with fail
      obtain ⟨y5, hy⟩ : ∃ y, y = y4.alloc (.cells #[.int .i64 pr, .int .i64 kp] 76) := ⟨_, rfl⟩
      have By : Hid (Below y4.heap.size y4 y5) := by show Below _ _ _; rw [hy]; exact below_a1 _ _
      have HD6 := Lib.hid (HD5.out.below By.out)
      have HB6 := Lib.hid (bstep HB5.out By.out)
      have A6 := Lib.hid (blk_below A5.out By.out)
      have Z6 := Lib.hid (blk_below Z5.out By.out)
      have Y6 := Lib.hid (blk_below Y5.out By.out)
      have K6 : Hid (SlKept y5 (.slice (some ⟨y4.heap.size, 0, none⟩) 1 1) [(pr, kp)]) := by
        have hb : y5.heap[y4.heap.size]? = some (.cells #[.int .i64 pr, .int .i64 kp] 76 (0, 0)) := by rw [hy]; exact blk_new _ _
        have hc := blk_cell hb
        refine .inr ⟨_, 0, 1, rfl, Nat.le_refl _, ⟨fun _ => blk_lt hb, fun i hi => ?_, fun i hi => ?_⟩⟩ <;>
          (have : i = 0 := by simpa using hi
           subst this
           rw [hc]; rfl)
      have l6 : Hid (¬ DkS g mb cb y4.heap.size) := by
        show ¬ _
        have := HD5.out.lt; have := HD5.out.hm.lt; have := HD5.out.hc.lt
        rintro (h | h | h) <;> omega
      rw [← hy]
      clear hy By HD5 HB5 A5 Z5 Y5 hcy
      refine (CK2.out _ _ HD6.out K6.out (fun b off n c e => by injection e with e _ _; injection e with e; injection e with e _ _; rw [← e]; exact l6.out)).mono ?_; rintro e y6 ⟨rfl, hd, hf⟩
      have HD7 := Lib.hid hd
      have HB7 := Lib.hid (frb HB6.out hf lg.out lm.out lc.out)
      have A7 := Lib.hid (blk_fr A6.out hf l1.out.2)
      have Z7 := Lib.hid (blk_fr Z6.out hf l2.out.2)
      have Y7 := Lib.hid (blk_fr Y6.out hf l3.out.2)
      clear hd hf HD6 HB6 A6 Z6 Y6 K6 CK2
      go_wp2_with fail
      refine (ST.out _ HD7.out).mono ?_; rintro e y7 ⟨rfl, hd, hf⟩
      have hf := hf.mono (T := DkS g mb cb) (fun _ h => .inl h)
      have HD8 := Lib.hid hd
      have HB8 := Lib.hid (frb HB7.out hf lg.out lm.out lc.out)
      have A8 := Lib.hid (blk_fr A7.out hf l1.out.2)
      have Z8 := Lib.hid (blk_fr Z7.out hf l2.out.2)
      have Y8 := Lib.hid (blk_fr Y7.out hf l3.out.2)
      clear hd hf HD7 HB7 A7 Z7 Y7 ST
      go_wp2_with fail
      refine (RD.out _ (HW.out.below HB8.out).f (HW.out.below HB8.out).d HD8.out).mono ?_; rintro e y8 ⟨v, rfl, hv, hb⟩
      have HB9 := Lib.hid (bstep HB8.out hb)
      have A9 := Lib.hid (blk_below A8.out hb)
      have Z9 := Lib.hid (blk_below Z8.out hb)
      have Y9 := Lib.hid (blk_below Y8.out hb)
      obtain ⟨G, off, cap, rfl, hat⟩ : ∃ g off cap, v = .slice (some ⟨g, off, none⟩) L.length cap ∧ HdsAt y8 g off L := by
        rcases hv with ⟨_, h⟩ | ⟨g, off, cap, e, _, h⟩
        · have h : L = [] := h
          have := HLEN.out.1; rw [h] at this; simp at this
        · exact ⟨g, off, cap, e, h⟩
      have AT9 := Lib.hid hat
      clear hb hv hat HD8 HB8 A8 Z8 Y8 RD
      go_wp2_with fail
      go_loopw [16, 17] (fun b c wr => ∃ i : Nat, i ≤ L.length ∧ b = .bool (decide (Hd.mk kz rx 8 ∈ L.take i)) ∧ c = .int .i64 i ∧ Below y8.heap.size y8 wr) (fun _ c _ => L.length - (intOf c).toNat)
      case atStart => exact ⟨0, Nat.zero_le _, by simp, rfl, Below.refl _ _⟩
      case round =>
        obtain ⟨i, hik, rfl, rfl, hB⟩ := hrel
        have BW := Lib.hid hB
        clear hB
        have hcx := blk_cell (blk_below A9.out BW.out)
        have hcz := blk_cell (blk_below Z9.out BW.out)
        have hcw := blk_cell (blk_below Y9.out BW.out)
        by_cases hlt : i < L.length
        · have hi : (i : Int) < (L.length : Int) := by omega
          have hi0 : (0 : Int) ≤ (i : Int) := by omega
          have AT := Lib.hid (AT9.out.below BW.out)
          rcases HALL.out L[i] (List.getElem_mem hlt) with hh | hh | hh
          · -- z
            have c0 : wr.cell? ⟨G, off + i * 3, none⟩ = some (.int .u32 kz) := by rw [AT.out.ce i hlt, hh]
            have c1 : wr.cell? ⟨G, off + i * 3 + 1, none⟩ = some (.int .i64 rx) := by rw [AT.out.cr i hlt, hh]
            have c2 : wr.cell? ⟨G, off + i * 3 + 2, none⟩ = some (.int .u32 8) := by rw [AT.out.cf i hlt, hh]
            have SN : Hid (decide (Hd.mk kz rx 8 ∈ L.take (i + 1)) = true) := by
              show _ = _
              rw [take_in hlt, hh]
              rw [decide_eq_true (p := Hd.mk kz rx 8 = Hd.mk kz rx 8) rfl, Bool.or_true]
            clear hh AT hlt
            cases hs : decide (Hd.mk kz rx 8 ∈ L.take i)
            · have SN2 : Hid (decide (Hd.mk kz rx 8 ∈ L.take (i + 1)) = true) := by show _ = _; rw [SN.out]
              clear hs SN
              go_wp2_with fail
              go_quiet (fail)
              go_wp2_with fail
              go_quiet (fail)
              go_wp2_with fail
              go_roundw
              case rel => exact ⟨i + 1, by omega, by rw [SN2.out], by go_num, bstep BW.out (by exact ⟨rfl, rfl, rfl, Nat.le_refl _, fun _ _ => rfl⟩)⟩
              case measure => simp [intOf]; omega
            · have SN2 : Hid (decide (Hd.mk kz rx 8 ∈ L.take (i + 1)) = true) := by show _ = _; rw [SN.out]
              clear hs SN
              go_wp2_with fail
              go_quiet (fail)
              go_wp2_with fail
              go_quiet (fail)
              go_wp2_with fail
              go_roundw
              case rel => exact ⟨i + 1, by omega, by rw [SN2.out], by go_num, bstep BW.out (by exact ⟨rfl, rfl, rfl, Nat.le_refl _, fun _ _ => rfl⟩)⟩
              case measure => simp [intOf]; omega
          · -- x
            have c0 : wr.cell? ⟨G, off + i * 3, none⟩ = some (.int .u32 k) := by rw [AT.out.ce i hlt, hh]
            have c1 : wr.cell? ⟨G, off + i * 3 + 1, none⟩ = some (.int .i64 rx) := by rw [AT.out.cr i hlt, hh]
            have c2 : wr.cell? ⟨G, off + i * 3 + 2, none⟩ = some (.int .u32 7) := by rw [AT.out.cf i hlt, hh]
            have SN : Hid (decide (Hd.mk kz rx 8 ∈ L.take (i + 1)) = decide (Hd.mk kz rx 8 ∈ L.take i)) := by
              show _ = _
              rw [take_in hlt, hh]
              rw [decide_eq_false NE.out.1, Bool.or_false]
            clear hh AT hlt
            cases hs : decide (Hd.mk kz rx 8 ∈ L.take i)
            · have SN2 : Hid (decide (Hd.mk kz rx 8 ∈ L.take (i + 1)) = false) := by show _ = _; rw [SN.out, hs]
              clear hs SN
              go_wp2_with fail
              go_quiet (fail)
              go_wp2_with fail
              go_quiet (fail)
              go_wp2_with fail
              go_roundw
              case rel => exact ⟨i + 1, by omega, by rw [SN2.out], by go_num, bstep BW.out (by exact ⟨rfl, rfl, rfl, Nat.le_refl _, fun _ _ => rfl⟩)⟩
              case measure => simp [intOf]; omega
            · have SN2 : Hid (decide (Hd.mk kz rx 8 ∈ L.take (i + 1)) = true) := by show _ = _; rw [SN.out, hs]
              clear hs SN
              go_wp2_with fail
              go_quiet (fail)
              go_wp2_with fail
              go_quiet (fail)
              go_wp2_with fail
              go_roundw
              case rel => exact ⟨i + 1, by omega, by rw [SN2.out], by go_num, bstep BW.out (by exact ⟨rfl, rfl, rfl, Nat.le_refl _, fun _ _ => rfl⟩)⟩
              case measure => simp [intOf]; omega
          · -- y
            have c0 : wr.cell? ⟨G, off + i * 3, none⟩ = some (.int .u32 ky) := by rw [AT.out.ce i hlt, hh]
            have c1 : wr.cell? ⟨G, off + i * 3 + 1, none⟩ = some (.int .i64 ry) := by rw [AT.out.cr i hlt, hh]
            have c2 : wr.cell? ⟨G, off + i * 3 + 2, none⟩ = some (.int .u32 9) := by rw [AT.out.cf i hlt, hh]
            have SN : Hid (decide (Hd.mk kz rx 8 ∈ L.take (i + 1)) = decide (Hd.mk kz rx 8 ∈ L.take i)) := by
              show _ = _
              rw [take_in hlt, hh]
              rw [decide_eq_false NE.out.2, Bool.or_false]
            clear hh AT hlt
            cases hs : decide (Hd.mk kz rx 8 ∈ L.take i)
            · have SN2 : Hid (decide (Hd.mk kz rx 8 ∈ L.take (i + 1)) = false) := by show _ = _; rw [SN.out, hs]
              clear hs SN
              go_wp2_with fail
              go_quiet (fail)
              go_wp2_with fail
              go_quiet (fail)
              go_wp2_with fail
              go_roundw
              case rel => exact ⟨i + 1, by omega, by rw [SN2.out], by go_num, bstep BW.out (by exact ⟨rfl, rfl, rfl, Nat.le_refl _, fun _ _ => rfl⟩)⟩
              case measure => simp [intOf]; omega
            · have SN2 : Hid (decide (Hd.mk kz rx 8 ∈ L.take (i + 1)) = true) := by show _ = _; rw [SN.out, hs]
              clear hs SN
              go_wp2_with fail
              go_quiet (fail)
              go_wp2_with fail
              go_quiet (fail)
              go_wp2_with fail
              go_roundw
              case rel => exact ⟨i + 1, by omega, by rw [SN2.out], by go_num, bstep BW.out (by exact ⟨rfl, rfl, rfl, Nat.le_refl _, fun _ _ => rfl⟩)⟩
              case measure => simp [intOf]; omega
        · have hi : ¬ (i : Int) < (L.length : Int) := by omega
          have e1 : i = L.length := by omega
          have e2 : decide (Hd.mk kz rx 8 ∈ L.take i) = true := by rw [e1, List.take_length]; exact decide_eq_true HZ.out
          have AT := Lib.hid (AT9.out.below BW.out)
          rw [e2]
          clear e1 e2 hlt hcx hcz
          by_cases hk : kp < 256
          · have q5 : kp < 256 := hk
            clear hk hcw AT
            go_upto_region 27 with (fail)
            have BWr := Lib.hid (bstep HB9.out BW.out)
            have BN : Hid (Below wr.heap.size wr wr.drew) := ⟨rfl, rfl, rfl, Nat.le_refl _, fun _ _ => rfl⟩
            refine wp_region_noPanic ?_
            refine wp_region_held_drew (S := fun _ => True) (by kernel_rfl) trivial (fun _ => ?_)
            refine wpAnyH_take (i := 0) (oi := { dst := some 145, op := Op.move (Operand.tmp 16), type := 4, pos := "law.go:133", after := #[], guard := none }) (v := ?_) rfl (by kernel_rfl) (by kernel_rfl) (by kernel_rfl) (fun _ _ _ h => h) (Or.inl ⟨by rfl, ?_⟩) trivial ?_
            rotate_left
            · intro w hSw
              go_simp
              try with_reducible rfl
            try simp only [Act.put, List.setIfInBounds_toArray, List.set_cons_zero, List.set_cons_succ]
            refine wpAnyH_take (i := 1) (oi := { dst := some 146, op := Op.move (Operand.tmp 145), type := 4, pos := "law.go:133", after := #[{ on := 0, ground := Ground.data }], guard := none }) (v := ?_) rfl (by kernel_rfl) (by kernel_rfl) (by kernel_rfl) (fun _ _ _ h => h) (Or.inl ⟨by rfl, ?_⟩) trivial ?_
            rotate_left
            · intro w hSw
              go_simp
              try with_reducible rfl
            try simp only [Act.put, List.setIfInBounds_toArray, List.set_cons_zero, List.set_cons_succ]
            refine wpAnyH_take (i := 2) (oi := { dst := some 147, op := Op.move (Operand.tmp 1), type := 5, pos := "law.go:133", after := #[{ on := 1, ground := Ground.guard }], guard := some (1, true) }) (v := ?_) rfl (by kernel_rfl) (by kernel_rfl) (by kernel_rfl) (fun _ _ _ h => h) (Or.inl ⟨by rfl, ?_⟩) trivial ?_
            rotate_left
            · intro w hSw
              go_simp
              try with_reducible rfl
            try simp only [Act.put, List.setIfInBounds_toArray, List.set_cons_zero, List.set_cons_succ]
            refine wpAnyH_take (i := 3) (oi := { dst := some 148, op := Op.convert 5 3 (Operand.tmp 147), type := 3, pos := "law.go:133", after := #[{ on := 2, ground := Ground.data }, { on := 1, ground := Ground.guard }], guard := some (1, true) }) (v := ?_) rfl (by kernel_rfl) (by kernel_rfl) (by kernel_rfl) (fun _ _ _ h => h) (Or.inl ⟨by rfl, ?_⟩) trivial ?_
            rotate_left
            · intro w hSw
              go_simp
              try with_reducible rfl
            try simp only [Act.put, List.setIfInBounds_toArray, List.set_cons_zero, List.set_cons_succ]
            refine wpAnyH_take (i := 4) (oi := { dst := some 149, op := Op.binOp BinOp.add 3 (Operand.tmp 148) (Operand.const (Value.int IntKind.i64 1)) 3, type := 3, pos := "law.go:133", after := #[{ on := 3, ground := Ground.data }, { on := 1, ground := Ground.guard }], guard := some (1, true) }) (v := ?_) rfl (by kernel_rfl) (by kernel_rfl) (by kernel_rfl) (fun _ _ _ h => h) (Or.inl ⟨by rfl, ?_⟩) trivial ?_
            rotate_left
            · intro w hSw
              go_simp
              try with_reducible rfl
            try simp only [Act.put, List.setIfInBounds_toArray, List.set_cons_zero, List.set_cons_succ]
            refine wpAnyH_take (i := 5) (oi := { dst := some 150, op := Op.binOp BinOp.lss 3 (Operand.tmp 149) (Operand.const (Value.int IntKind.i64 256)) 3, type := 4, pos := "law.go:133", after := #[{ on := 4, ground := Ground.data }, { on := 1, ground := Ground.guard }], guard := some (1, true) }) (v := ?_) rfl (by kernel_rfl) (by kernel_rfl) (by kernel_rfl) (fun _ _ _ h => h) (Or.inl ⟨by rfl, ?_⟩) trivial ?_
            rotate_left
            · intro w hSw
              go_simp
              try with_reducible rfl
            try simp only [Act.put, List.setIfInBounds_toArray, List.set_cons_zero, List.set_cons_succ]
            refine wpAnyH_take (i := 6) (oi := { dst := some 151, op := Op.move (Operand.tmp 150), type := 4, pos := "law.go:133", after := #[{ on := 5, ground := Ground.data }, { on := 1, ground := Ground.chain }, { on := 1, ground := Ground.guard }], guard := some (1, true) }) (v := ?_) rfl (by kernel_rfl) (by kernel_rfl) (by kernel_rfl) (fun _ _ _ h => h) (Or.inl ⟨by rfl, ?_⟩) trivial ?_
            rotate_left
            · intro w hSw
              go_simp
              try with_reducible rfl
            try simp only [Act.put, List.setIfInBounds_toArray, List.set_cons_zero, List.set_cons_succ]
            refine wpAnyH_take (i := 7) (oi := { dst := some 152, op := Op.move (Operand.tmp 14), type := 77, pos := "law.go:133", after := #[{ on := 6, ground := Ground.guard }], guard := some (6, false) }) (v := undef) rfl (by kernel_rfl) (by kernel_rfl) (by kernel_rfl) (fun _ _ _ h => h) (Or.inr ⟨by rfl, rfl⟩) trivial ?_
            try simp only [Act.put, List.setIfInBounds_toArray, List.set_cons_zero, List.set_cons_succ]
            refine wpAnyH_take (i := 8) (oi := { dst := some 153, op := Op.indexAddr 77 (Operand.tmp 152) (Operand.const (Value.int IntKind.i64 0)), type := 0, pos := "law.go:133", after := #[{ on := 7, ground := Ground.data }, { on := 6, ground := Ground.guard }], guard := some (6, false) }) (v := undef) rfl (by kernel_rfl) (by kernel_rfl) (by kernel_rfl) (fun _ _ _ h => h) (Or.inr ⟨by rfl, rfl⟩) trivial ?_
            try simp only [Act.put, List.setIfInBounds_toArray, List.set_cons_zero, List.set_cons_succ]
            refine wpAnyH_take (i := 9) (oi := { dst := some 154, op := Op.load 54 (Operand.tmp 153), type := 54, pos := "law.go:133", after := #[{ on := 8, ground := Ground.data }, { on := 6, ground := Ground.guard }], guard := some (6, false) }) (v := undef) rfl (by kernel_rfl) (by kernel_rfl) (by kernel_rfl) (fun _ _ _ h => h) (Or.inr ⟨by rfl, rfl⟩) trivial ?_
            try simp only [Act.put, List.setIfInBounds_toArray, List.set_cons_zero, List.set_cons_succ]
            refine wpAnyH_take (i := 10) (oi := { dst := some 155, op := Op.load 54 (Operand.tmp 13), type := 54, pos := "law.go:133", after := #[{ on := 6, ground := Ground.guard }], guard := some (6, false) }) (v := undef) rfl (by kernel_rfl) (by kernel_rfl) (by kernel_rfl) (fun _ _ _ h => h) (Or.inr ⟨by rfl, rfl⟩) trivial ?_
            try simp only [Act.put, List.setIfInBounds_toArray, List.set_cons_zero, List.set_cons_succ]
            refine wpAnyH_take (i := 11) (oi := { dst := some 156, op := Op.binOp BinOp.eql 54 (Operand.tmp 154) (Operand.tmp 155) 54, type := 4, pos := "law.go:133", after := #[{ on := 9, ground := Ground.data }, { on := 10, ground := Ground.data }, { on := 6, ground := Ground.guard }], guard := some (6, false) }) (v := undef) rfl (by kernel_rfl) (by kernel_rfl) (by kernel_rfl) (fun _ _ _ h => h) (Or.inr ⟨by rfl, rfl⟩) trivial ?_
            try simp only [Act.put, List.setIfInBounds_toArray, List.set_cons_zero, List.set_cons_succ]
            refine wpAnyH_take (i := 12) (oi := { dst := some 157, op := Op.pick (Operand.tmp 151) (Operand.const (Value.bool true)) (Operand.tmp 156), type := 4, pos := "law.go:133", after := #[{ on := 6, ground := Ground.data }, { on := 11, ground := Ground.data }, { on := 1, ground := Ground.guard }], guard := some (1, true) }) (v := ?_) rfl (by kernel_rfl) (by kernel_rfl) (by kernel_rfl) (fun _ _ _ h => h) (Or.inl ⟨by rfl, ?_⟩) trivial ?_
            rotate_left
            · intro w hSw
              go_simp
              try with_reducible rfl
            try simp only [Act.put, List.setIfInBounds_toArray, List.set_cons_zero, List.set_cons_succ]
            refine wpAnyH_take (i := 13) (oi := { dst := some 158, op := Op.pick (Operand.tmp 146) (Operand.tmp 157) (Operand.const (Value.bool false)), type := 4, pos := "law.go:133", after := #[{ on := 1, ground := Ground.data }, { on := 12, ground := Ground.data }], guard := none }) (v := ?_) rfl (by kernel_rfl) (by kernel_rfl) (by kernel_rfl) (fun _ _ _ h => h) (Or.inl ⟨by rfl, ?_⟩) trivial ?_
            rotate_left
            · intro w hSw
              go_simp
              try with_reducible rfl
            try simp only [Act.put, List.setIfInBounds_toArray, List.set_cons_zero, List.set_cons_succ]
            refine wpAnyH_take (i := 14) (oi := { dst := some 159, op := Op.move (Operand.tmp 158), type := 4, pos := "law.go:133", after := #[{ on := 13, ground := Ground.data }, { on := 6, ground := Ground.chain }], guard := none }) (v := ?_) rfl (by kernel_rfl) (by kernel_rfl) (by kernel_rfl) (fun _ _ _ h => h) (Or.inl ⟨by rfl, ?_⟩) trivial ?_
            rotate_left
            · intro w hSw
              go_simp
              try with_reducible rfl
            try simp only [Act.put, List.setIfInBounds_toArray, List.set_cons_zero, List.set_cons_succ]
            refine wpAnyH_ready (rs := [15]) (by kernel_rfl) (by simp) ?_
            refine AllReadyH.cons (o := { dst := some 160, op := Op.call { callee := Callee.value (Operand.func 28), args := #[], argTypes := #[] }, type := 4, pos := "law.go:133", after := #[{ on := 14, ground := Ground.chain }, { on := 14, ground := Ground.guard }], guard := some (14, true) }) rfl (fun K hK => ?_) AllReadyH.nil
            go_simp
            go_at_call 28
            refine (WK.out _ ((HW.out.below BWr.out).below BN.out)).mono ?_
            rintro z y ⟨rfl, hy⟩
            have BN := Lib.hid (bstep BN.out hy)
            clear hy
            refine hK.out _ _ trivial (fun _ => ?_)
            clear hK K
            try simp only [Act.put, List.setIfInBounds_toArray, List.set_cons_zero, List.set_cons_succ]
            refine wpAnyH_take (i := 16) (oi := { dst := some 161, op := Op.pick (Operand.tmp 159) (Operand.tmp 160) (Operand.const (Value.bool false)), type := 4, pos := "law.go:133", after := #[{ on := 14, ground := Ground.data }, { on := 15, ground := Ground.data }], guard := none }) (v := ?_) rfl (by kernel_rfl) (by kernel_rfl) (by kernel_rfl) (fun _ _ _ h => h) (Or.inl ⟨by rfl, ?_⟩) trivial ?_
            rotate_left
            · intro w hSw
              go_simp
              try with_reducible rfl
            try simp only [Act.put, List.setIfInBounds_toArray, List.set_cons_zero, List.set_cons_succ]
            refine wpAnyH_take (i := 17) (oi := { dst := some 6, op := Op.assign (Operand.tmp 161), type := 4, pos := "law.go:133", after := #[{ on := 16, ground := Ground.data }, { on := 15, ground := Ground.chain }, { on := 0, ground := Ground.phase }, { on := 1, ground := Ground.phase }, { on := 2, ground := Ground.phase }, { on := 3, ground := Ground.phase }, { on := 4, ground := Ground.phase }, { on := 5, ground := Ground.phase }, { on := 6, ground := Ground.phase }, { on := 7, ground := Ground.phase }, { on := 8, ground := Ground.phase }, { on := 9, ground := Ground.phase }, { on := 10, ground := Ground.phase }, { on := 11, ground := Ground.phase }, { on := 12, ground := Ground.phase }, { on := 13, ground := Ground.phase }, { on := 14, ground := Ground.phase }, { on := 15, ground := Ground.phase }, { on := 16, ground := Ground.phase }], guard := none }) (v := ?_) rfl (by kernel_rfl) (by kernel_rfl) (by kernel_rfl) (fun _ _ _ h => h) (Or.inl ⟨by rfl, ?_⟩) trivial ?_
            rotate_left
            · intro w hSw
              go_simp
              try with_reducible rfl
            try simp only [Act.put, List.setIfInBounds_toArray, List.set_cons_zero, List.set_cons_succ]
            refine wpAnyH_done (by kernel_rfl) ?_ _
            refine NoPanic.normal ?_
            go_wp2_with fail
            go_ret
            exact ⟨rfl, bstep BWr.out BN.out⟩
          · have q5 : ¬ kp < 256 := hk
            have hL : L = [Hd.mk ky ry 9, Hd.mk kz rx 8] := HFULL.out (by have := KP.out; omega)
            have d0 : wr.cell? ⟨G, off, none⟩ = some (.int .u32 ky) := by
              have := AT.out.ce 0 (by rw [hL]; simp)
              simpa [hL] using this
            have d1 : wr.cell? ⟨G, off + 1, none⟩ = some (.int .i64 ry) := by
              have := AT.out.cr 0 (by rw [hL]; simp)
              simpa [hL] using this
            have d2 : wr.cell? ⟨G, off + 2, none⟩ = some (.int .u32 9) := by
              have := AT.out.cf 0 (by rw [hL]; simp)
              simpa [hL] using this
            have q6 : (0 : Int) < (L.length : Int) := by have := HLEN.out; omega
            have q7 : 0 < L.length := by have := HLEN.out; omega
            have q8 : L ≠ [] := by intro e; rw [e] at q7; exact absurd q7 (by decide)
            clear hk AT hL
            have BWr := Lib.hid (bstep HB9.out BW.out)
            have SOf : Hid (∀ W, Below wr.heap.size wr W → W.cell? ⟨G, off, none⟩ = some (.int .u32 ky) ∧ W.cell? ⟨G, off + 1, none⟩ = some (.int .i64 ry) ∧ W.cell? ⟨G, off + 2, none⟩ = some (.int .u32 9) ∧ W.cell? ⟨G3, 0, none⟩ = some (.int .u32 ky) ∧ W.cell? ⟨G3, 1, none⟩ = some (.int .i64 ry) ∧ W.cell? ⟨G3, 2, none⟩ = some (.int .u32 9)) := fun W h => ⟨dk_cell d0 h, dk_cell d1 h, dk_cell d2 h, dk_cell (hcw 0) h, dk_cell (hcw 1) h, dk_cell (hcw 2) h⟩
            go_upto_region 27 with (fail)
            have BN : Hid (Below wr.heap.size wr wr.drew) := ⟨rfl, rfl, rfl, Nat.le_refl _, fun _ _ => rfl⟩
            have S0 := SOf.out _ BN.out
            clear d0 d1 d2 hcw
            go_region_held3 (fun w' => w'.cell? ⟨G, off, none⟩ = some (.int .u32 ky) ∧ w'.cell? ⟨G, off + 1, none⟩ = some (.int .i64 ry) ∧ w'.cell? ⟨G, off + 2, none⟩ = some (.int .u32 9) ∧ w'.cell? ⟨G3, 0, none⟩ = some (.int .u32 ky) ∧ w'.cell? ⟨G3, 1, none⟩ = some (.int .i64 ry) ∧ w'.cell? ⟨G3, 2, none⟩ = some (.int .u32 9)) (first | exact S0 | assumption)
              (first
                | (go_at_call 28; refine (WK.out _ ((HW.out.below BWr.out).below BN.out)).mono ?_; rintro z y ⟨rfl, hy⟩; have BN := Lib.hid (bstep BN.out hy); have S0 := SOf.out _ BN.out; clear hy))
            go_wp2_with fail
            go_ret
            exact ⟨rfl, bstep BWr.out BN.out⟩
end Go.Proofs.YtoebldemcgahnaaGreatDoor
