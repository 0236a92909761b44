/- Disks (layer 19): the law DiskKeeps. -/
import Derived.Test.YtikgfkghfbfccaaDoorDz
import Derived.Test.YtikgfkghfbfccaaDoorDv
import Derived.BigQuiet
namespace Go.Proofs.YtikgfkghfbfccaaDoor
open Go.RowKit
theorem keptN_drop {l : List (Int × Int)} {i : Int} {k : Nat} (hk : k < l.length) : keptN (l.drop k) i = if l[k].1 = i then some (min (max l[k].2 0) 256).toNat else keptN (l.drop (k + 1)) i := by
  rw [List.drop_eq_getElem_cons hk]
  unfold keptN
  rw [List.find?_cons]
  by_cases h : l[k].1 = i
  · have : (l[k].1 == i) = true := by rw [beq_iff_eq]; exact h
    rw [this, if_pos h]; rfl
  · have : (l[k].1 == i) = false := by rw [beq_eq_false_iff_ne]; exact h
    rw [this, if_neg h]
/-- What is in the cache, what is durable. -/
def CaP (d : Dk) (f g : Nat → ByteArray) : Prop := ∀ j : Nat, j < 8 → d.at (j : Int) = f j ∧ (f j).size = 256 ∧ ((g j = ⟨#[]⟩ ∧ d.c (j : Int) = none) ∨ (d.c (j : Int) = some (g j) ∧ (g j).size = 256))
theorem CaP.put {d : Dk} {f g : Nat → ByteArray} (h : CaP d f g) {r : Nat} {S : ByteArray} (hS : S.size = 256) : CaP (d.put (r : Int) S) f (upd8 g r S) := fun j hj => by
  obtain ⟨h1, h2, h3⟩ := h j hj
  refine ⟨h1, h2, ?_⟩
  unfold upd8 Dk.put setF
  by_cases e : j = r
  · subst e; right; exact ⟨by simp, by rw [if_pos rfl]; exact hS⟩
  · have : ¬ (j : Int) = (r : Int) := by omega
    rw [if_neg e]
    dsimp only
    rw [if_neg this]; exact h3
theorem CaP.of_pour {d : Dk} {f : Nat → ByteArray} (h : ∀ j : Nat, j < 8 → d.tell (j : Int) = f j ∧ (f j).size = 256) : CaP d.pour f (fun _ => ⟨#[]⟩) := fun j hj =>
  ⟨by rw [pour_at]; exact (h j hj).1, (h j hj).2, .inl ⟨rfl, rfl⟩⟩
theorem start_at (d : Dk) (i : Int) : d.start.at i = d.at i := rfl
theorem crash_tell {d : Dk} (h : d.dead = false) (l : List (Int × Int)) (i : Int) : (d.crash l).start.tell i = d.fat l i := by
  unfold Dk.tell
  rw [start_at, crash_at h]
  unfold Dk.crash; rw [if_neg (by rw [h]; decide)]; rfl
set_option maxRecDepth 100000 in
set_option maxHeartbeats 8000000 in
theorem law19_DiskKeeps (va : Value) (A : List Int) (vb : Value) (Bl : List Int) (vk : Value) (l : List (Int × Int)) (aD aA : Addr) (w : World) (hla : A.length ≤ 9223372036854775807) (hA : ∀ x ∈ A, 0 ≤ x ∧ x < 256) (hva : SlU8 w va A) (hlb : Bl.length ≤ 9223372036854775807) (hB : ∀ x ∈ Bl, 0 ≤ x ∧ x < 256) (hvb : SlU8 w vb Bl) (hlk : l.length ≤ 9223372036854775807) (_htk : ∀ x ∈ l, wf64 x.1 ∧ wf64 x.2) (hvk : SlKept w vk l) (hw : DkW w aD aA) :
    Calls Tryd.prog 4 #[va, vb, vk] w fun e w' => e = .returned (.bool true) ∧ Below w.heap.size w w' := by
  have HW := Lib.hid hw
  have WK := Lib.hid (fun W h => wakes19 aD aA W h)
  have HVA := Lib.hid hva
  have HVB := Lib.hid hvb
  have HVK := Lib.hid hvk
  obtain ⟨pa, ca, rfl⟩ := hva.form
  obtain ⟨pb, cb', rfl⟩ := hvb.form
  obtain ⟨pk, ck, rfl⟩ := hvk.form
  have HA := Lib.hid hA
  have HBl := Lib.hid hB
  clear hw hva hvb hvk hA hB _htk
  have NW := Lib.hid (disk_New 8 (by omega) (by omega) w)
  obtain ⟨g, hg⟩ : ∃ g, g = w.heap.size + 2 := ⟨_, rfl⟩
  obtain ⟨cb, hcb⟩ : ∃ cb, cb = w.heap.size + 1 := ⟨_, rfl⟩
  obtain ⟨mb, hmb⟩ : ∃ mb, mb = w.heap.size := ⟨_, rfl⟩
  have lg : Hid (w.heap.size ≤ g) := by show _ ≤ _; omega
  have lm : Hid (w.heap.size ≤ mb) := by show _ ≤ _; omega
  have lc : Hid (w.heap.size ≤ cb) := by show _ ≤ _; omega
  rw [← hg, ← hcb] at NW
  have NW' : Hid (Calls Tryd.prog 16 #[.int .i64 8] w fun e w' => e = .returned (.tuple #[.pointer (some ⟨g, 0, none⟩), .int .i64 0]) ∧ DiskAt w' g mb cb 0 (.slice none 0 0) (Dk.new 8) ∧ Below w.heap.size w w') := by rw [hmb]; exact NW.out
  clear NW hg hcb hmb
  have Z2 := Lib.hid (fun W => keep_Zeros' 256 (by omega) W)
  obtain ⟨d0, hd0⟩ : ∃ d, d = Dk.new 8 := ⟨_, rfl⟩
  have C0 : Hid (d0.Calm 8) := by show Dk.Calm _ _; rw [hd0]; exact calm_new (by omega) (by omega)
  have T0 : Hid (∀ j, d0.tell j = nil256) := by intro j; rw [hd0]; rfl
  rw [← hd0] at NW'
  have hZ : ofL (List.replicate 256 0) = nil256 := rfl
  rw [hZ] at Z2
  clear hd0 hZ
  go_enter Tryd.func4, Tryd.ntmps4
  go_wp2_with fail
  refine NW'.out.mono ?_; rintro e w1 ⟨rfl, hd, hb1⟩
  have D1 : Hid (DiskAt w1 g mb cb 4096 (.slice none 0 0) d0) := ⟨hd.blk, hd.hm.mono (by omega), hd.hc.mono (by omega), hd.hk, hd.n0, hd.n1, hd.gm, hd.gc, hd.mc, hd.kn⟩
  have B1 := Lib.hid hb1
  clear hd hb1 NW'
  by_cases hna : 100 < A.length
  · have q1 : (100 : Int) < (A.length : Int) := by omega
    clear hna
    go_wp2_with fail
    refine (WK.out _ (HW.out.below B1.out)).mono ?_; rintro e y ⟨rfl, hby⟩
    have By := Lib.hid (bstep B1.out hby)
    clear hby
    go_wp2_with fail
    go_ret
    exact ⟨rfl, By.out⟩
  have q1 : ¬ (100 : Int) < (A.length : Int) := by omega
  by_cases hnb : 100 < Bl.length
  · have q2 : (100 : Int) < (Bl.length : Int) := by omega
    clear hna hnb
    go_wp2_with fail
    refine (WK.out _ (HW.out.below B1.out)).mono ?_; rintro e y ⟨rfl, hby⟩
    have By := Lib.hid (bstep B1.out hby)
    clear hby
    go_wp2_with fail
    go_ret
    exact ⟨rfl, By.out⟩
  have q2 : ¬ (100 : Int) < (Bl.length : Int) := by omega
  by_cases hnk : 50 < l.length
  · have q3 : (50 : Int) < (l.length : Int) := by omega
    clear hna hnb hnk
    go_wp2_with fail
    refine (WK.out _ (HW.out.below B1.out)).mono ?_; rintro e y ⟨rfl, hby⟩
    have By := Lib.hid (bstep B1.out hby)
    clear hby
    go_wp2_with fail
    go_ret
    exact ⟨rfl, By.out⟩
  have q3 : ¬ (50 : Int) < (l.length : Int) := by omega
  obtain ⟨na, hn⟩ : ∃ n, n = A.length := ⟨_, rfl⟩
  rw [← hn] at q1 hna
  have Hna := Lib.hid hn
  rw [← hn]
  clear hn
  obtain ⟨nb, hn⟩ : ∃ n, n = Bl.length := ⟨_, rfl⟩
  rw [← hn] at q2 hnb
  have Hnb := Lib.hid hn
  rw [← hn]
  clear hla hlb hlk hn
  go_upto_region 5 with (fail)
  obtain ⟨q, hq⟩ : ∃ q, q = w1.heap.size := ⟨_, rfl⟩
  obtain ⟨p, hp⟩ : ∃ p, p = w1.heap.size + 1 := ⟨_, rfl⟩
  obtain ⟨W2, hW⟩ : ∃ W, W = (w1.alloc (.cells #[.string ⟨#[]⟩, .string ⟨#[]⟩, .string ⟨#[]⟩, .string ⟨#[]⟩, .string ⟨#[]⟩, .string ⟨#[]⟩, .string ⟨#[]⟩, .string ⟨#[]⟩] 47)).alloc (.cells #[.string ⟨#[]⟩, .string ⟨#[]⟩, .string ⟨#[]⟩, .string ⟨#[]⟩, .string ⟨#[]⟩, .string ⟨#[]⟩, .string ⟨#[]⟩, .string ⟨#[]⟩] 47) := ⟨_, rfl⟩
  have B2 : Hid (Below w.heap.size w W2) := by show Below _ _ _; rw [hW]; exact bstep B1.out (below_a2 _ _ _)
  have D2 : Hid (DiskAt W2 g mb cb 4096 (.slice none 0 0) d0) := by show DiskAt _ _ _ _ _ _ _; rw [hW]; exact D1.out.below (below_a2 _ _ _)
  have Q2 : Hid (W2.heap[q]? = some (.cells (arr8 fun _ => ⟨#[]⟩) 47 (0, 0))) := by show _ = _; rw [hW, hq]; exact blk_alloc (blk_new _ _)
  have P2 : Hid (W2.heap[p]? = some (.cells (arr8 fun _ => ⟨#[]⟩) 47 (0, 0))) := by
    show _ = _
    have := blk_new (w1.alloc (.cells (arr8 fun _ => ⟨#[]⟩) 47)) (.cells (arr8 fun _ => ⟨#[]⟩) 47)
    rw [hW, hp]
    have e : (w1.alloc (.cells (arr8 fun _ => ⟨#[]⟩) 47)).heap.size = w1.heap.size + 1 := by simp
    rw [e] at this; exact this
  have qg : Hid (q ≠ g) := by have := D1.out.lt; show _ ≠ _; omega
  have qm : Hid (q ≠ mb) := by have := D1.out.hm.lt; show _ ≠ _; omega
  have qc : Hid (q ≠ cb) := by have := D1.out.hc.lt; show _ ≠ _; omega
  have ql : Hid (w.heap.size ≤ q) := by show _ ≤ _; rw [hq]; exact B1.out.size
  have pg : Hid (p ≠ g) := by have := D1.out.lt; show _ ≠ _; omega
  have pm : Hid (p ≠ mb) := by have := D1.out.hm.lt; show _ ≠ _; omega
  have pc : Hid (p ≠ cb) := by have := D1.out.hc.lt; show _ ≠ _; omega
  have pl : Hid (w.heap.size ≤ p) := by show _ ≤ _; rw [hp]; have := B1.out.size; omega
  have pq : Hid (p ≠ q) := by show _ ≠ _; omega
  rw [← hW, ← hp, ← hq]
  clear hW hq hp
  go_wp2_with fail
  go_loopw [11] (fun c wr => ∃ i : Nat, i ≤ 8 ∧ c = .int .i64 i ∧ wr.heap[q]? = some (.cells (arr8 fun j => if j < i then nil256 else ⟨#[]⟩) 47 (0, 0)) ∧ wr.heap[p]? = some (.cells (arr8 fun _ => ⟨#[]⟩) 47 (0, 0)) ∧ DiskAt wr g mb cb 4096 (.slice none 0 0) d0 ∧ Below w.heap.size w wr) (fun c _ => 8 - (intOf c).toNat)
  case atStart => exact ⟨0, Nat.zero_le _, rfl, by simpa using Q2.out, P2.out, D2.out, B2.out⟩
  case round =>
    obtain ⟨i, hik, rfl, hQ, hP, hD, hB⟩ := hrel
    have HQ := Lib.hid hQ; have HP := Lib.hid hP; have HD := Lib.hid hD; have HBw := Lib.hid hB
    clear hQ hP hD hB
    by_cases hlt : i < 8
    · have hi : (i : Int) < 8 := by omega
      have hi0 : (0 : Int) ≤ (i : Int) := by omega
      go_wp2_with fail
      refine (Z2.out _).mono ?_; rintro e w3 ⟨rfl, hb⟩
      have Q3 := Lib.hid (blk_below HQ.out hb)
      have P3 := Lib.hid (blk_below HP.out hb)
      have D3 := Lib.hid (HD.out.below hb)
      have B3 := Lib.hid (bstep HBw.out hb)
      clear hb
      have hc := (blk_cell Q3.out i).trans (arr8_get _ hlt)
      have hf := blk_frozen Q3.out i
      have hS : Hid ((w3.setCell ⟨q, i, none⟩ (.string nil256)).heap[q]? = some (.cells (arr8 fun j => if j < i + 1 then nil256 else ⟨#[]⟩) 47 (0, 0))) := by show _ = _; rw [blk_set Q3.out, arr8_set _ hlt, ifs_step]
      go_wp2_with fail
      go_roundw
      case rel => exact ⟨i + 1, by omega, by go_num, hS.out, blk_set_far P3.out pq.out _, D3.out.setOther qg.out qm.out qc.out i _, B3.out.setCell ql.out _⟩
      case measure => simp [intOf]; omega
    · have hi : ¬ (i : Int) < 8 := by omega
      obtain rfl : i = 8 := by omega
      have Q3 : Hid (wr.heap[q]? = some (.cells (arr8 fun _ => nil256) 47 (0, 0))) := HQ.out
      go_wp2_with fail
      go_loopw [12] (fun c wr => ∃ (i : Nat) (d : Dk) (f : Nat → ByteArray), i ≤ na ∧ c = .int .i64 i ∧ d.Calm 8 ∧ (∀ j : Nat, j < 8 → d.tell j = f j ∧ (f j).size = 256) ∧ wr.heap[q]? = some (.cells (arr8 f) 47 (0, 0)) ∧ wr.heap[p]? = some (.cells (arr8 fun _ => ⟨#[]⟩) 47 (0, 0)) ∧ DiskAt wr g mb cb 4096 (.slice none 0 0) d ∧ Below w.heap.size w wr) (fun c _ => na - (intOf c).toNat)
      case atStart => exact ⟨0, d0, fun _ => nil256, Nat.zero_le _, rfl, C0.out, fun j _ => ⟨T0.out j, nil256_size⟩, Q3.out, HP.out, HD.out, HBw.out⟩
      case round =>
        clear HQ HP HD HBw Q3
        obtain ⟨i, d, f, hik, rfl, hC, hT, hQ, hP, hD, hB⟩ := hrel
        have HC := Lib.hid hC; have HT := Lib.hid hT; have HQ := Lib.hid hQ; have HP := Lib.hid hP; have HD := Lib.hid hD; have HBw := Lib.hid hB
        clear hC hT hQ hP hD hB
        by_cases hlt : i < na
        · have hi : (i : Int) < (na : Int) := by omega
          have hi0 : (0 : Int) ≤ (i : Int) := by omega
          have h1 : i < A.length := by rw [← Hna.out]; exact hlt
          obtain ⟨b, off, cap, e, hbl, hcl⟩ := HVA.out.at h1
          injection e with e1 _ e3
          subst e1 e3
          obtain ⟨hx0, hx1⟩ := HA.out A[i] (List.getElem_mem h1)
          obtain ⟨x, hx⟩ : ∃ x, x = A[i] := ⟨_, rfl⟩
          rw [← hx] at hcl hx0 hx1
          obtain ⟨r, hr8, er, et⟩ := b8 x hx0 hx1
          have hri : (r : Int) < 8 := by omega
          have hr0 : (0 : Int) ≤ (r : Int) := by omega
          have ew : IntKind.i64.wrap (r : Int) = (r : Int) := IntWalk.i64_in _ (by omega)
          have e2 : IntKind.u8.wrap (r : Int) = (r : Int) := by rw [IntKind.wrap_u8]; omega
          have BK := Lib.hid (fun W => law19_Block x hx0 hx1 W)
          have hbq : b ≠ q := by have := ql.out; omega
          have hcx := dk_cell (w' := wr) hcl (HBw.out)
          obtain ⟨S, hS⟩ : ∃ S, S = blk x := ⟨_, rfl⟩
          have hSz : Hid (S.size = 256) := by show _ = _; rw [hS]; exact blk_size x
          rw [← hS] at BK
          have HCL := Lib.hid hcl
          clear hcl hx hS h1 hbl
          have SOf : Hid (∀ W, Below wr.heap.size wr W → W.cell? ⟨b, off + i, none⟩ = some (.int .u8 x)) := fun W h => dk_cell hcx h
          go_upto_region 12 with (fail)
          have D0 : Hid (Below wr.heap.size wr wr.drew) := ⟨rfl, rfl, rfl, Nat.le_refl _, fun _ _ => rfl⟩
          have S0 := SOf.out _ D0.out
          clear hcx
          go_region_held3 (fun w' => w'.cell? ⟨b, off + i, none⟩ = some (.int .u8 x)) (first | exact S0 | exact S9 | assumption)
            (first
              | (go_at_call 19; refine (BK.out _).mono ?_; rintro e y ⟨rfl, hy⟩; have D0 := Lib.hid (bstep D0.out hy); have S0 := SOf.out _ D0.out; have Qy := Lib.hid (blk_below HQ.out D0.out); have hcq := (blk_cell Qy.out r).trans (arr8_get _ hr8); have hfq := blk_frozen Qy.out r; have S9 := set_far (o' := r) S0 hbq (.string S); clear hy))
          have Qz : Hid ((y.setCell ⟨q, r, none⟩ (.string S)).heap[q]? = some (.cells (arr8 (upd8 f r S)) 47 (0, 0))) := by show _ = _; rw [blk_set Qy.out, arr8_set _ hr8]
          have Pz := Lib.hid (blk_set_far (blk_below HP.out D0.out) (a := ⟨q, r, none⟩) pq.out (.string S))
          have Dz := Lib.hid ((HD.out.below D0.out).setOther qg.out qm.out qc.out r (.string S))
          have Bz := Lib.hid ((bstep HBw.out D0.out).setCell (p := ⟨q, r, none⟩) ql.out (.string S))
          obtain ⟨z, hz⟩ : ∃ z, z = y.setCell ⟨q, r, none⟩ (.string S) := ⟨_, rfl⟩
          rw [← hz] at Qz Pz Dz Bz S9 ⊢
          clear hz S0 hcq hfq
          have WE : d.write (r : Int) S = (d.put (r : Int) S, 0) := HC.out.write ⟨hr0, hri⟩ hSz.out
          have WR := Lib.hid (fun W h1 h2 => disk_Write (r : Int) (wf64_of (by omega) (by omega)) S g mb cb (.slice none 0 0) d aD aA W h1 h2 HC.out.ok)
          simp only [WE] at WR
          have C2 : Hid ((d.put (r : Int) S).Calm 8) := HC.out.put ⟨hr0, hri⟩ hSz.out
          have T2 : Hid (∀ j : Nat, j < 8 → (d.put (r : Int) S).tell j = upd8 f r S j ∧ (upd8 f r S j).size = 256) := fun j hj => by
            rw [tell_put]
            unfold upd8
            by_cases e : j = r
            · subst e; rw [if_pos rfl, if_pos rfl]; exact ⟨rfl, hSz.out⟩
            · rw [if_neg (by omega), if_neg e]; exact HT.out j hj
          obtain ⟨d2, hd2⟩ : ∃ d2, d2 = d.put (r : Int) S := ⟨_, rfl⟩
          obtain ⟨f2, hf2⟩ : ∃ f2, f2 = upd8 f r S := ⟨_, rfl⟩
          rw [← hd2] at WR C2 T2
          rw [← hf2] at T2 Qz
          clear WE hd2 hf2 hri hr0
          go_upto_region 13 with (fail)
          have E0 : Hid (Below z.heap.size z z.drew) := ⟨rfl, rfl, rfl, Nat.le_refl _, fun _ _ => rfl⟩
          have SOz : Hid (∀ W, Below z.heap.size z W → W.cell? ⟨b, off + i, none⟩ = some (.int .u8 x)) := fun W h => dk_cell S9 h
          have S0 := SOz.out _ E0.out
          clear S9
          go_region_held3 (fun w' => w'.cell? ⟨b, off + i, none⟩ = some (.int .u8 x)) (first | exact S0 | exact S9 | assumption)
            (first
              | (go_at_call 19; refine (BK.out _).mono ?_; rintro e y1 ⟨rfl, hy⟩; have E0 := Lib.hid (bstep E0.out hy); have S0 := SOz.out _ E0.out; clear hy)
              | (go_at_call 20; refine (WR.out _ (HW.out.below (bstep Bz.out E0.out)) (Dz.out.below E0.out)).mono ?_; rintro e y2 ⟨rfl, hd, hf⟩; have D3 := Lib.hid hd; have B3 := Lib.hid (frb (bstep Bz.out E0.out) hf lg.out lm.out lc.out); have Q3 := Lib.hid (blk_fr (blk_below Qz.out E0.out) hf (by rintro (h | h | h); exact qg.out h; exact qm.out h; exact qc.out h)); have P3 := Lib.hid (blk_fr (blk_below Pz.out E0.out) hf (by rintro (h | h | h); exact pg.out h; exact pm.out h; exact pc.out h)); have S9 := dk_cell HCL.out B3.out; clear hd hf))
          go_wp2_with fail
          go_roundw
          case rel => exact ⟨i + 1, d2, f2, by omega, by go_num, C2.out, T2.out, Q3.out, P3.out, D3.out, B3.out⟩
          case measure => simp [intOf]; omega
        · have hi : ¬ (i : Int) < (na : Int) := by omega
          have FE : d.flush = (d.pour, 0) := HC.out.flush
          have FR := Lib.hid (fun W h1 h2 => disk_Flush g mb cb (.slice none 0 0) d aD aA W h1 h2 HC.out.ok)
          simp only [FE] at FR
          have C3 := Lib.hid HC.out.pour
          have T3 := Lib.hid (CaP.of_pour HT.out)
          obtain ⟨d3, hd3⟩ : ∃ d3, d3 = d.pour := ⟨_, rfl⟩
          rw [← hd3] at FR C3 T3
          clear FE hd3
          go_wp2_with fail
          refine (FR.out _ (HW.out.below HBw.out) HD.out).mono ?_; rintro e y3 ⟨rfl, hd, hf⟩
          have D4 := Lib.hid hd
          have Q4 := Lib.hid (blk_fr HQ.out hf (by rintro (h | h | h); exact qg.out h; exact qm.out h; exact qc.out h))
          have P4 := Lib.hid (blk_fr HP.out hf (by rintro (h | h | h); exact pg.out h; exact pm.out h; exact pc.out h))
          have B4 := Lib.hid (frb HBw.out hf lg.out lm.out lc.out)
          have WA : Hid (∀ j : Nat, j < 8 → True) := fun _ _ => trivial
          obtain ⟨was, hwas⟩ : ∃ was, was = f := ⟨_, rfl⟩
          rw [← hwas] at T3 Q4
          clear hd hf HC HT HQ HP HD HBw hwas WA
          go_wp2_with fail
          go_loopw [13] (fun c wr => ∃ (i : Nat) (d : Dk) (f : Nat → ByteArray), i ≤ nb ∧ c = .int .i64 i ∧ d.Calm 8 ∧ CaP d was f ∧ wr.heap[p]? = some (.cells (arr8 f) 47 (0, 0)) ∧ wr.heap[q]? = some (.cells (arr8 was) 47 (0, 0)) ∧ DiskAt wr g mb cb 4096 (.slice none 0 0) d ∧ Below w.heap.size w wr) (fun c _ => nb - (intOf c).toNat)
          case atStart => exact ⟨0, d3, fun _ => ⟨#[]⟩, Nat.zero_le _, rfl, C3.out, T3.out, P4.out, Q4.out, D4.out, B4.out⟩
          case round =>
            clear C3 T3 D4 Q4 P4 B4
            obtain ⟨i, d, f, hik, rfl, hC, hT, hP, hQ, hD, hB⟩ := hrel
            have HC := Lib.hid hC; have HT := Lib.hid hT; have HQ := Lib.hid hQ; have HP := Lib.hid hP; have HD := Lib.hid hD; have HBw := Lib.hid hB
            clear hC hT hQ hP hD hB
            by_cases hlt : i < nb
            · have hi : (i : Int) < (nb : Int) := by omega
              have hi0 : (0 : Int) ≤ (i : Int) := by omega
              have h1 : i < Bl.length := by rw [← Hnb.out]; exact hlt
              obtain ⟨b, off, cap, e, hbl, hcl⟩ := HVB.out.at h1
              injection e with e1 _ e3
              subst e1 e3
              obtain ⟨hx0, hx1⟩ := HBl.out Bl[i] (List.getElem_mem h1)
              obtain ⟨x, hx⟩ : ∃ x, x = Bl[i] := ⟨_, rfl⟩
              rw [← hx] at hcl hx0 hx1
              obtain ⟨r, hr8, er, et⟩ := b8 x hx0 hx1
              have hri : (r : Int) < 8 := by omega
              have hr0 : (0 : Int) ≤ (r : Int) := by omega
              have ew : IntKind.i64.wrap (r : Int) = (r : Int) := IntWalk.i64_in _ (by omega)
              have e2 : IntKind.u8.wrap (r : Int) = (r : Int) := by rw [IntKind.wrap_u8]; omega
              have BK := Lib.hid (fun W => law19_Block x hx0 hx1 W)
              have hbq : b ≠ p := by have := pl.out; omega
              have hcx := dk_cell (w' := wr) hcl (HBw.out)
              obtain ⟨S, hS⟩ : ∃ S, S = blk x := ⟨_, rfl⟩
              have hSz : Hid (S.size = 256) := by show _ = _; rw [hS]; exact blk_size x
              rw [← hS] at BK
              have HCL := Lib.hid hcl
              clear hcl hx hS h1 hbl
              have SOf : Hid (∀ W, Below wr.heap.size wr W → W.cell? ⟨b, off + i, none⟩ = some (.int .u8 x)) := fun W h => dk_cell hcx h
              go_upto_region 19 with (fail)
              have D0 : Hid (Below wr.heap.size wr wr.drew) := ⟨rfl, rfl, rfl, Nat.le_refl _, fun _ _ => rfl⟩
              have S0 := SOf.out _ D0.out
              clear hcx
              go_region_held3 (fun w' => w'.cell? ⟨b, off + i, none⟩ = some (.int .u8 x)) (first | exact S0 | exact S9 | assumption)
                (first
                  | (go_at_call 19; refine (BK.out _).mono ?_; rintro e y ⟨rfl, hy⟩; have D0 := Lib.hid (bstep D0.out hy); have S0 := SOf.out _ D0.out; have Qy := Lib.hid (blk_below HP.out D0.out); have hcq := (blk_cell Qy.out r).trans (arr8_get _ hr8); have hfq := blk_frozen Qy.out r; have S9 := set_far (o' := r) S0 hbq (.string S); clear hy))
              have Qz : Hid ((y.setCell ⟨p, r, none⟩ (.string S)).heap[p]? = some (.cells (arr8 (upd8 f r S)) 47 (0, 0))) := by show _ = _; rw [blk_set Qy.out, arr8_set _ hr8]
              have Pz := Lib.hid (blk_set_far (blk_below HQ.out D0.out) (a := ⟨p, r, none⟩) pq.out.symm (.string S))
              have Dz := Lib.hid ((HD.out.below D0.out).setOther pg.out pm.out pc.out r (.string S))
              have Bz := Lib.hid ((bstep HBw.out D0.out).setCell (p := ⟨p, r, none⟩) pl.out (.string S))
              obtain ⟨z, hz⟩ : ∃ z, z = y.setCell ⟨p, r, none⟩ (.string S) := ⟨_, rfl⟩
              rw [← hz] at Qz Pz Dz Bz S9 ⊢
              clear hz S0 hcq hfq
              have WE : d.write (r : Int) S = (d.put (r : Int) S, 0) := HC.out.write ⟨hr0, hri⟩ hSz.out
              have WR := Lib.hid (fun W h1 h2 => disk_Write (r : Int) (wf64_of (by omega) (by omega)) S g mb cb (.slice none 0 0) d aD aA W h1 h2 HC.out.ok)
              simp only [WE] at WR
              have C2 : Hid ((d.put (r : Int) S).Calm 8) := HC.out.put ⟨hr0, hri⟩ hSz.out
              have T2 : Hid (CaP (d.put (r : Int) S) was (upd8 f r S)) := HT.out.put hSz.out
              obtain ⟨d2, hd2⟩ : ∃ d2, d2 = d.put (r : Int) S := ⟨_, rfl⟩
              obtain ⟨f2, hf2⟩ : ∃ f2, f2 = upd8 f r S := ⟨_, rfl⟩
              rw [← hd2] at WR C2 T2
              rw [← hf2] at T2 Qz
              clear WE hd2 hf2 hri hr0
              go_upto_region 20 with (fail)
              have E0 : Hid (Below z.heap.size z z.drew) := ⟨rfl, rfl, rfl, Nat.le_refl _, fun _ _ => rfl⟩
              have SOz : Hid (∀ W, Below z.heap.size z W → W.cell? ⟨b, off + i, none⟩ = some (.int .u8 x)) := fun W h => dk_cell S9 h
              have S0 := SOz.out _ E0.out
              clear S9
              go_region_held3 (fun w' => w'.cell? ⟨b, off + i, none⟩ = some (.int .u8 x)) (first | exact S0 | exact S9 | assumption)
                (first
                  | (go_at_call 19; refine (BK.out _).mono ?_; rintro e y1 ⟨rfl, hy⟩; have E0 := Lib.hid (bstep E0.out hy); have S0 := SOz.out _ E0.out; clear hy)
                  | (go_at_call 20; refine (WR.out _ (HW.out.below (bstep Bz.out E0.out)) (Dz.out.below E0.out)).mono ?_; rintro e y2 ⟨rfl, hd, hf⟩; have D3 := Lib.hid hd; have B3 := Lib.hid (frb (bstep Bz.out E0.out) hf lg.out lm.out lc.out); have Q3 := Lib.hid (blk_fr (blk_below Qz.out E0.out) hf (by rintro (h | h | h); exact pg.out h; exact pm.out h; exact pc.out h)); have P3 := Lib.hid (blk_fr (blk_below Pz.out E0.out) hf (by rintro (h | h | h); exact qg.out h; exact qm.out h; exact qc.out h)); have S9 := dk_cell HCL.out B3.out; clear hd hf))
              go_wp2_with fail
              go_roundw
              case rel => exact ⟨i + 1, d2, f2, by omega, by go_num, C2.out, T2.out, Q3.out, P3.out, D3.out, B3.out⟩
              case measure => simp [intOf]; omega
            · have hi : ¬ (i : Int) < (nb : Int) := by omega
              have CK := Lib.hid (fun kvv W h1 h2 h3 => disk_Crash kvv l (by omega) g mb cb (.slice none 0 0) d W h1 HC.out.ok.ok0 h2 h3)
              have CRok : Hid (d.crash l).Ok := HC.out.ok.crash l
              have CRd : Hid ((d.crash l).dead = true) := by
                show _ = _
                unfold Dk.crash; rw [if_neg (by rw [HC.out.dead]; decide)]
              have CRn : Hid ((d.crash l).n = 8) := by
                show _ = _
                unfold Dk.crash; rw [if_neg (by rw [HC.out.dead]; decide)]; exact HC.out.n
              have CRt : Hid (∀ i, (d.crash l).start.tell i = d.fat l i) := fun i => crash_tell HC.out.dead l i
              have OK0 := Lib.hid HC.out.ok.ok0
              obtain ⟨dc, hdc⟩ : ∃ dc, dc = d.crash l := ⟨_, rfl⟩
              rw [← hdc] at CRok CRd CRn CRt
              have CK2 : Hid (∀ kvv W, DiskAt W g mb cb 4096 (.slice none 0 0) d → SlKept W kvv l → (∀ b off n c, kvv = .slice (some ⟨b, off, none⟩) n c → ¬ DkS g mb cb b) → Calls Tryd.prog 22 #[.pointer (some ⟨g, 0, none⟩), kvv] W fun e w' => e = .returned (.tuple #[]) ∧ DiskAt w' g mb cb 4096 (.slice none 0 0) dc ∧ Fr (DkS g mb cb) W w') := by rw [hdc]; exact CK.out
              clear hdc CK
              have RD := Lib.hid (fun W h1 h2 => disk_Read 0 (wf64_of (by omega) (by omega)) g mb cb 4096 (.slice none 0 0) dc aD aA W h1 h2)
              have BK := Lib.hid (fun W => law19_Block 1 (by omega) (by omega) W)
              obtain ⟨S, hS⟩ : ∃ S, S = blk 1 := ⟨_, rfl⟩
              rw [← hS] at BK
              have WR := Lib.hid (fun W h1 h2 => disk_Write 0 (wf64_of (by omega) (by omega)) S g mb cb (.slice none 0 0) dc aD aA W h1 h2 CRok.out)
              have FR := Lib.hid (fun W h1 h2 => disk_Flush g mb cb (.slice none 0 0) dc aD aA W h1 h2 CRok.out)
              have ST := Lib.hid (fun W h1 => disk_Start g mb cb 4096 (.slice none 0 0) dc W h1)
              simp only [read_dead _ CRd.out] at RD
              simp only [write_dead _ _ CRd.out] at WR
              simp only [flush_dead CRd.out] at FR
              have DSd : Hid (dc.start.dead = false) := rfl
              have DSn : Hid (dc.start.n = 8) := CRn.out
              obtain ⟨ds, hds⟩ : ∃ ds, ds = dc.start := ⟨_, rfl⟩
              rw [← hds] at DSd DSn ST CRt
              clear hS hds
              obtain ⟨i0, ih, i1, i2, i3⟩ := info_parts Tryd.info56
              have lt1 := HD.out.lt
              have lt2 := HD.out.hm.lt
              have lt3 := HD.out.hc.lt
              have HL := Lib.hid q3
              go_wp2_with (at_builtin; refine wpList_append_new rfl _ _ _ rfl 56 i0 _ Tryd.underlying42 ih i1 2 i2 (by omega) _ rfl _ rfl l.length (ktCells l) (ktCells_len l) ((HVK.out.below HBw.out).below (below_alloc1 _ _)).cells (by omega) ?_; intro G c w1 k1 k2 k3 k4 k5; have K2 := Lib.hid (SlKept.of_cells k1 k2 (fun h => (k5 h).2)); have B1 := Lib.hid (bstep (below_alloc1 _ _) k3); have B2 := Lib.hid (bstep HBw.out B1.out); have D1 := Lib.hid (HD.out.below B1.out); have Q1 := Lib.hid (blk_below HQ.out B1.out); have P1 := Lib.hid (blk_below HP.out B1.out); have hg : wr.heap.size ≤ G := (k4.elim (fun h => Nat.le_of_eq h.symm) (fun h => by rw [h]; simp)); have HN : Hid (∀ b off n c', Value.slice (some ⟨G, 0, none⟩) l.length c = .slice (some ⟨b, off, none⟩) n c' → ¬ DkS g mb cb b) := (fun b off n c' e => by injection e with e _ _; injection e with e; injection e with e _ _; rintro (h | h | h) <;> omega); clear k1 k2 k3 k4 k5 hg)
              refine (CK2.out _ _ D1.out K2.out HN.out).mono ?_; rintro e y ⟨rfl, hd, hf⟩
              have D2 := Lib.hid hd
              have B3 := Lib.hid (frb B2.out hf lg.out lm.out lc.out)
              have Q2 := Lib.hid (blk_fr Q1.out hf (by rintro (h | h | h); exact qg.out h; exact qm.out h; exact qc.out h))
              have P2 := Lib.hid (blk_fr P1.out hf (by rintro (h | h | h); exact pg.out h; exact pm.out h; exact pc.out h))
              clear hd hf HN K2 B1 B2 D1 Q1 P1 CK2 HQ HP HD HBw
              go_wp2_with fail
              refine (RD.out _ (HW.out.below B3.out) D2.out).mono ?_; rintro e y1 ⟨rfl, hb⟩
              have D3 := Lib.hid (D2.out.below hb)
              have B4 := Lib.hid (bstep B3.out hb)
              have Q3 := Lib.hid (blk_below Q2.out hb)
              have P3 := Lib.hid (blk_below P2.out hb)
              clear hb D2 B3 Q2 P2 RD
              go_wp2_with fail
              refine (BK.out _).mono ?_; rintro e y2 ⟨rfl, hb⟩
              have D4 := Lib.hid (D3.out.below hb)
              have B5 := Lib.hid (bstep B4.out hb)
              have Q4 := Lib.hid (blk_below Q3.out hb)
              have P4 := Lib.hid (blk_below P3.out hb)
              clear hb D3 B4 Q3 P3 BK
              go_wp2_with fail
              refine (WR.out _ (HW.out.below B5.out) D4.out).mono ?_; rintro e y3 ⟨rfl, hd, hf⟩
              have D5 := Lib.hid hd
              have B6 := Lib.hid (frb B5.out hf lg.out lm.out lc.out)
              have Q5 := Lib.hid (blk_fr Q4.out hf (by rintro (h | h | h); exact qg.out h; exact qm.out h; exact qc.out h))
              have P5 := Lib.hid (blk_fr P4.out hf (by rintro (h | h | h); exact pg.out h; exact pm.out h; exact pc.out h))
              clear hd hf D4 B5 Q4 P4 WR
              go_wp2_with fail
              refine (FR.out _ (HW.out.below B6.out) D5.out).mono ?_; rintro e y4 ⟨rfl, hd, hf⟩
              have D6 := Lib.hid hd
              have B7 := Lib.hid (frb B6.out hf lg.out lm.out lc.out)
              have Q6 := Lib.hid (blk_fr Q5.out hf (by rintro (h | h | h); exact qg.out h; exact qm.out h; exact qc.out h))
              have P6 := Lib.hid (blk_fr P5.out hf (by rintro (h | h | h); exact pg.out h; exact pm.out h; exact pc.out h))
              clear hd hf D5 B6 Q5 P5 FR
              go_wp2_with fail
              refine (ST.out _ D6.out).mono ?_; rintro e y5 ⟨rfl, hd, hf⟩
              have D7 := Lib.hid hd
              have B8 := Lib.hid (frb (mb := mb) (cb := cb) B7.out (Fr.mono hf (fun _ h => .inl h)) lg.out lm.out lc.out)
              have Q7 := Lib.hid (blk_fr Q6.out hf (fun h => qg.out h))
              have P7 := Lib.hid (blk_fr P6.out hf (fun h => pg.out h))
              clear hd hf D6 B7 Q6 P6 ST
              go_wp2_with fail
              go_loopw [16] (fun c wr => ∃ i : Nat, i ≤ 8 ∧ c = .int .i64 i ∧ wr.heap[q]? = some (.cells (arr8 was) 47 (0, 0)) ∧ wr.heap[p]? = some (.cells (arr8 f) 47 (0, 0)) ∧ DiskAt wr g mb cb 4096 (.slice none 0 0) ds ∧ Below w.heap.size w wr) (fun c _ => 8 - (intOf c).toNat)
              case atStart => exact ⟨0, Nat.zero_le _, rfl, Q7.out, P7.out, D7.out, B8.out⟩
              case round =>
                clear Q7 P7 D7 B8
                obtain ⟨i, hik, rfl, hQ, hP, hD, hB⟩ := hrel
                have HQ := Lib.hid hQ; have HP := Lib.hid hP; have HD := Lib.hid hD; have HBw := Lib.hid hB
                clear hQ hP hD hB
                by_cases hlt : i < 8
                · have hi : (i : Int) < 8 := by omega
                  have hi0 : (0 : Int) ≤ (i : Int) := by omega
                  obtain ⟨m, hm⟩ : ∃ m, m = (keptN l (i : Int)).getD 0 := ⟨_, rfl⟩
                  have hm256 : m ≤ 256 := by
                    rw [hm]
                    cases hk : keptN l (i : Int) with
                    | none => exact Nat.zero_le _
                    | some n => exact keptN_le hk
                  have HMm := Lib.hid hm
                  clear hm
                  go_upto_block 8 with (fail)
                  go_cut [17] (fun s wc => s = .int .i64 (m : Int) ∧ wc = wr)
                  case first =>
                    have hwl : IntKind.i64.wrap ((l.length : Int) - 1) = (l.length : Int) - 1 := IntWalk.i64_in _ (by omega)
                    go_wp2_with fail
                    go_loop [17, 18] (fun s c => ∃ (j : Nat) (z : Int), j ≤ l.length ∧ z = (j : Int) - 1 ∧ c = .int .i64 z ∧ s = .int .i64 (((keptN (l.drop j) (i : Int)).getD 0 : Nat) : Int)) (fun _ c => ((intOf c) + 1).toNat)
                    case atStart => exact ⟨l.length, _, Nat.le_refl _, rfl, by go_num, by rw [List.drop_length]; rfl⟩
                    case round =>
                      obtain ⟨j, z, hjl, hz, rfl, hs⟩ := hrel
                      subst hs
                      cases j with
                      | zero =>
                        have hz0 : ¬ (0 : Int) ≤ z := by omega
                        have hz1 : decide (0 ≤ z) = false := decide_eq_false hz0
                        have hme : ((keptN (l.drop 0) (i : Int)).getD 0) = m := by rw [HMm.out, List.drop_zero]
                        rw [hme]
                        clear hz hme
                        go_wp2_with fail
                        go_meet
                        exact ⟨rfl, rfl⟩
                      | succ k =>
                        obtain rfl : z = (k : Int) := by omega
                        have hlk : k < l.length := by omega
                        have hk1 : (k : Int) < (l.length : Int) := by omega
                        have hk0 : (0 : Int) ≤ (k : Int) := by omega
                        have hwk : IntKind.i64.wrap ((k : Int) - 1) = (k : Int) - 1 := IntWalk.i64_in _ (by omega)
                        have KD := Lib.hid (keptN_drop (i := (i : Int)) hlk)
                        obtain ⟨b, off, cap, e, hA0⟩ := HVK.out.at hlk
                        injection e with e1 _ e3
                        subst e1 e3
                        have hA := hA0.below HBw.out
                        have ks := hA.sec k hlk
                        have kb := hA.byt k hlk
                        obtain ⟨v, hv⟩ : ∃ v, v = (((keptN (l.drop (k + 1)) (i : Int)).getD 0 : Nat) : Int) := ⟨_, rfl⟩
                        rw [← hv]
                        by_cases he : l[k].1 = (i : Int)
                        · have hq : (l[k].1 == (i : Int)) = true := by rw [beq_iff_eq]; exact he
                          have hmx : Hid (min (max l[k].2 0) 256 = (((keptN (l.drop k) (i : Int)).getD 0 : Nat) : Int)) := by
                            show _ = _
                            rw [KD.out, if_pos he]
                            show _ = (((min (max l[k].2 0) 256).toNat : Nat) : Int)
                            omega
                          obtain ⟨x, hx⟩ : ∃ x, x = l[k].1 := ⟨_, rfl⟩
                          obtain ⟨y, hy⟩ : ∃ y, y = l[k].2 := ⟨_, rfl⟩
                          rw [← hx] at ks hq
                          rw [← hy] at kb hmx
                          clear hA hA0 he hx hy hz hv
                          go_wp2_with fail
                          go_round
                          case rel => exact ⟨k, _, by omega, rfl, rfl, by rw [hmx.out]⟩
                          case measure => simp [intOf]
                        · have hq : (l[k].1 == (i : Int)) = false := by rw [beq_eq_false_iff_ne]; exact he
                          have hvv : Hid (v = (((keptN (l.drop k) (i : Int)).getD 0 : Nat) : Int)) := by show _ = _; rw [hv, KD.out, if_neg he]
                          obtain ⟨x, hx⟩ : ∃ x, x = l[k].1 := ⟨_, rfl⟩
                          rw [← hx] at ks hq
                          clear hA hA0 he hx kb hz hv
                          go_wp2_with fail
                          go_round
                          case rel => exact ⟨k, _, by omega, rfl, rfl, by rw [hvv.out]⟩
                          case measure => simp [intOf]
                  case rest =>
                    obtain ⟨rfl, rfl⟩ := hcut
                    obtain ⟨hat, hws, hf⟩ := HT.out i hlt
                    have hcq := (blk_cell HQ.out i).trans (arr8_get _ hlt)
                    have hcp := (blk_cell HP.out i).trans (arr8_get _ hlt)
                    have RI := Lib.hid (fun W h1 h2 => disk_Read (i : Int) (wf64_of (by omega) (by omega)) g mb cb 4096 (.slice none 0 0) ds aD aA W h1 h2)
                    simp only [read_ok DSd.out (i := (i : Int)) ⟨hi0, by rw [DSn.out]; exact hi⟩, CRt.out (i : Int)] at RI
                    obtain ⟨U, hU⟩ : ∃ U, U = was i := ⟨_, rfl⟩
                    rw [← hU] at hcq hws hat
                    have hRel := Lib.hid hU
                    rcases hf with ⟨hf, hci⟩ | ⟨hci, hfs⟩
                    · rw [hf] at hcp
                      rw [fat_none hci, hat] at RI
                      clear hf hci hat hU
                      go_wp2_with fail
                      refine (RI.out _ (HW.out.below HBw.out) HD.out).mono ?_; rintro e y1 ⟨rfl, hb⟩
                      have D3 := Lib.hid (HD.out.below hb)
                      have B3 := Lib.hid (bstep HBw.out hb)
                      have Q3 := Lib.hid (blk_below HQ.out hb)
                      have P3 := Lib.hid (blk_below HP.out hb)
                      clear hb
                      go_wp2_with fail
                      go_roundw
                      case rel => exact ⟨i + 1, by omega, by go_num, Q3.out, P3.out, D3.out, B3.out⟩
                      case measure => simp [intOf]; omega
                    · rw [fat_some OK0.out hci, ← HMm.out, hat] at RI
                      obtain ⟨F, hF⟩ : ∃ F, F = f i := ⟨_, rfl⟩
                      rw [← hF] at hcp hfs hci RI
                      obtain ⟨g1, g2, g3⟩ := strF (full256 hfs)
                      clear hci hat hU hF
                      have sl1 : ∀ wx, (Instr.slice 9 (.string F) none (some (.int .i64 (m : Int))) none).run Tryd.prog wx = .ok (.string (F.extract 0 m)) wx := fun wx => by
                        rw [run_slice_string_h (P := Tryd.prog) wx 9 F Tryd.underlying9 .i64 (m : Int) (by omega) (by omega)]; rfl
                      have sl2 : ∀ wx, (Instr.slice 9 (.string U) (some (.int .i64 (m : Int))) none none).run Tryd.prog wx = .ok (.string (U.extract m 256)) wx := fun wx => by
                        rw [run_slice_string_l (P := Tryd.prog) wx 9 U Tryd.underlying9 .i64 (m : Int) (by omega) (by omega), hws]; rfl
                      have hz : ¬ 9223372036854775807 < (F.extract 0 m).size + (U.extract m 256).size := by rw [ByteArray.size_extract, ByteArray.size_extract]; omega
                      obtain ⟨X, hX⟩ : ∃ X, X = F.extract 0 m := ⟨_, rfl⟩
                      obtain ⟨Y, hY⟩ : ∃ Y, Y = U.extract m 256 := ⟨_, rfl⟩
                      rw [← hX] at sl1 hz RI
                      rw [← hY] at sl2 hz RI
                      clear hX hY
                      go_upto_region 37 with (fail)
                      clear g1 g2 g3
                      go_quiet (fail)
                      have BN : Hid (Below wc.heap.size wc (wc.drewN nq)) := ⟨rfl, rfl, rfl, Nat.le_refl _, fun _ _ => rfl⟩
                      have D2 := Lib.hid (HD.out.below BN.out)
                      have B2 := Lib.hid (bstep HBw.out BN.out)
                      have Q2 := Lib.hid (blk_below HQ.out BN.out)
                      have P2 := Lib.hid (blk_below HP.out BN.out)
                      obtain ⟨z, hz⟩ : ∃ z, z = wc.drewN nq := ⟨_, rfl⟩
                      rw [← hz] at D2 B2 Q2 P2 ⊢
                      clear hz BN sl1 sl2 hcq hcp
                      go_wp2_with fail
                      refine (RI.out _ (HW.out.below B2.out) D2.out).mono ?_; rintro e y1 ⟨rfl, hb⟩
                      have D3 := Lib.hid (D2.out.below hb)
                      have B3 := Lib.hid (bstep B2.out hb)
                      have Q3 := Lib.hid (blk_below Q2.out hb)
                      have P3 := Lib.hid (blk_below P2.out hb)
                      clear hb
                      go_wp2_with fail
                      go_roundw
                      case rel => exact ⟨i + 1, by omega, by go_num, Q3.out, P3.out, D3.out, B3.out⟩
                      case measure => simp [intOf]; omega
                · have hi : ¬ (i : Int) < 8 := by omega
                  clear HQ HP
                  go_wp2_with fail
                  refine (WK.out _ (HW.out.below HBw.out)).mono ?_; rintro e y ⟨rfl, hby⟩
                  have By := Lib.hid (bstep HBw.out hby)
                  clear hby
                  go_wp2_with fail
                  go_ret
                  exact ⟨rfl, By.out⟩
end Go.Proofs.YtikgfkghfbfccaaDoor
