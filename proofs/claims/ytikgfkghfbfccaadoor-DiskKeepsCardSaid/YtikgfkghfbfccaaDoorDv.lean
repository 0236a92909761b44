/- Disks (layer 19): DiskLast. -/
import Derived.Test.YtikgfkghfbfccaaDoorDu
namespace Go.Proofs.YtikgfkghfbfccaaDoor
open Go.RowKit
theorem b8 (b : Int) (h0 : 0 ≤ b) (h1 : b < 256) : ∃ r : Nat, r < 8 ∧ b % 8 = (r : Int) ∧ b.tmod 8 = (r : Int) := by
  refine ⟨(b % 8).toNat, by omega, by omega, ?_⟩
  rw [Int.tmod_eq_emod_of_nonneg h0]; omega
theorem DiskAt.setOther {w : World} {g mb cb k q : Nat} {d : Dk} (h : DiskAt w g mb cb k (.slice none 0 0) d) (h1 : q ≠ g) (h2 : q ≠ mb) (h3 : q ≠ cb) (o : Nat) (v : Value) : DiskAt (w.setCell ⟨q, o, none⟩ v) g mb cb k (.slice none 0 0) d :=
  h.fr (fr_set (S := fun x => x = q) (g := q) rfl o v) h1.symm h2.symm h3.symm (fun b off n c e => by cases e)
theorem ifs_step {i : Nat} {A B : ByteArray} : (upd8 (fun j => if j < i then A else B) i A) = fun j => if j < i + 1 then A else B := by
  funext j
  unfold upd8
  by_cases h : j = i
  · subst h; simp
  · by_cases h2 : j < i
    · rw [if_neg h]; dsimp only; rw [if_pos h2, if_pos (by omega)]
    · rw [if_neg h]; dsimp only; rw [if_neg h2, if_neg (by omega)]
theorem set_far {W : World} {b q o o' : Nat} {u : Option Value} (h : W.cell? ⟨b, o, none⟩ = u) (hne : b ≠ q) (v : Value) : (W.setCell ⟨q, o', none⟩ v).cell? ⟨b, o, none⟩ = u :=
  (World.cell?_of_block (w := W) (Below.heap_setCell W ⟨q, o', none⟩ v b hne)).trans h
theorem upd8_same (f : Nat → ByteArray) (i : Nat) (s : ByteArray) : upd8 f i s i = s := by unfold upd8; rw [if_pos rfl]
set_option maxRecDepth 100000 in
set_option maxHeartbeats 4000000 in
theorem law19_DiskLast (v : Value) (l : List Int) (fl : Int) (f0 : 0 ≤ fl) (f1 : fl < 256) (aD aA : Addr) (w : World) (hl : l.length ≤ 9223372036854775807) (hb : ∀ x ∈ l, 0 ≤ x ∧ x < 256) (hv : SlU8 w v l) (hw : DkW w aD aA) :
    Calls Tryd.prog 6 #[v, .int .u8 fl] w fun e w' => e = .returned (.bool true) ∧ Below w.heap.size w w' := by
  have HW := Lib.hid hw
  have WK := Lib.hid (fun W h => wakes19 aD aA W h)
  have HV := Lib.hid hv
  obtain ⟨p, c, rfl⟩ := hv.form
  have HB := Lib.hid hb
  clear hw hv hb
  have NW := Lib.hid (disk_New 8 (by omega) (by omega) w)
  obtain ⟨g, hg⟩ : ∃ g, g = w.heap.size + 2 := ⟨_, rfl⟩
  obtain ⟨cb, hcb⟩ : ∃ cb, cb = w.heap.size + 1 := ⟨_, rfl⟩
  obtain ⟨mb, hmb⟩ : ∃ mb, mb = w.heap.size := ⟨_, rfl⟩
  have lg : Hid (w.heap.size ≤ g) := by show _ ≤ _; omega
  have lm : Hid (w.heap.size ≤ mb) := by show _ ≤ _; omega
  have lc : Hid (w.heap.size ≤ cb) := by show _ ≤ _; omega
  rw [← hg, ← hcb] at NW
  have NW' : Hid (Calls Tryd.prog 16 #[.int .i64 8] w fun e w' => e = .returned (.tuple #[.pointer (some ⟨g, 0, none⟩), .int .i64 0]) ∧ DiskAt w' g mb cb 0 (.slice none 0 0) (Dk.new 8) ∧ Below w.heap.size w w') := by rw [hmb]; exact NW.out
  clear NW hg hcb hmb
  have Z2 := Lib.hid (fun W => keep_Zeros' 256 (by omega) W)
  obtain ⟨d0, hd0⟩ : ∃ d, d = Dk.new 8 := ⟨_, rfl⟩
  have C0 : Hid (d0.Calm 8) := by show Dk.Calm _ _; rw [hd0]; exact calm_new (by omega) (by omega)
  have T0 : Hid (∀ j, d0.tell j = nil256) := by intro j; rw [hd0]; rfl
  rw [← hd0] at NW'
  have hZ : ofL (List.replicate 256 0) = nil256 := rfl
  rw [hZ] at Z2
  clear hd0 hZ
  go_enter Tryd.func6, Tryd.ntmps6
  go_wp2_with fail
  refine NW'.out.mono ?_; rintro e w1 ⟨rfl, hd, hb1⟩
  have D1 : Hid (DiskAt w1 g mb cb 4096 (.slice none 0 0) d0) := ⟨hd.blk, hd.hm.mono (by omega), hd.hc.mono (by omega), hd.hk, hd.n0, hd.n1, hd.gm, hd.gc, hd.mc, hd.kn⟩
  have B1 := Lib.hid hb1
  clear hd hb1 NW'
  by_cases hlen : 100 < l.length
  · have hl1 : (100 : Int) < (l.length : Int) := by omega
    clear hlen
    go_wp2_with fail
    refine (WK.out _ (HW.out.below B1.out)).mono ?_; rintro e y ⟨rfl, hby⟩
    have By := Lib.hid (bstep B1.out hby)
    clear hby
    go_wp2_with fail
    go_ret
    exact ⟨rfl, By.out⟩
  have hl1 : ¬ (100 : Int) < (l.length : Int) := by omega
  obtain ⟨n, hn⟩ : ∃ n, n = l.length := ⟨_, rfl⟩
  rw [← hn] at hl1 hlen
  have Hn := Lib.hid hn
  rw [← hn]
  clear hl hn
  go_upto_region 5 with (fail)
  obtain ⟨q, hq⟩ : ∃ q, q = w1.heap.size := ⟨_, rfl⟩
  obtain ⟨W2, hW⟩ : ∃ W, W = w1.alloc (.cells #[.string ⟨#[]⟩, .string ⟨#[]⟩, .string ⟨#[]⟩, .string ⟨#[]⟩, .string ⟨#[]⟩, .string ⟨#[]⟩, .string ⟨#[]⟩, .string ⟨#[]⟩] 47) := ⟨_, rfl⟩
  have B2 : Hid (Below w.heap.size w W2) := by show Below _ _ _; rw [hW]; exact bstep B1.out (below_alloc1 _ _)
  have D2 : Hid (DiskAt W2 g mb cb 4096 (.slice none 0 0) d0) := by show DiskAt _ _ _ _ _ _ _; rw [hW]; exact D1.out.below (below_alloc1 _ _)
  have Q2 : Hid (W2.heap[q]? = some (.cells (arr8 fun _ => ⟨#[]⟩) 47 (0, 0))) := by show _ = _; rw [hW, hq]; exact blk_new _ _
  have qg : Hid (q ≠ g) := by have := D1.out.lt; show _ ≠ _; omega
  have qm : Hid (q ≠ mb) := by have := D1.out.hm.lt; show _ ≠ _; omega
  have qc : Hid (q ≠ cb) := by have := D1.out.hc.lt; show _ ≠ _; omega
  have ql : Hid (w.heap.size ≤ q) := by show _ ≤ _; rw [hq]; exact B1.out.size
  rw [← hW, ← hq]
  clear hW hq
  go_wp2_with fail
  go_loopw [8] (fun c wr => ∃ i : Nat, i ≤ 8 ∧ c = .int .i64 i ∧ wr.heap[q]? = some (.cells (arr8 fun j => if j < i then nil256 else ⟨#[]⟩) 47 (0, 0)) ∧ DiskAt wr g mb cb 4096 (.slice none 0 0) d0 ∧ Below w.heap.size w wr) (fun c _ => 8 - (intOf c).toNat)
  case atStart => exact ⟨0, Nat.zero_le _, rfl, by simpa using Q2.out, D2.out, B2.out⟩
  case round =>
    obtain ⟨i, hik, rfl, hQ, hD, hB⟩ := hrel
    have HQ := Lib.hid hQ; have HD := Lib.hid hD; have HBl := Lib.hid hB
    clear hQ hD hB
    by_cases hlt : i < 8
    · have hi : (i : Int) < 8 := by omega
      have hi0 : (0 : Int) ≤ (i : Int) := by omega
      go_wp2_with fail
      refine (Z2.out _).mono ?_; rintro e w3 ⟨rfl, hb⟩
      have Q3 := Lib.hid (blk_below HQ.out hb)
      have D3 := Lib.hid (HD.out.below hb)
      have B3 := Lib.hid (bstep HBl.out hb)
      clear hb
      have hc := (blk_cell Q3.out i).trans (arr8_get _ hlt)
      have hf := blk_frozen Q3.out i
      have hS : Hid ((w3.setCell ⟨q, i, none⟩ (.string nil256)).heap[q]? = some (.cells (arr8 fun j => if j < i + 1 then nil256 else ⟨#[]⟩) 47 (0, 0))) := by show _ = _; rw [blk_set Q3.out, arr8_set _ hlt, ifs_step]
      go_wp2_with fail
      go_roundw
      case rel => exact ⟨i + 1, by omega, by go_num, hS.out, D3.out.setOther qg.out qm.out qc.out i _, B3.out.setCell ql.out _⟩
      case measure => simp [intOf]; omega
    · have hi : ¬ (i : Int) < 8 := by omega
      obtain rfl : i = 8 := by omega
      have Q3 : Hid (wr.heap[q]? = some (.cells (arr8 fun _ => nil256) 47 (0, 0))) := HQ.out
      go_wp2_with fail
      go_loopw [9] (fun c wr => ∃ (i : Nat) (d : Dk) (f : Nat → ByteArray), i ≤ n ∧ c = .int .i64 i ∧ d.Calm 8 ∧ (∀ j : Nat, j < 8 → d.tell j = f j ∧ (f j).size = 256) ∧ wr.heap[q]? = some (.cells (arr8 f) 47 (0, 0)) ∧ DiskAt wr g mb cb 4096 (.slice none 0 0) d ∧ Below w.heap.size w wr) (fun c _ => n - (intOf c).toNat)
      case atStart => exact ⟨0, d0, fun _ => nil256, Nat.zero_le _, rfl, C0.out, fun j _ => ⟨T0.out j, nil256_size⟩, Q3.out, HD.out, HBl.out⟩
      case round =>
        clear HQ HD HBl Q3
        obtain ⟨i, d, f, hik, rfl, hC, hT, hQ, hD, hB⟩ := hrel
        have HC := Lib.hid hC; have HT := Lib.hid hT; have HQ := Lib.hid hQ; have HD := Lib.hid hD; have HBl := Lib.hid hB
        clear hC hT hQ hD hB
        by_cases hlt : i < n
        · have hi : (i : Int) < (n : Int) := by omega
          have hi0 : (0 : Int) ≤ (i : Int) := by omega
          have h1 : i < l.length := by rw [← Hn.out]; exact hlt
          obtain ⟨b, off, cap, e, hbl, hcl⟩ := HV.out.at h1
          injection e with e1 _ e3
          subst e1 e3
          obtain ⟨hx0, hx1⟩ := HB.out l[i] (List.getElem_mem h1)
          obtain ⟨x, hx⟩ : ∃ x, x = l[i] := ⟨_, rfl⟩
          rw [← hx] at hcl hx0 hx1
          obtain ⟨r, hr8, er, et⟩ := b8 x hx0 hx1
          have hri : (r : Int) < 8 := by omega
          have hr0 : (0 : Int) ≤ (r : Int) := by omega
          have ew : IntKind.i64.wrap (r : Int) = (r : Int) := IntWalk.i64_in _ (by omega)
          have e2 : IntKind.u8.wrap (r : Int) = (r : Int) := by rw [IntKind.wrap_u8]; omega
          have BK := Lib.hid (fun W => law19_Block x hx0 hx1 W)
          have hbq : b ≠ q := by have := ql.out; omega
          have hcx := dk_cell (w' := wr) hcl (HBl.out)
          obtain ⟨S, hS⟩ : ∃ S, S = blk x := ⟨_, rfl⟩
          have hSz : Hid (S.size = 256) := by show _ = _; rw [hS]; exact blk_size x
          rw [← hS] at BK
          have HCL := Lib.hid hcl
          clear hcl hx hS h1 hbl
          have SOf : Hid (∀ W, Below wr.heap.size wr W → W.cell? ⟨b, off + i, none⟩ = some (.int .u8 x)) := fun W h => dk_cell hcx h
          go_upto_region 12 with (fail)
          have D0 : Hid (Below wr.heap.size wr wr.drew) := ⟨rfl, rfl, rfl, Nat.le_refl _, fun _ _ => rfl⟩
          have S0 := SOf.out _ D0.out
          clear hcx
          go_region_held3 (fun w' => w'.cell? ⟨b, off + i, none⟩ = some (.int .u8 x)) (first | exact S0 | exact S9 | assumption)
            (first
              | (go_at_call 19; refine (BK.out _).mono ?_; rintro e y ⟨rfl, hy⟩; have D0 := Lib.hid (bstep D0.out hy); have S0 := SOf.out _ D0.out; have Qy := Lib.hid (blk_below HQ.out D0.out); have hcq := (blk_cell Qy.out r).trans (arr8_get _ hr8); have hfq := blk_frozen Qy.out r; have S9 := set_far (o' := r) S0 hbq (.string S); clear hy))
          have Qz : Hid ((y.setCell ⟨q, r, none⟩ (.string S)).heap[q]? = some (.cells (arr8 (upd8 f r S)) 47 (0, 0))) := by show _ = _; rw [blk_set Qy.out, arr8_set _ hr8]
          have Dz := Lib.hid ((HD.out.below D0.out).setOther qg.out qm.out qc.out r (.string S))
          have Bz := Lib.hid ((bstep HBl.out D0.out).setCell (p := ⟨q, r, none⟩) ql.out (.string S))
          obtain ⟨z, hz⟩ : ∃ z, z = y.setCell ⟨q, r, none⟩ (.string S) := ⟨_, rfl⟩
          rw [← hz] at Qz Dz Bz S9 ⊢
          clear hz S0 hcq hfq
          have WE : d.write (r : Int) S = (d.put (r : Int) S, 0) := HC.out.write ⟨hr0, hri⟩ hSz.out
          have WR := Lib.hid (fun W h1 h2 => disk_Write (r : Int) (wf64_of (by omega) (by omega)) S g mb cb (.slice none 0 0) d aD aA W h1 h2 HC.out.ok)
          simp only [WE] at WR
          have C2 : Hid ((d.put (r : Int) S).Calm 8) := HC.out.put ⟨hr0, hri⟩ hSz.out
          have T2 : Hid (∀ j : Nat, j < 8 → (d.put (r : Int) S).tell j = upd8 f r S j ∧ (upd8 f r S j).size = 256) := fun j hj => by
            rw [tell_put]
            unfold upd8
            by_cases e : j = r
            · subst e; rw [if_pos rfl, if_pos rfl]; exact ⟨rfl, hSz.out⟩
            · rw [if_neg (by omega), if_neg e]; exact HT.out j hj
          obtain ⟨d2, hd2⟩ : ∃ d2, d2 = d.put (r : Int) S := ⟨_, rfl⟩
          obtain ⟨f2, hf2⟩ : ∃ f2, f2 = upd8 f r S := ⟨_, rfl⟩
          rw [← hd2] at WR C2 T2
          rw [← hf2] at T2 Qz
          clear WE hd2 hf2 hri hr0
          go_upto_region 13 with (fail)
          have E0 : Hid (Below z.heap.size z z.drew) := ⟨rfl, rfl, rfl, Nat.le_refl _, fun _ _ => rfl⟩
          have SOz : Hid (∀ W, Below z.heap.size z W → W.cell? ⟨b, off + i, none⟩ = some (.int .u8 x)) := fun W h => dk_cell S9 h
          have S0 := SOz.out _ E0.out
          clear S9
          go_region_held3 (fun w' => w'.cell? ⟨b, off + i, none⟩ = some (.int .u8 x)) (first | exact S0 | exact S9 | assumption)
            (first
              | (go_at_call 19; refine (BK.out _).mono ?_; rintro e y1 ⟨rfl, hy⟩; have E0 := Lib.hid (bstep E0.out hy); have S0 := SOz.out _ E0.out; clear hy)
              | (go_at_call 20; refine (WR.out _ (HW.out.below (bstep Bz.out E0.out)) (Dz.out.below E0.out)).mono ?_; rintro e y2 ⟨rfl, hd, hf⟩; have D3 := Lib.hid hd; have B3 := Lib.hid (frb (bstep Bz.out E0.out) hf lg.out lm.out lc.out); have Q3 := Lib.hid (blk_fr (blk_below Qz.out E0.out) hf (by rintro (h | h | h); exact qg.out h; exact qm.out h; exact qc.out h)); have S9 := dk_cell HCL.out B3.out; clear hd hf))
          clear S9 S0 E0 SOz SOf D0 Qy Qz Dz Bz HQ HD HT HC BK WR
          obtain ⟨k9, hk9, ek⟩ : ∃ k : Nat, k < 9 ∧ fl % 9 = (k : Int) := ⟨(fl % 9).toNat, by omega, by omega⟩
          have ek2 : fl.tmod 9 = (k9 : Int) := by rw [Int.tmod_eq_emod_of_nonneg f0]; exact ek
          have hi0 : (0 : Int) ≤ (i : Int) := by omega
          have hin : (i : Int) < (n : Int) := by omega
          by_cases hc0 : (i : Int) % (1 + (k9 : Int)) = 0
          · have FE : d2.flush = (d2.pour, 0) := C2.out.flush
            have FR := Lib.hid (disk_Flush g mb cb (.slice none 0 0) d2 aD aA y2 (HW.out.below B3.out) D3.out C2.out.ok)
            rw [FE] at FR
            have q1 : ((i : Int) % (1 + (k9 : Int)) == 0) = true := by rw [beq_iff_eq]; exact hc0
            have C3 := Lib.hid C2.out.pour
            clear FE hc0
            go_wp2_with fail
            refine FR.out.mono ?_; rintro e y3 ⟨rfl, hd, hf⟩
            have D4 := Lib.hid hd
            have Q4 := Lib.hid (blk_fr Q3.out hf (by rintro (h | h | h); exact qg.out h; exact qm.out h; exact qc.out h))
            have B4 := Lib.hid (frb B3.out hf lg.out lm.out lc.out)
            clear hd hf
            go_wp2_with fail
            refine (disk_Dirty g mb cb _ d2.pour _ D4.out C3.out.ok.ok0).mono ?_; rintro e y4 ⟨v', rfl, hv', hb4⟩
            rw [dirty_pour] at hv'
            obtain ⟨p', c', rfl, _⟩ := hv'.form
            have D5 := Lib.hid (D4.out.below hb4)
            have Q5 := Lib.hid (blk_below Q4.out hb4)
            have B5 := Lib.hid (bstep B4.out hb4)
            clear hv' hb4
            go_wp2_with fail
            go_roundw
            case rel => exact ⟨i + 1, d2.pour, f2, by omega, by go_num, C3.out, fun j hj => by rw [pour_tell]; exact T2.out j hj, Q5.out, D5.out, B5.out⟩
            case measure => simp [intOf]; omega
          · have q1 : ((i : Int) % (1 + (k9 : Int)) == 0) = false := by rw [beq_eq_false_iff_ne]; exact hc0
            clear hc0
            go_wp2_with fail
            go_roundw
            case rel => exact ⟨i + 1, d2, f2, by omega, by go_num, C2.out, T2.out, Q3.out, D3.out, B3.out⟩
            case measure => simp [intOf]; omega
        · have hi : ¬ (i : Int) < (n : Int) := by omega
          go_wp2_with fail
          clear hi hlt hik
          go_loopw [10, 11] (fun s c wr => ∃ i : Nat, i ≤ 8 ∧ c = .int .i64 i ∧ s = .string (ofL (cat8 f i)) ∧ wr.heap[q]? = some (.cells (arr8 f) 47 (0, 0)) ∧ DiskAt wr g mb cb 4096 (.slice none 0 0) d ∧ Below w.heap.size w wr) (fun _ c _ => 8 - (intOf c).toNat)
          case atStart => exact ⟨0, Nat.zero_le _, rfl, rfl, HQ.out, HD.out, HBl.out⟩
          case round =>
            clear HQ HD HBl
            obtain ⟨i, hik, rfl, rfl, hQ, hD, hB⟩ := hrel
            have HQ := Lib.hid hQ; have HD := Lib.hid hD; have HBl := Lib.hid hB
            clear hQ hD hB
            by_cases hlt : i < 8
            · have hi : (i : Int) < 8 := by omega
              have hi0 : (0 : Int) ≤ (i : Int) := by omega
              have RE : d.read (i : Int) = (f i, 0) := by rw [HC.out.read ⟨hi0, hi⟩, (HT.out i hlt).1]
              have RD := Lib.hid (fun W h1 h2 => disk_Read (i : Int) (wf64_of (by omega) (by omega)) g mb cb 4096 (.slice none 0 0) d aD aA W h1 h2)
              simp only [RE] at RD
              have hl := cat8_len (fun j h => (HT.out j h).2) hik
              have hs := (HT.out i hlt).2
              have hsz : ¬ 9223372036854775807 < (ofL (cat8 f i)).size + (f i).size := by rw [ofL_size, hl]; omega
              have hsn : Hid (ofL (cat8 f i) ++ f i = ofL (cat8 f (i + 1))) := by show _ = _; exact bytes_ext (by rw [list_append, ofL_list, ofL_list, cat8_succ])
              have hcx : ∀ W : World, W.heap[q]? = some (.cells (arr8 f) 47 (0, 0)) → W.cell? ⟨q, i, none⟩ = some (.string (f i)) := fun W h => (blk_cell h i).trans (arr8_get _ hlt)
              obtain ⟨X, hX⟩ : ∃ X, X = f i := ⟨_, rfl⟩
              obtain ⟨A, hA⟩ : ∃ A, A = ofL (cat8 f i) := ⟨_, rfl⟩
              have sx := self_eq X
              rw [← hX] at RD hsz hsn hcx
              rw [← hA] at hsz hsn ⊢
              have HCX := Lib.hid hcx
              clear RE hl hs hX hA hcx
              go_wp2_with fail
              refine (RD.out _ (HW.out.below HBl.out) HD.out).mono ?_; rintro e z1 ⟨rfl, hb⟩
              have D3 := Lib.hid (HD.out.below hb)
              have Q3 := Lib.hid (blk_below HQ.out hb)
              have B3 := Lib.hid (bstep HBl.out hb)
              have hc := HCX.out z1 Q3.out
              clear hb
              go_wp2_with fail
              go_roundw
              case rel => exact ⟨i + 1, by omega, by go_num, by rw [hsn.out], Q3.out, D3.out, B3.out⟩
              case measure => simp [intOf]; omega
            · have hi : ¬ (i : Int) < 8 := by omega
              obtain rfl : i = 8 := by omega
              have FE : d.flush = (d.pour, 0) := HC.out.flush
              have FR := Lib.hid (disk_Flush g mb cb (.slice none 0 0) d aD aA wr (HW.out.below HBl.out) HD.out HC.out.ok)
              rw [FE] at FR
              have C3 := Lib.hid HC.out.pour
              have BY : Hid (ofL d.pour.bytes = ofL (cat8 f 8)) := by show _ = _; rw [bytes_cat (d := d.pour) (f := f) HC.out.n (fun j hj => by rw [pour_at]; exact (HT.out j hj).1)]
              obtain ⟨A, hA⟩ : ∃ A, A = ofL (cat8 f 8) := ⟨_, rfl⟩
              have sx := self_eq A
              rw [← hA] at BY ⊢
              clear FE hA
              go_wp2_with fail
              refine FR.out.mono ?_; rintro e y3 ⟨rfl, hd, hf⟩
              have D4 := Lib.hid hd
              have B4 := Lib.hid (frb HBl.out hf lg.out lm.out lc.out)
              clear hd hf
              go_wp2_with fail
              refine (disk_Bytes g mb cb _ d.pour _ D4.out C3.out.ok.ok0).mono ?_; rintro e y4 ⟨rfl, hb4⟩
              rw [BY.out]
              have D5 := Lib.hid (D4.out.below hb4)
              have B5 := Lib.hid (bstep B4.out hb4)
              clear hb4
              go_wp2_with fail
              refine (disk_Dirty g mb cb _ d.pour _ D5.out C3.out.ok.ok0).mono ?_; rintro e y5 ⟨v', rfl, hv', hb5⟩
              rw [dirty_pour] at hv'
              obtain ⟨p', c', rfl, _⟩ := hv'.form
              have D6 := Lib.hid (D5.out.below hb5)
              have B6 := Lib.hid (bstep B5.out hb5)
              clear hv' hb5
              go_wp2_with fail
              refine (disk_Dead g mb cb 4096 _ d.pour _ D6.out).mono ?_; rintro e y6 ⟨rfl, rfl⟩
              rw [C3.out.dead]
              go_wp2_with fail
              refine (WK.out _ (HW.out.below B6.out)).mono ?_; rintro e y ⟨rfl, hby⟩
              have By := Lib.hid (bstep B6.out hby)
              clear hby
              go_wp2_with fail
              go_ret
              exact ⟨rfl, By.out⟩
end Go.Proofs.YtikgfkghfbfccaaDoor
