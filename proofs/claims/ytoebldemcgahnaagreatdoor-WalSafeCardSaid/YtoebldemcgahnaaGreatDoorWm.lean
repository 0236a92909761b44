/- The log (layer 21): the law WalEmpty. -/
import Derived.Test.YtoebldemcgahnaaGreatDoorWq
import Derived.Test.YtoebldemcgahnaaGreatDoorWi
namespace Go.Proofs.YtoebldemcgahnaaGreatDoor
open Go.RowKit
section
variable {w w' : World} {B p g mb cb : Nat} {kv rv : Value} {n : Int} {lg : Nat} {x : Wl} {d : Dk}
/-- Other blocks, above the base, are written. -/
theorem WalAt.far {S : Nat → Prop} (h : WalAt w B p g mb cb kv rv n lg x d) (hf : Fr S w w') (hS : ∀ b, LgS g mb cb p rv b → ¬ S b) (hB : ∀ b, b < B → ¬ S b) : WalAt w' B p g mb cb kv rv n lg x d :=
  ⟨h.log.fr hf (hS _ (.inr (.inl rfl))) (fun b hb => hS b (.inr (.inr hb))), h.dsk.fr hf (hS _ (.inl (.inl rfl))) (hS _ (.inl (.inr (.inl rfl)))) (hS _ (.inl (.inr (.inr rfl)))) (fun b _ _ _ e => hB b (h.kB _ _ _ _ e)), h.ok, h.dn, h.nl, h.n32, h.pB, h.pS, h.gB, h.rS, h.kB⟩
theorem WalAt.lgS_lt (h : WalAt w B p g mb cb kv rv n lg x d) : ∀ b, LgS g mb cb p rv b → b < w.heap.size := by
  rintro b ((e | e | e) | e | e)
  · rw [e]; exact h.dsk.lt
  · rw [e]; exact h.dsk.hm.lt
  · rw [e]; exact h.dsk.hc.lt
  · rw [e]; exact blk_lt h.log.blk
  · exact (h.log.row.lt b e).2
end
set_option maxRecDepth 100000 in
set_option maxHeartbeats 16000000 in
theorem law21_WalEmpty (va : Value) (As : List ByteArray) (vb : Value) (Bs : List ByteArray) (vk : Value) (kl : List (Int × Int)) (a0 a1 a2 aD aA bD bL bF : Addr) (w : World) (hla : As.length ≤ 9223372036854775807) (_hta : ∀ s ∈ As, s.size ≤ 9223372036854775807) (hva : SlStrs w va As) (hlb : Bs.length ≤ 9223372036854775807) (_htb : ∀ s ∈ Bs, s.size ≤ 9223372036854775807) (hvb : SlStrs w vb Bs) (hlk : kl.length ≤ 9223372036854775807) (_htk : ∀ x ∈ kl, wf64 x.1 ∧ wf64 x.2) (hvk : SlKept w vk kl) (hw : WlW w a0 a1 a2 aD aA bD bL bF) :
    Calls Tryz.prog 5 #[va, vb, vk] w fun e w' => e = .returned (.bool true) ∧ Below w.heap.size w w' := by
  have HW := Lib.hid hw
  have WK := Lib.hid (fun W h => wakes21 a0 a1 a2 aD aA bD bL bF W h)
  have HVA := Lib.hid hva
  have HVB := Lib.hid hvb
  have HVK := Lib.hid hvk
  obtain ⟨pa, ca, rfl, _⟩ := hva.form
  obtain ⟨pb, cvb, rfl, hcb⟩ := hvb.form
  obtain ⟨pk, ck, rfl⟩ := hvk.form
  clear hw hva hvb hvk
  have NW := Lib.hid (disk_New 200 (by decide) (by decide) w)
  obtain ⟨g, hg⟩ : ∃ g, g = w.heap.size + 2 := ⟨_, rfl⟩
  obtain ⟨mb, hmb⟩ : ∃ g, g = w.heap.size := ⟨_, rfl⟩
  obtain ⟨cb, hcb2⟩ : ∃ g, g = w.heap.size + 1 := ⟨_, rfl⟩
  have gB : Hid (∀ b, DkS g mb cb b → w.heap.size ≤ b) := by rintro b (h | h | h) <;> omega
  have NW' : Hid (Calls Tryz.prog 13 #[.int .i64 200] w fun e w' => e = .returned (.tuple #[.pointer (some ⟨g, 0, none⟩), .int .i64 0]) ∧ DiskAt w' g mb cb 0 (.slice none 0 0) (Dk.new 200) ∧ Below w.heap.size w w') := by rw [hg, hmb, hcb2]; exact NW.out
  have C0 : (Dk.new 200).Calm 200 := calm_new (by decide) (by decide)
  have O1 := Lib.hid (fun W k1 k2 => wal_Open 1 (by decide) (by decide) g mb cb (.slice none 0 0) (Dk.new 200) 49 (logs_of (n := 200) (lg := 49) rfl (by decide) (by decide) (by decide)).symm a0 a1 a2 aD aA W k1 k2 C0.ok)
  rw [open_new (lg := 49) (by decide) (by decide) (by decide) (by decide) (by decide), show (Dk.new 200).n = 200 from rfl] at O1
  unfold OpenP at O1
  dsimp only at O1
  have P0 : Hid (PhW 200 49 (Dk.new 200).secs 1 0 0 [] (Dk.new 200)) := PhW.start C0 (by decide) (by decide) (by decide) (area_new 200) (by decide) (by decide) (fun _ => rfl)
  obtain ⟨A0, hA0⟩ : ∃ A, A = (Dk.new 200).secs := ⟨_, rfl⟩
  rw [← hA0] at P0
  obtain ⟨D0, hD0⟩ : ∃ d, d = Dk.new 200 := ⟨_, rfl⟩
  have OK0 : Hid (D0.Ok ∧ D0.n = 200) := by rw [hD0]; exact ⟨C0.ok, rfl⟩
  rw [← hD0] at NW' O1 P0
  clear C0 NW hg hmb hcb2 hD0 hA0
  go_enter Tryz.func5, Tryz.ntmps5
  go_wp2_with fail
  refine NW'.out.mono ?_; rintro e w1 ⟨rfl, hd, hb1⟩
  have H1 : Hid (DiskAt w1 g mb cb 4096 (.slice none 0 0) D0) := ⟨hd.blk, hd.hm.mono (by omega), hd.hc.mono (by omega), hd.hk, hd.n0, hd.n1, hd.gm, hd.gc, hd.mc, hd.kn⟩
  have B1 := Lib.hid hb1
  clear hd hb1 NW'
  go_wp2_with fail
  refine (O1.out _ (HW.out.below B1.out).h H1.out).mono ?_; rintro e w2 ⟨hb, p, rv, rfl, hp, hl⟩
  have W2 := Lib.hid (walAt_open B1.out H1.out OK0.out.1 OK0.out.2 (by decide) (by decide) gB.out (fun b off c m e => by cases e) hb hp hl)
  have B2 := Lib.hid (bstep B1.out hb)
  clear hb hp hl H1 O1 OK0
  by_cases hna : 12 < As.length
  · have q1 : (12 : Int) < (As.length : Int) := by omega
    clear hna
    go_wp2_with fail
    refine (WK.out _ (HW.out.below B2.out)).mono ?_; rintro e w3 ⟨rfl, hb⟩
    have B3 := Lib.hid (bstep B2.out hb)
    clear hb
    go_wp2_with fail
    go_ret
    exact ⟨rfl, B3.out⟩
  have q1 : ¬ (12 : Int) < (As.length : Int) := by omega
  by_cases hnb : 12 < Bs.length
  · have q2 : (12 : Int) < (Bs.length : Int) := by omega
    clear hna hnb
    go_wp2_with fail
    refine (WK.out _ (HW.out.below B2.out)).mono ?_; rintro e w3 ⟨rfl, hb⟩
    have B3 := Lib.hid (bstep B2.out hb)
    clear hb
    go_wp2_with fail
    go_ret
    exact ⟨rfl, B3.out⟩
  have q2 : ¬ (12 : Int) < (Bs.length : Int) := by omega
  by_cases hnk : 100 < kl.length
  · have q3 : (100 : Int) < (kl.length : Int) := by omega
    clear hna hnb hnk
    go_wp2_with fail
    refine (WK.out _ (HW.out.below B2.out)).mono ?_; rintro e w3 ⟨rfl, hb⟩
    have B3 := Lib.hid (bstep B2.out hb)
    clear hb
    go_wp2_with fail
    go_ret
    exact ⟨rfl, B3.out⟩
  have q3 : ¬ (100 : Int) < (kl.length : Int) := by omega
  obtain ⟨na, hn⟩ : ∃ n, n = As.length := ⟨_, rfl⟩
  rw [← hn] at q1 hna
  have Hna := Lib.hid hn
  rw [← hn]
  clear hn hla hlb hlk
  obtain ⟨nb, hn⟩ : ∃ n, n = Bs.length := ⟨_, rfl⟩
  rw [← hn] at q2 hnb
  have Hnb := Lib.hid hn
  rw [← hn]
  clear hn
  go_wp2_with fail
  go_loopw [11] (fun c wr => ∃ (i : Nat) (d : Dk) (rv : Value), i ≤ na ∧ c = .int .i64 i ∧ (∀ s ∈ As.take i, s.size ≤ 600) ∧ PhW 200 49 A0 1 0 0 (As.take i) d ∧ WalAt wr w.heap.size p g mb cb (.slice none 0 0) rv 200 49 ⟨As.take i, 1 + ((As.take i).length : Int), 0 + (layR (numW 1 (As.take i))).length, false⟩ d ∧ Below w.heap.size w wr) (fun c _ => na - (intOf c).toNat)
  case atStart => exact ⟨0, D0, rv, Nat.zero_le _, rfl, (fun s hs => absurd hs (by simp)), P0.out, W2.out, B2.out⟩
  case round =>
    clear W2 B2 P0
    obtain ⟨i, d, rv, hik, rfl, hsm, hPh, hWl, hB⟩ := hrel
    have SM := Lib.hid hsm; have PH := Lib.hid hPh; have WL := Lib.hid hWl; have HB := Lib.hid hB
    clear hsm hPh hWl hB
    by_cases hlt : i < na
    · have hi : (i : Int) < (na : Int) := by omega
      have hi0 : (0 : Int) ≤ (i : Int) := by omega
      have hl : i < As.length := by have := Hna.out; omega
      obtain ⟨b, off, rfl, At⟩ := HVA.out.at hl
      have T1 : Hid (As.take (i + 1) = As.take i ++ [As[i]]) := List.take_succ_eq_append_getElem hl
      have cs := At.at' i hl
      obtain ⟨s, hs⟩ : ∃ s, s = As[i] := ⟨_, rfl⟩
      rw [← hs] at cs T1
      have SOf : Hid (∀ W, Below w.heap.size w W → W.cell? ⟨b, off + i, none⟩ = some (.string s)) := fun W h => dk_cell cs h
      have tl : (As.take i).length = i := by rw [List.length_take]; omega
      have Tl := Lib.hid tl
      have v1 : IntKind.i64.wrap ((i : Int) + 1) = (i : Int) + 1 := IntWalk.i64_in _ (by omega)
      clear cs At hs hl tl
      have cs := SOf.out _ HB.out
      by_cases h6 : 600 < s.size
      · have q6 : (600 : Int) < (s.size : Int) := by omega
        clear h6
        go_wp2_with fail
        refine (WK.out _ (HW.out.below HB.out)).mono ?_; rintro e w3 ⟨rfl, hb⟩
        have B3 := Lib.hid (bstep HB.out hb)
        clear hb
        go_wp2_with fail
        go_ret
        exact ⟨rfl, B3.out⟩
      · have q6 : ¬ (600 : Int) < (s.size : Int) := by omega
        have hbd := layR_le (As.take i) 1 SM.out
        rw [Tl.out] at hbd
        have hz : szN s.size ≤ 3 := by unfold szN; omega
        obtain ⟨d', e1, PH2⟩ := PH.out.append (s := s) (As.take i) (by omega) (by rw [Tl.out]; omega) (by omega)
        have AP := Lib.hid (fun W k1 k2 => wal_Append (p := p) (g := g) (mb := mb) (cb := cb) (kv := .slice none 0 0) (rv := rv) (n := 200) (lg := 49) (x := ⟨As.take i, 1 + ((As.take i).length : Int), 0 + (layR (numW 1 (As.take i))).length, false⟩) (d := d) s a0 a1 a2 aD aA bD bL bF w W HW.out k1 k2)
        rw [e1] at AP
        unfold AppP at AP
        dsimp only at AP
        rw [← T1.out] at AP PH2
        have HPH2 := Lib.hid PH2
        have SM2 : Hid (∀ y ∈ As.take (i + 1), y.size ≤ 600) := fun y hy => by
          rw [T1.out] at hy
          rcases List.mem_append.1 hy with k | k
          · exact SM.out y k
          · have : y = s := by simpa using k
            rw [this]; omega
        clear e1 PH2 hbd hz h6
        go_wp2_with fail
        refine (AP.out _ HB.out WL.out).mono ?_; rintro e w6 ⟨rv6, rfl, hw6, hf6, _⟩
        have W6 := Lib.hid hw6
        have P6 := Lib.hid (WL.out.bel HB.out rfl hf6)
        clear hw6 hf6 WL HB
        go_wp2_with fail
        go_roundw
        case rel => exact ⟨i + 1, d', rv6, by omega, by go_num, SM2.out, HPH2.out, W6.out, P6.out⟩
        case measure => simp [intOf]; omega
    · have hi : ¬ (i : Int) < (na : Int) := by omega
      obtain rfl : i = na := by omega
      have ht : As.take i = As := List.take_of_length_le (by rw [← Hna.out]; exact Nat.le_refl _)
      rw [ht] at PH WL
      have SY := Lib.hid (fun W k1 k2 => wal_Sync (B := w.heap.size) (p := p) (g := g) (mb := mb) (cb := cb) (kv := .slice none 0 0) (rv := rv) (n := 200) (lg := 49) (x := ⟨As, 1 + (As.length : Int), 0 + (layR (numW 1 As)).length, false⟩) (d := d) aD aA W k1 k2)
      rw [sync_calm PH.out.calm rfl] at SY
      dsimp only at SY
      have hq13 : As.length ≤ 12 := by have := Hna.out; omega
      have A1 : Hid (AreaW d.pour.secs (1 + (As.length : Int))) := (PH.out.pour.self (by omega)).area
      have P1 := Lib.hid (PhW.start (lg := 49) (u := 0) PH.out.pour.calm (by decide) (by decide) (by decide) A1.out (by omega) (by decide) (fun j => by rw [pour_at, pour_tell]))
      obtain ⟨q, hq⟩ : ∃ q, q = 1 + (As.length : Int) := ⟨_, rfl⟩
      have NX := Lib.hid (fun W k => wal_Next (B := w.heap.size) (p := p) (g := g) (n := 200) (lg := 49) (rv := rv) (x := ⟨As, 1 + (As.length : Int), 0 + (layR (numW 1 As)).length, false⟩) W k)
      have EM := Lib.hid (fun W k => wal_Empty (B := w.heap.size) (p := p) (g := g) (n := 200) (lg := 49) (rv := rv) (x := ⟨As, 1 + (As.length : Int), 0 + (layR (numW 1 As)).length, false⟩) W k)
      dsimp only at NX EM
      rw [← hq] at NX EM SY WL P1 A1
      have qb : 1 ≤ q ∧ q ≤ 13 := by omega
      obtain ⟨d1, hd1⟩ : ∃ d1, d1 = d.pour := ⟨_, rfl⟩
      rw [← hd1] at SY P1 A1
      obtain ⟨A1s, hA1s⟩ : ∃ A, A = d1.secs := ⟨_, rfl⟩
      rw [← hA1s] at P1 A1
      clear hd1 hA1s ht hq hq13 PH
      go_wp2_with fail
      refine (SY.out _ (HW.out.below HB.out).h.d WL.out).mono ?_; rintro e w3 ⟨rfl, hw3, hf⟩
      have W3 := Lib.hid hw3
      have B3 := Lib.hid (WL.out.bel HB.out rfl hf)
      clear hw3 hf WL HB SY
      go_wp2_with fail
      refine (NX.out _ W3.out.log).mono ?_; rintro e w4 ⟨rfl, rfl⟩
      go_wp2_with fail
      refine (EM.out _ W3.out.log).mono ?_; rintro e w5 ⟨rfl, hl, hf⟩
      have W5 := Lib.hid (W3.out.logged hl (hf.mono (fun _ h => .inl h)) (fun b hb => by cases hb))
      have B5 := Lib.hid (W3.out.bel B3.out rfl (hf.mono (fun _ h => .inr (.inl h))))
      clear hl hf W3 B3 EM NX
      obtain ⟨i0, ih, i1, i2, i3⟩ := info_parts Tryz.info9
      go_wp2_with fail
      go_loopw [13, 14] (fun hv c wr => ∃ (i : Nat) (d : Dk) (rv : Value), i ≤ nb ∧ c = .int .i64 i ∧ (∀ s ∈ Bs.take i, s.size ≤ 600) ∧ PhW 200 49 A1s q 0 0 (Bs.take i) d ∧ WalAt wr w.heap.size p g mb cb (.slice none 0 0) rv 200 49 ⟨Bs.take i, q + ((Bs.take i).length : Int), 0 + (layR (numW q (Bs.take i))).length, false⟩ d ∧ wr.ownsRow w.heap.size 9 1 hv (Bs.take i).length ((Bs.take i).map Value.string) ∧ (∀ b, hv.ownBlock = some b → ¬ LgS g mb cb p rv b) ∧ Below w.heap.size w wr) (fun _ c _ => nb - (intOf c).toNat)
      case atStart => exact ⟨0, d1, .slice none 0 0, Nat.zero_le _, rfl, (fun s hs => absurd hs (by simp)), P1.out, by simpa [layR, numW] using W5.out, ⟨rfl, .inl ⟨rfl, rfl⟩⟩, (fun b hb => by cases hb), B5.out⟩
      case round =>
        clear W5 B5 P1
        obtain ⟨i, d, rv, hik, rfl, hsm, hPh, hWl, hRow, hNl, hB⟩ := hrel
        have SM := Lib.hid hsm; have PH := Lib.hid hPh; have WL := Lib.hid hWl; have HR := Lib.hid hRow; have NL := Lib.hid hNl; have HB := Lib.hid hB
        clear hsm hPh hWl hRow hNl hB
        by_cases hlt : i < nb
        · have hi : (i : Int) < (nb : Int) := by omega
          have hi0 : (0 : Int) ≤ (i : Int) := by omega
          have hl : i < Bs.length := by have := Hnb.out; omega
          obtain ⟨b, off, rfl, At⟩ := HVB.out.at hl
          have T1 : Hid (Bs.take (i + 1) = Bs.take i ++ [Bs[i]]) := List.take_succ_eq_append_getElem hl
          have cs := At.at' i hl
          obtain ⟨s, hs⟩ : ∃ s, s = Bs[i] := ⟨_, rfl⟩
          rw [← hs] at cs T1
          have SOf : Hid (∀ W, Below w.heap.size w W → W.cell? ⟨b, off + i, none⟩ = some (.string s)) := fun W h => dk_cell cs h
          have tl : (Bs.take i).length = i := by rw [List.length_take]; omega
          have Tl := Lib.hid tl
          have v1 : IntKind.i64.wrap ((i : Int) + 1) = (i : Int) + 1 := IntWalk.i64_in _ (by omega)
          have tl65 : (Bs.take i).length ≤ 65536 := by omega
          clear cs At hs hl tl
          have cs := SOf.out _ HB.out
          by_cases h6 : 600 < s.size
          · have q6 : (600 : Int) < (s.size : Int) := by omega
            clear h6
            go_wp2_with fail
            refine (WK.out _ (HW.out.below HB.out)).mono ?_; rintro e w3 ⟨rfl, hb⟩
            have B3 := Lib.hid (bstep HB.out hb)
            clear hb
            go_wp2_with fail
            go_ret
            exact ⟨rfl, B3.out⟩
          · have q6 : ¬ (600 : Int) < (s.size : Int) := by omega
            have hbd := layR_le (Bs.take i) q SM.out
            rw [Tl.out] at hbd
            have hz : szN s.size ≤ 3 := by unfold szN; omega
            obtain ⟨d', e1, PH2⟩ := PH.out.append (s := s) (Bs.take i) (by omega) (by rw [Tl.out]; omega) (by omega)
            have AP := Lib.hid (fun W k1 k2 => wal_Append (p := p) (g := g) (mb := mb) (cb := cb) (kv := .slice none 0 0) (rv := rv) (n := 200) (lg := 49) (x := ⟨Bs.take i, q + ((Bs.take i).length : Int), 0 + (layR (numW q (Bs.take i))).length, false⟩) (d := d) s a0 a1 a2 aD aA bD bL bF w W HW.out k1 k2)
            rw [e1] at AP
            unfold AppP at AP
            dsimp only at AP
            rw [← T1.out] at AP PH2
            have HPH2 := Lib.hid PH2
            have SM2 : Hid (∀ y ∈ Bs.take (i + 1), y.size ≤ 600) := fun y hy => by
              rw [T1.out] at hy
              rcases List.mem_append.1 hy with k | k
              · exact SM.out y k
              · have : y = s := by simpa using k
                rw [this]; omega
            clear e1 PH2 hbd hz h6
            go_wp2_with fail
            refine (AP.out _ HB.out WL.out).mono ?_; rintro e w6 ⟨rv6, rfl, hw6, hf6, hr6⟩
            have W6 := Lib.hid hw6
            have P6 := Lib.hid (WL.out.bel HB.out rfl hf6)
            have R6 := Lib.hid (row_fr HR.out hf6 NL.out)
            have N6 : Hid (∀ b, u13.ownBlock = some b → ¬ LgS g mb cb p rv6 b) := fun b hb => by
              have h1 := (HR.out.lt b hb).2
              rintro (e | e | e)
              · exact NL.out b hb (.inl e)
              · exact NL.out b hb (.inr (.inl e))
              · rcases hr6 b e with k | k
                · exact NL.out b hb (.inr (.inr k))
                · omega
            clear hw6 hf6 hr6 WL HB HR NL cs
            have cs := SOf.out _ P6.out
            go_wp2_with (at_builtin; refine wpList_append_s1 rfl _ _ _ rfl 9 i0 _ Tryz.underlying34 ih i1 i2 i3 (by decide) w.heap.size u13 (Bs.take i) rfl (R6.out.alloc _) w6.heap.size 1 rfl s (blk_cell (blk_new _ _) 0) tl65 (by have := P6.out.size; simp; omega) ?_; intro v' w7 k1 k2 k3; have K1 := Lib.hid k1; have K2 := Lib.hid k2; have K3 := Lib.hid k3; clear k1 k2 k3)
            have FG : Hid (Fr (fun b => u13.ownBlock = some b) w6 w7) := (((Fr.refl (fun b => u13.ownBlock = some b) w6).alloc _).grown K2.out (fun q hq => .inl hq))
            have W7 := Lib.hid (W6.out.far FG.out (fun b hb e => N6.out b e hb) (fun b hb e => by have := (R6.out.lt b e).1; omega))
            have P7 := Lib.hid (bel_row (P6.out.alloc P6.out.size _) (by have := P6.out.size; simp; omega) (R6.out.alloc _) K2.out)
            have R7 : Hid (w7.ownsRow w.heap.size 9 1 v' (Bs.take (i + 1)).length ((Bs.take (i + 1)).map Value.string)) := by show World.ownsRow _ _ _ _ _ _ _; rw [T1.out]; exact K1.out
            have N7 : Hid (∀ b, v'.ownBlock = some b → ¬ LgS g mb cb p rv6 b) := fun b hb => by
              rcases K3.out with h | h
              · exact N6.out b (h.symm.trans hb)
              · intro hL
                have h1 := W6.out.lgS_lt b hL
                have e : some (w6.alloc (.cells #[.string s] 9)).heap.size = some b := h.symm.trans hb
                injection e with e
                simp at e; omega
            go_roundw
            case rel => exact ⟨i + 1, d', rv6, by omega, by go_num, SM2.out, HPH2.out, W7.out, R7.out, N7.out, P7.out⟩
            case measure => simp [intOf]; omega
        · have hi : ¬ (i : Int) < (nb : Int) := by omega
          obtain rfl : i = nb := by omega
          have ht : Bs.take i = Bs := List.take_of_length_le (by rw [← Hnb.out]; exact Nat.le_refl _)
          rw [ht] at PH WL HR
          have hq25 : q + (Bs.length : Int) ≤ 256 := by have := Hnb.out; omega
          obtain ⟨⟨x, ox, rx⟩, hcr⟩ := PH.out.opens hq25
          obtain ⟨x2, j, ox2, rx2, hj⟩ := hcr kl
          have O2 := Lib.hid (fun W k1 k2 => wal_Open q (by omega) (by omega) g mb cb (.slice none 0 0) d 49 PH.out.logs.symm a0 a1 a2 aD aA W k1 k2 PH.out.calm.ok)
          rw [ox, PH.out.calm.n] at O2
          unfold OpenP at O2
          dsimp only at O2
          have cT := calm_crashed PH.out.calm kl
          have O3 := Lib.hid (fun W k1 k2 => wal_Open q (by omega) (by omega) g mb cb (.slice none 0 0) (d.crash kl).start 49 (logs_of (n := 200) (lg := 49) cT.n (by decide) (by decide) (by decide)).symm a0 a1 a2 aD aA W k1 k2 cT.ok)
          rw [ox2, cT.n] at O3
          unfold OpenP at O3
          dsimp only at O3
          have CK := Lib.hid (fun kvv W h1 h2 h3 => disk_Crash kvv kl (by omega) g mb cb (.slice none 0 0) d W h1 PH.out.calm.ok.ok0 h2 h3)
          have ST := Lib.hid (fun W h1 => disk_Start g mb cb 4096 (.slice none 0 0) (d.crash kl) W h1)
          obtain ⟨d4, hd4⟩ : ∃ d4, d4 = d.crash kl := ⟨_, rfl⟩
          have CK2 : Hid (∀ kvv W, DiskAt W g mb cb 4096 (.slice none 0 0) d → SlKept W kvv kl → (∀ b off n c, kvv = .slice (some ⟨b, off, none⟩) n c → ¬ DkS g mb cb b) → Calls Tryz.prog 19 #[.pointer (some ⟨g, 0, none⟩), kvv] W fun e w' => e = .returned (.tuple #[]) ∧ DiskAt w' g mb cb 4096 (.slice none 0 0) d4 ∧ Fr (DkS g mb cb) W w') := by rw [hd4]; exact CK.out
          rw [← hd4] at ST O3
          obtain ⟨d5, hd5⟩ : ∃ d5, d5 = d4.start := ⟨_, rfl⟩
          rw [← hd5] at ST O3
          have RC := Lib.hid (fun B p rv W k => wal_Records (B := B) (p := p) (g := g) (n := 200) (lg := 49) (rv := rv) (x := x) W k)
          have RC2 := Lib.hid (fun B p rv W k => wal_Records (B := B) (p := p) (g := g) (n := 200) (lg := 49) (rv := rv) (x := x2) W k)
          rw [rx] at RC
          rw [rx2] at RC2
          have hjb : j ≤ Bs.length := hj
          have tj : (Bs.take j).length = j := by rw [List.length_take]; omega
          have TX := Lib.hid (fun v u W k1 k2 => keep_Texts v u Bs Bs (by have := Hnb.out; omega) W k1 k2)
          rw [show decide (Bs = Bs) = true from decide_eq_true rfl] at TX
          have TX2 := Lib.hid (fun v u W k1 k2 => keep_Texts v u (Bs.take j) (Bs.take j) (by have := Hnb.out; rw [tj]; omega) W k1 k2)
          rw [show decide (Bs.take j = Bs.take j) = true from decide_eq_true rfl] at TX2
          have HJ : Hid (j ≤ i ∧ (Bs.take j).length = j) := ⟨by have := Hnb.out; omega, tj⟩
          have HVs : Hid (SlStrs wr u13 Bs) := SlStrs.of_own HR.out
          obtain ⟨k0, kh, k1, k2, k3⟩ := info_parts Tryz.info76
          have kl100 : kl.length ≤ 100 := by omega
          clear ox rx hcr ox2 rx2 hj hd4 hd5 CK cT hjb tj ht PH hq25
          go_wp2_with fail
          refine (O2.out _ (HW.out.below HB.out).h WL.out.dsk).mono ?_; rintro e w3 ⟨hb, p2, rv2, rfl, hp2, hl2⟩
          have L3 := Lib.hid hl2
          have W3 := Lib.hid (WL.out.below hb)
          have V3 := Lib.hid (HVs.out.below hb)
          have B3 := Lib.hid (bstep HB.out hb)
          clear hb hp2 hl2 WL HVs HB O2
          go_wp2_with fail
          refine (RC.out _ p2 rv2 _ L3.out).mono ?_; rintro e w4 ⟨v, rfl, hv, hb⟩
          have U4 := Lib.hid hv
          have W4 := Lib.hid (W3.out.below hb)
          have V4 := Lib.hid (V3.out.below hb)
          have B4 := Lib.hid (bstep B3.out hb)
          clear hb hv W3 V3 B3 L3 RC
          go_wp2_with fail
          refine (TX.out _ _ _ U4.out V4.out).mono ?_; rintro e w5 ⟨rfl, hb⟩
          have W5 := Lib.hid (W4.out.below hb)
          have V5 := Lib.hid (V4.out.below hb)
          have B5 := Lib.hid (bstep B4.out hb)
          clear hb W4 V4 B4 U4 TX
          go_wp2_with (at_builtin; refine wpList_append_new rfl _ _ _ rfl 76 k0 _ Tryz.underlying37 kh k1 2 k2 (by omega) _ rfl _ rfl kl.length (ktCells kl) (ktCells_len kl) ((HVK.out.below B5.out).below (below_alloc1 _ _)).cells (by omega) ?_; intro G c w6 m1 m2 m3 m4 m5; have K6 := Lib.hid (SlKept.of_cells m1 m2 (fun h => (m5 h).2)); have E6 := Lib.hid (bstep (below_alloc1 _ _) m3); have B6 := Lib.hid (bstep B5.out E6.out); have W6 := Lib.hid (W5.out.below E6.out); have V6 := Lib.hid (V5.out.below E6.out); have hg : w5.heap.size ≤ G := (m4.elim (fun h => Nat.le_of_eq h.symm) (fun h => by rw [h]; simp)); have HN : Hid (∀ b off n c', Value.slice (some ⟨G, 0, none⟩) kl.length c = .slice (some ⟨b, off, none⟩) n c' → ¬ DkS g mb cb b) := (fun b off n c' e => by injection e with e _ _; injection e with e; injection e with e _ _; have e1 := W5.out.dsk.lt; have e2 := W5.out.dsk.hm.lt; have e3 := W5.out.dsk.hc.lt; rintro (h | h | h) <;> omega); clear m1 m2 m3 m4 m5 hg)
          refine (CK2.out _ _ W6.out.dsk K6.out HN.out).mono ?_; rintro e w7 ⟨rfl, hd, hf⟩
          have D7 := Lib.hid hd
          have V7 := Lib.hid (V6.out.disk W6.out.dsk hf)
          have B7 := Lib.hid (frb B6.out hf (gB.out _ (.inl rfl)) (gB.out _ (.inr (.inl rfl))) (gB.out _ (.inr (.inr rfl))))
          clear hd hf W6 V6 B6 K6 HN CK2 E6 W5 V5 B5
          go_wp2_with fail
          refine (ST.out _ D7.out).mono ?_; rintro e w8 ⟨rfl, hd, hf⟩
          have hf := hf.mono (T := DkS g mb cb) (fun _ h => .inl h)
          have D8 := Lib.hid hd
          have V8 := Lib.hid (V7.out.disk D7.out hf)
          have B8 := Lib.hid (frb B7.out hf (gB.out _ (.inl rfl)) (gB.out _ (.inr (.inl rfl))) (gB.out _ (.inr (.inr rfl))))
          clear hd hf D7 V7 B7 ST
          go_wp2_with fail
          refine (O3.out _ (HW.out.below B8.out).h D8.out).mono ?_; rintro e w9 ⟨hb, p3, rv3, rfl, hp3, hl3⟩
          have L9 := Lib.hid hl3
          have V9' := Lib.hid (V8.out.below hb)
          have B9' := Lib.hid (bstep B8.out hb)
          clear hb hp3 hl3 D8 V8 B8 O3
          go_wp2_with fail
          refine (RC2.out _ p3 rv3 _ L9.out).mono ?_; rintro e w9b ⟨v9, rfl, hv, hb⟩
          have V9 := Lib.hid hv
          have U9 := Lib.hid (V9'.out.below hb)
          have B9 := Lib.hid (bstep B9'.out hb)
          obtain ⟨pv9, cv9, rfl, _⟩ := hv.form
          rw [HJ.out.2] at V9 ⊢
          obtain ⟨hj1, hj2⟩ := HJ.out
          have q5 : (j : Int) ≤ (i : Int) := by omega
          have q6 : (0 : Int) ≤ (j : Int) := by omega
          have dq5 : decide ((j : Int) ≤ (i : Int)) = true := decide_eq_true q5
          clear hb hv V9' B9' L9 RC2
          rcases U9.out with ⟨hv13, hBn⟩ | ⟨G, off, cap, hv13, hcap, hAt⟩
          · have hi0 : i = 0 := by rw [Hnb.out, hBn]; rfl
            have hj0 : j = 0 := by omega
            subst hv13
            have HVt : Hid (SlStrs w9b (.slice none 0 0) (Bs.take j)) := .inl ⟨rfl, by rw [hj0]; rfl⟩
            clear hj1 hj2
            subst hj0
            subst hi0
            go_wp2_with fail
            refine (TX2.out _ _ _ V9.out HVt.out).mono ?_; rintro e w10 ⟨rfl, hb⟩
            have B10 := Lib.hid (bstep B9.out hb)
            clear hb
            go_wp2_with fail
            refine (WK.out _ (HW.out.below B10.out)).mono ?_; rintro e w11 ⟨rfl, hb⟩
            have B11 := Lib.hid (bstep B10.out hb)
            clear hb
            go_wp2_with fail
            go_ret
            exact ⟨rfl, B11.out⟩
          · rw [← Hnb.out] at hv13 hcap
            have q7 : (i : Int) ≤ (cap : Int) := by omega
            have q8 : (j : Int) ≤ (cap : Int) := by omega
            have HVt : Hid (SlStrs w9b (.slice (some ⟨G, off, none⟩) j cap) (Bs.take j)) := .inr ⟨G, off, cap, by rw [hj2], by rw [hj2]; omega, hAt.take j⟩
            subst hv13
            clear hj1 hj2 hAt
            go_wp2_with fail
            refine (TX2.out _ _ _ V9.out HVt.out).mono ?_; rintro e w10 ⟨rfl, hb⟩
            have B10 := Lib.hid (bstep B9.out hb)
            clear hb
            go_wp2_with fail
            refine (WK.out _ (HW.out.below B10.out)).mono ?_; rintro e w11 ⟨rfl, hb⟩
            have B11 := Lib.hid (bstep B10.out hb)
            clear hb
            go_wp2_with fail
            go_ret
            exact ⟨rfl, B11.out⟩
end Go.Proofs.YtoebldemcgahnaaGreatDoor
