/- The log (layer 21): Append. -/
import Derived.Test.YtdbiebnnogjccaaGreatDoorBk
import Derived.Test.YtdbiebnnogjccaaGreatDoorAp
import Derived.Test.YtdbiebnnogjccaaGreatDoorFc
import Derived.Deep.RegionHeld3
namespace Go.Proofs.YtdbiebnnogjccaaGreatDoor
open Go.RowKit
theorem makeF_ok {n : Int} {s : List UInt8} (h0 : n ≠ 0) (h1 : s.length ≤ 2000) : makeF n s = (secsF n s, 0) := by unfold makeF; rw [if_neg h0, if_neg (by omega)]
theorem writes_cons {d : Dk} {i : Int} {s : ByteArray} {L : List ByteArray} (h : (d.write i s).2 = 0) : d.writes i (s :: L) = (d.write i s).1.writes (i + 1) L := by simp only [Dk.writes]; rw [if_neg (fun k => k h)]
theorem writes_stop {d : Dk} {i : Int} {s : ByteArray} {L : List ByteArray} (h : (d.write i s).2 ≠ 0) : d.writes i (s :: L) = d.write i s := by simp only [Dk.writes]; rw [if_pos h]
theorem write_nW (d : Dk) (i : Int) (s : ByteArray) : (d.write i s).1.n = d.n := by
  unfold Dk.write
  split
  · rfl
  · split
    · rfl
    · split
      · show (((d.put i s).tick).crash d.keep).n = _; unfold Dk.crash Dk.tick; split <;> split <;> rfl
      · show ((d.put i s).tick).n = _; unfold Dk.tick; split <;> rfl
theorem row_form {w : World} {B : Nat} {e : TypeId} {s n : Nat} {v : Value} {xs : List Value} (h : w.ownsRow B e s v n xs) (h0 : n ≠ 0) : ∃ G c, v = .slice (some ⟨G, 0, none⟩) n c := by
  rcases h.2 with ⟨_, e⟩ | ⟨g, cap, cur, e, _⟩
  · exact absurd e h0
  · exact ⟨g, cap, e⟩
/-- Behind an appending. -/
def AppP (B p g mb cb : Nat) (kv rv : Value) (n : Int) (lg : Nat) (r : Dk × Wl × Int) (w : World) (e : Ending) (w' : World) : Prop :=
  ∃ rv', e = .returned (.int .i64 r.2.2) ∧ WalAt w' B p g mb cb kv rv' n lg r.2.1 r.1 ∧ Fr (LgS g mb cb p rv) w w' ∧ ∀ b, rv'.ownBlock = some b → rv.ownBlock = some b ∨ w.heap.size ≤ b
section
variable {p g mb cb : Nat} {kv rv : Value} {n : Int} {lg : Nat} {x : Wl} {d : Dk}
set_option maxRecDepth 20000 in
set_option maxHeartbeats 8000000 in
theorem wal_Append (s : ByteArray) (a0 a1 a2 aD aA bD bL bF : Addr) (w0 w : World) (hw : WlW w0 a0 a1 a2 aD aA bD bL bF) (hb0 : Below w0.heap.size w0 w) (h : WalAt w w0.heap.size p g mb cb kv rv n lg x d) :
    Calls Tryz.prog 14 #[.pointer (some ⟨p, 0, none⟩), .string s] w (AppP w0.heap.size p g mb cb kv rv n lg (d.append x lg s) w) := by
  have HW := Lib.hid hw
  have H := Lib.hid h
  have B0 := Lib.hid hb0
  have MY := Lib.hid (wal_may s a0 a1 a2 aD aA bD bL bF w (hw.below hb0) h.log)
  have x0 := h.log.x0
  have x1 := h.log.x1
  have us := h.log.us
  have l1 := h.log.l1
  have rl := h.log.rl
  clear hw h hb0
  by_cases hm : x.may lg s ≠ 0
  · have hc3 : x.may lg s = 74 ∨ x.may lg s = 2 ∨ x.may lg s = 73 := by
      rcases walmay_cases x lg s with h | h | h | h
      · exact .inl h
      · exact .inr (.inl h)
      · exact .inr (.inr h)
      · exact absurd h hm
    rw [show d.append x lg s = (d, x, x.may lg s) by unfold Dk.append; rw [if_pos hm]]
    obtain ⟨c, hc⟩ : ∃ c, c = x.may lg s := ⟨_, rfl⟩
    rw [← hc] at MY hm hc3 ⊢
    unfold whyV at MY
    rw [if_neg hm] at MY
    have TL := Lib.hid (fun W k => wal_told c hc3 a0 a1 a2 aD aA bD bL bF W k)
    clear hc hm hc3
    go_enter Tryz.func14, Tryz.ntmps14
    go_wp2_with fail
    refine MY.out.mono ?_; rintro e w1 ⟨rfl, k, hk⟩
    have B1 : Hid (Below w.heap.size w w1) := by show Below _ _ _; rw [hk]; exact below_dN w k
    clear hk
    go_wp2_with fail
    refine (TL.out _ ((HW.out.below B0.out).below B1.out)).mono ?_; rintro e w2 ⟨rfl, rfl⟩
    go_wp2_with fail
    go_ret
    exact ⟨rv, rfl, H.out.below B1.out, Fr.of_below B1.out, fun b hb => .inl hb⟩
  have hm0 : x.may lg s = 0 := Decidable.not_not.1 hm
  rw [hm0] at MY
  unfold whyV at MY
  rw [if_pos rfl] at MY
  -- it may be written
  obtain ⟨m1, m2, m3⟩ : x.dead = false ∧ s.size ≤ 2000 ∧ (szN s.size + x.used ≤ lg ∧ x.next ≤ 2147483648) := by
    unfold Wl.may at hm0
    split at hm0
    · exact absurd hm0 (by decide)
    · rename_i hd
      split at hm0
      · exact absurd hm0 (by decide)
      · rename_i hs
        split at hm0
        · exact absurd hm0 (by decide)
        · rename_i hf
          rw [sizeF_nat (by omega)] at hf
          refine ⟨by simpa using hd, by omega, ?_, ?_⟩ <;> omega
  have hsl : s.data.toList.length = s.size := size_list s
  have MK := Lib.hid (fun W k1 k2 => frame_Make x.next (by omega) (by omega) s (by omega) W k1 k2)
  rw [makeF_ok (n := x.next) (s := s.data.toList) (by omega) (by omega)] at MK
  obtain ⟨M, hM⟩ : ∃ M, M = (secsF x.next s.data.toList).map ofL := ⟨_, rfl⟩
  have ML : M.length = szN s.size := by rw [hM, List.length_map, secsF_length, hsl]
  have hap : d.append x lg s = (if (d.writes (2 + (x.used : Int)) M).2 ≠ 0 then ((d.writes (2 + (x.used : Int)) M).1, { x with dead := true }, (d.writes (2 + (x.used : Int)) M).2) else ((d.writes (2 + (x.used : Int)) M).1, ⟨x.recs ++ [s], x.next + 1, x.used + szN s.size, false⟩, 0)) := by
    unfold Dk.append; rw [if_neg hm, hM]
  dsimp only at MK
  rw [← hM] at MK
  have HAP := Lib.hid hap
  have u1 : IntKind.u32.wrap x.next = x.next := by rw [IntKind.wrap_u32]; omega
  have u2 : IntKind.u64.wrap (x.next + 1) = x.next + 1 := by rw [IntKind.wrap_u64]; omega
  have u3 : IntKind.i64.wrap (2 + (x.used : Int)) = 2 + (x.used : Int) := IntWalk.i64_in _ (by omega)
  obtain ⟨k, hk⟩ : ∃ k, k = M.length := ⟨_, rfl⟩
  have HK := Lib.hid hk
  have k9 : k ≤ 9 := by rw [hk, ML]; exact sz_le m2
  have KS : Hid (k = szN s.size) := by show _ = _; rw [hk, ML]
  have u4 : IntKind.i64.wrap ((x.used : Int) + (k : Int)) = (x.used : Int) + (k : Int) := IntWalk.i64_in _ (by omega)
  have XN : Hid (x.next ≤ 2147483648) := m3.2
  have FIT : Hid (k + x.used ≤ lg) := by show _ ≤ _; rw [hk, ML]; exact m3.1
  obtain ⟨i0, ih, i1, i2, i3⟩ := info_parts Tryz.info9
  have MD := Lib.hid m1
  clear hm hm0 hM ML hap hsl m2 m3 m1
  have hc := blk_cell H.out.log.blk
  unfold lgCells at hc
  rw [MD.out] at hc
  go_enter Tryz.func14, Tryz.ntmps14
  go_wp2_with fail
  refine MY.out.mono ?_; rintro e w1 ⟨rfl, kd, hkd⟩
  have B1 : Hid (Below w.heap.size w w1) := by show Below _ _ _; rw [hkd]; exact below_dN w kd
  clear hkd hc
  have hc := blk_cell (H.out.below B1.out).log.blk
  unfold lgCells at hc
  rw [MD.out] at hc
  go_wp2_with fail
  refine (MK.out _ ((HW.out.below B0.out).below B1.out).h.f.et ((HW.out.below B0.out).below B1.out).h.f.tbl).mono ?_; rintro e w2 ⟨v, rfl, hv, hb⟩
  have B2 := Lib.hid (bstep B1.out hb)
  have HV := Lib.hid hv
  obtain ⟨pv, cv, rfl, _⟩ := hv.form
  clear hb hv hc
  rw [← hk] at HV ⊢
  clear hk
  have H2 := Lib.hid (H.out.below B2.out)
  have F2 : Hid (Fr (LgS g mb cb p rv) w w2) := Fr.of_below B2.out
  have P2 := Lib.hid (H2.out.bel (bstep B0.out B2.out) rfl (Fr.refl _ _))
  go_wp2_with fail
  go_loopw [35] (fun c wr => ∃ (i : Nat) (di : Dk), i ≤ k ∧ c = .int .i64 i ∧ d.writes (2 + (x.used : Int)) M = di.writes (2 + (x.used : Int) + i) (M.drop i) ∧ WalAt wr w0.heap.size p g mb cb kv rv n lg x di ∧ SlStrs wr (.slice pv k cv) M ∧ Fr (LgS g mb cb p rv) w wr ∧ Below w0.heap.size w0 wr) (fun c _ => k - (intOf c).toNat)
  case atStart => exact ⟨0, d, Nat.zero_le _, rfl, by simp, H2.out, HV.out, F2.out, P2.out⟩
  case round =>
    clear H2 F2 P2 HV
    obtain ⟨i, di, hik, rfl, hwr, hH, hV, hF, hP⟩ := hrel
    have HX := Lib.hid hwr; have H3 := Lib.hid hH; have HV := Lib.hid hV; have F3 := Lib.hid hF; have P3 := Lib.hid hP
    clear hwr hH hV hF hP
    by_cases hlt : i < k
    · have hi : (i : Int) < (k : Int) := by omega
      have hi0 : (0 : Int) ≤ (i : Int) := by omega
      have hl : i < M.length := by have := HK.out; omega
      have fit := FIT.out
      have v3 : IntKind.i64.wrap (2 + (x.used : Int) + (i : Int)) = 2 + (x.used : Int) + (i : Int) := IntWalk.i64_in _ (by omega)
      obtain ⟨b, off, rfl, A⟩ : ∃ b off, pv = some ⟨b, off, none⟩ ∧ StrsAt wr b off M := by
        have h := HV.out
        rw [HK.out] at h
        exact h.at hl
      obtain ⟨S, hS⟩ : ∃ S, S = M[i] := ⟨_, rfl⟩
      have c0 := A.at' i hl
      rw [← hS] at c0
      have hdr : M.drop i = S :: M.drop (i + 1) := by rw [hS]; exact List.drop_eq_getElem_cons hl
      have HDR := Lib.hid hdr
      have SOf : Hid (∀ W, Below wr.heap.size wr W → W.cell? ⟨b, off + i, none⟩ = some (.string S)) := fun W h => dk_cell c0 h
      clear A hS hdr hl
      have hc := blk_cell H3.out.log.blk
      have hfz := blk_frozen H3.out.log.blk
      unfold lgCells at hc
      have CO : Hid (∀ W, Below wr.heap.size wr W → W.cell? ⟨p, 0, none⟩ = some (.pointer (some ⟨g, 0, none⟩)) ∧ W.cell? ⟨p, 1, none⟩ = some (.int .i64 2) ∧ W.cell? ⟨p, 7, none⟩ = some (.int .i64 (x.used : Int))) := fun W h => ⟨dk_cell (hc 0) h, dk_cell (hc 1) h, dk_cell (hc 7) h⟩
      have WR := Lib.hid (fun W k1 k2 => disk_Write (2 + (x.used : Int) + (i : Int)) (wf64_of (by omega) (by omega)) S g mb cb kv di aD aA W k1 k2 H3.out.ok)
      clear hc hfz
      obtain ⟨d2, c2, hd2⟩ : ∃ d2 c2, di.write (2 + (x.used : Int) + (i : Int)) S = (d2, c2) := ⟨_, _, rfl⟩
      have OK2 : Hid d2.Ok := by have := H3.out.ok.write (2 + (x.used : Int) + (i : Int)) S; rw [hd2] at this; exact this
      have N2 : Hid (d2.n = di.n) := by have := write_nW di (2 + (x.used : Int) + (i : Int)) S; rw [hd2] at this; exact this
      rw [hd2] at WR
      have HD2 := Lib.hid hd2
      clear hd2
      dsimp only at WR
      go_upto_region 12 with (fail)
      have BN : Hid (Below wr.heap.size wr wr.drew) := ⟨rfl, rfl, rfl, Nat.le_refl _, fun _ _ => rfl⟩
      have S0 := CO.out _ BN.out
      clear c0
      go_region_held3 (fun w' => w'.cell? ⟨p, 0, none⟩ = some (.pointer (some ⟨g, 0, none⟩)) ∧ w'.cell? ⟨p, 1, none⟩ = some (.int .i64 2) ∧ w'.cell? ⟨p, 7, none⟩ = some (.int .i64 (x.used : Int))) (first | exact S0 | exact S9 | assumption)
        (first
          | (go_at_call 33; refine (WR.out _ (HW.out.below (bstep P3.out BN.out)).h.d (H3.out.dsk.below BN.out)).mono ?_; rintro e y ⟨rfl, hd, hf⟩; have H4 := Lib.hid ((H3.out.below BN.out).wrote hd hf OK2.out N2.out); have V4 := Lib.hid ((HV.out.below BN.out).disk (H3.out.dsk.below BN.out) hf); have F4 := Lib.hid ((F3.out.trans (Fr.of_below BN.out)).trans (hf.mono (T := LgS g mb cb p rv) (fun _ h => .inl h))); have P4 := Lib.hid ((H3.out.below BN.out).bel (bstep P3.out BN.out) rfl (hf.mono (T := LgS g mb cb p rv) (fun _ h => .inl h))); have hq := blk_cell H4.out.log.blk; have S9 : y.cell? ⟨p, 0, none⟩ = some (.pointer (some ⟨g, 0, none⟩)) ∧ y.cell? ⟨p, 1, none⟩ = some (.int .i64 2) ∧ y.cell? ⟨p, 7, none⟩ = some (.int .i64 (x.used : Int)) := ⟨hq 0, hq 1, hq 7⟩; clear hq hd hf))
      clear S9 S0
      by_cases hcc : c2 = 0
      · have q1 : (c2 != 0) = false := by rw [hcc]; rfl
        have HX2 : Hid (d.writes (2 + (x.used : Int)) M = d2.writes (2 + (x.used : Int) + ((i + 1 : Nat) : Int)) (M.drop (i + 1))) := by
          show _ = _
          have hz : (di.write (2 + (x.used : Int) + (i : Int)) S).2 = 0 := by rw [HD2.out]; exact hcc
          have e : (2 + (x.used : Int) + (i : Int)) + 1 = 2 + (x.used : Int) + ((i + 1 : Nat) : Int) := by omega
          rw [HX.out, HDR.out, writes_cons hz, HD2.out, e]
        clear hcc
        go_wp2_with fail
        go_roundw
        case rel => exact ⟨i + 1, d2, by omega, by go_num, HX2.out, H4.out, V4.out, F4.out, P4.out⟩
        case measure => simp [intOf]; omega
      · have q1 : (c2 != 0) = true := by rw [bne_iff_ne]; exact hcc
        have hz : (di.write (2 + (x.used : Int) + (i : Int)) S).2 ≠ 0 := by rw [HD2.out]; exact hcc
        have EW : Hid (d.append x lg s = (d2, { x with dead := true }, c2)) := by
          show _ = _
          have e : d.writes (2 + (x.used : Int)) M = (d2, c2) := by rw [HX.out, HDR.out, writes_stop hz, HD2.out]
          rw [HAP.out, e, if_pos hcc]
        clear hcc hz
        have hq := blk_cell H4.out.log.blk
        have hqf := blk_frozen H4.out.log.blk
        unfold lgCells at hq
        rw [MD.out] at hq
        have L5 := Lib.hid (H4.out.log.set (x' := { x with dead := true }) 8 (.bool true) (by simp [lgCells]) rfl H4.out.log.x0 H4.out.log.x1 H4.out.log.us H4.out.log.rl)
        have H5 := Lib.hid (H4.out.logged L5.out (fr_set (.inl rfl) _ _) (fun b hb => .inl hb))
        have F5 := Lib.hid (F4.out.trans (fr_set (S := LgS g mb cb p rv) (w := y) (.inr (.inl rfl)) 8 (.bool true)))
        have FIN : Hid (AppP w0.heap.size p g mb cb kv rv n lg (d.append x lg s) w (.returned (.int .i64 c2)) (y.setCell ⟨p, 8, none⟩ (.bool true))) := by
          show AppP _ _ _ _ _ _ _ _ _ _ _ _ _
          rw [EW.out]
          exact ⟨rv, rfl, H5.out, F5.out, fun b hb => .inl hb⟩
        clear L5 H5 F5 EW
        go_wp2_with fail
        go_ret
        exact FIN.out
    · have hi : ¬ (i : Int) < (k : Int) := by omega
      have EW : Hid (d.append x lg s = (di, ⟨x.recs ++ [s], x.next + 1, x.used + k, false⟩, 0)) := by
        show _ = _
        have e : d.writes (2 + (x.used : Int)) M = (di, 0) := by
          rw [HX.out, List.drop_eq_nil_of_le (by have := HK.out; omega)]; rfl
        rw [HAP.out, e, if_neg (fun h => h rfl), KS.out]
      have hc := blk_cell H3.out.log.blk
      unfold lgCells at hc
      have FITN : x.used + k ≤ lg := by have := FIT.out; omega
      clear MY MK HX HV HAP hi
      go_wp2_with (at_builtin; refine wpList_append_s1 rfl _ _ _ rfl 9 i0 _ Tryz.underlying34 ih i1 i2 i3 (by decide) w0.heap.size rv x.recs rfl (H3.out.log.row.alloc _) wr.heap.size 1 rfl s (blk_cell (blk_new _ _) 0) (by omega) (by have := P3.out.size; simp; omega) ?_; intro v' w5 k1 k2 k3; obtain ⟨G5, c5, hv5⟩ := row_form k1 (by simp); rw [show (x.recs ++ [s]).length = x.recs.length + 1 from (by simp)] at hv5; subst hv5; have K1 := Lib.hid k1; have K2 := Lib.hid k2; have K3 := Lib.hid k3; have b5 : w5.heap[p]? = some (.cells (lgCells g n lg rv x) 116 (0, 0)) := (k2.block p (by have := blk_lt H3.out.log.blk; simp; omega) (fun e => H3.out.log.rp e.symm)).trans (blk_alloc H3.out.log.blk); have b6 : (w5.setCell ⟨p, 5, none⟩ (.slice (some ⟨G5, 0, none⟩) (x.recs.length + 1) c5)).heap[p]? = some (.cells (lgCells g n lg (.slice (some ⟨G5, 0, none⟩) (x.recs.length + 1) c5) x) 116 (0, 0)) := (by rw [blk_set b5]; simp [lgCells]); have b7 : ((w5.setCell ⟨p, 5, none⟩ (.slice (some ⟨G5, 0, none⟩) (x.recs.length + 1) c5)).setCell ⟨p, 7, none⟩ (.int .i64 ((x.used : Int) + (k : Int)))).heap[p]? = some (.cells (lgCells g n lg (.slice (some ⟨G5, 0, none⟩) (x.recs.length + 1) c5) { x with used := x.used + k }) 116 (0, 0)) := (by rw [blk_set b6]; simp [lgCells]); have b8 : (((w5.setCell ⟨p, 5, none⟩ (.slice (some ⟨G5, 0, none⟩) (x.recs.length + 1) c5)).setCell ⟨p, 7, none⟩ (.int .i64 ((x.used : Int) + (k : Int)))).setCell ⟨p, 6, none⟩ (.int .u64 (x.next + 1))).heap[p]? = some (.cells (lgCells g n lg (.slice (some ⟨G5, 0, none⟩) (x.recs.length + 1) c5) { x with used := x.used + k, next := x.next + 1 }) 116 (0, 0)) := (by rw [blk_set b7]; simp [lgCells]); have BL := Lib.hid b8; have hq5 := blk_cell b5; have hf5 := blk_frozen b5; have hq6 := blk_cell b6; have hf6 := blk_frozen b6; have hq7 := blk_cell b7; have hf7 := blk_frozen b7; unfold lgCells at hq5 hq6 hq7; clear k1 k2 k3 b5 b6 b7 b8 hc)
      have Gp : G5 ≠ p := by
        rintro rfl
        have hlt := blk_lt H3.out.log.blk
        rcases K3.out with h | h
        · exact H3.out.log.rp h.symm
        · have h : some G5 = some _ := h
          injection h with h
          simp at h; omega
      have hrow : ∀ b, (Value.slice (some ⟨G5, 0, none⟩) (x.recs.length + 1) c5).ownBlock = some b → ¬ (b = p) := fun b hb e => by
        have hb : some G5 = some b := hb
        injection hb with hb
        exact Gp (hb.trans e)
      have L8 : LogAt (((w5.setCell ⟨p, 5, none⟩ (.slice (some ⟨G5, 0, none⟩) (x.recs.length + 1) c5)).setCell ⟨p, 7, none⟩ (.int .i64 ((x.used : Int) + (k : Int)))).setCell ⟨p, 6, none⟩ (.int .u64 (x.next + 1))) w0.heap.size p g n lg (.slice (some ⟨G5, 0, none⟩) (x.recs.length + 1) c5) ⟨x.recs ++ [s], x.next + 1, x.used + k, false⟩ := by
        refine ⟨?_, row_fr (row_fr (row_fr K1.out (fr_set (S := fun q => q = p) rfl _ _) hrow) (fr_set (S := fun q => q = p) rfl _ _) hrow) (fr_set (S := fun q => q = p) rfl _ _) hrow, fun e => hrow _ e rfl, by show 1 ≤ x.next + 1; omega, ?_, FITN, ?_, l1⟩
        · have h := BL.out
          unfold lgCells at h ⊢
          rw [MD.out] at h
          exact h
        · show x.next + 1 ≤ 2147483649
          have := XN.out; omega
        · show (x.recs ++ [s]).length ≤ x.used + k
          have := sz_pos s.size
          rw [← KS.out] at this
          simp; omega
      have FS : Fr (fun b => b = p ∨ rv.ownBlock = some b) wr (((w5.setCell ⟨p, 5, none⟩ (.slice (some ⟨G5, 0, none⟩) (x.recs.length + 1) c5)).setCell ⟨p, 7, none⟩ (.int .i64 ((x.used : Int) + (k : Int)))).setCell ⟨p, 6, none⟩ (.int .u64 (x.next + 1))) :=
        ((((((Fr.refl _ wr).alloc _).grown K2.out (fun q hq => .inl (.inr hq))).trans (fr_set (.inl rfl) _ _)).trans (fr_set (.inl rfl) _ _)).trans (fr_set (.inl rfl) _ _))
      have W8 := H3.out.logged L8 FS (fun b hb => by
        rcases K3.out with h | h
        · exact .inl (h.symm.trans hb)
        · refine .inr ?_
          have e : some (wr.alloc (.cells #[.string s] 9)).heap.size = some b := h.symm.trans hb
          injection e with e
          simp at e; omega)
      have F8 : Fr (LgS g mb cb p rv) w (((w5.setCell ⟨p, 5, none⟩ (.slice (some ⟨G5, 0, none⟩) (x.recs.length + 1) c5)).setCell ⟨p, 7, none⟩ (.int .i64 ((x.used : Int) + (k : Int)))).setCell ⟨p, 6, none⟩ (.int .u64 (x.next + 1))) := F3.out.trans (FS.mono fun b h => .inr h)
      have FIN : AppP w0.heap.size p g mb cb kv rv n lg (d.append x lg s) w (.returned (.int .i64 0)) (((w5.setCell ⟨p, 5, none⟩ (.slice (some ⟨G5, 0, none⟩) (x.recs.length + 1) c5)).setCell ⟨p, 7, none⟩ (.int .i64 ((x.used : Int) + (k : Int)))).setCell ⟨p, 6, none⟩ (.int .u64 (x.next + 1))) := by
        rw [EW.out]
        refine ⟨_, rfl, W8, F8, fun b hb => ?_⟩
        rcases K3.out with h | h
        · exact .inl (h.symm.trans hb)
        · refine .inr ?_
          have e : some (wr.alloc (.cells #[.string s] 9)).heap.size = some b := h.symm.trans hb
          injection e with e
          have := F3.out.size
          simp at e; omega
      have FH := Lib.hid FIN
      clear FIN L8 FS W8 F8
      go_ret
      exact FH.out
end
end Go.Proofs.YtdbiebnnogjccaaGreatDoor
