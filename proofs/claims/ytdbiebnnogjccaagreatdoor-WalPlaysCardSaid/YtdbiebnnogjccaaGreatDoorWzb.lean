/- The log (layer 21): the reference's Append. -/
import Derived.Test.YtdbiebnnogjccaaGreatDoorWg
namespace Go.Proofs.YtdbiebnnogjccaaGreatDoor
open Go.RowKit
/-- Behind an appending. -/
def RAppP (y q sb cb c1 c2 nn : Nat) (kr vr : Value) (n : Int) (lg : Nat) (r : Dk × Wl × Int) (w : World) (e : Ending) (w' : World) : Prop :=
  ∃ vr', e = .returned (.int .i64 r.2.2) ∧ RlQ w' y q sb cb c1 c2 nn kr vr' n lg r.2.1 r.1 ∧ Fr (RlS q sb cb y) w w' ∧ (vr' = vr ∨ ∀ b, vr'.ownBlock = some b → w.heap.size ≤ b)
section
variable {y q sb cb c1 c2 nn : Nat} {kr vr : Value} {n : Int} {lg : Nat} {x : Wl} {d : Dk}
theorem SlStrs.frB {B : Nat} {S : Nat → Prop} {w w' : World} {v : Value} {l : List ByteArray} (h : SlStrs w v l) (hf : Fr S w w') (hv : ∀ b, v.ownBlock = some b → B ≤ b) (hs : ∀ b, S b → b < B) : SlStrs w' v l :=
  h.frN hf fun b off m c e _ hb => by
    have h1 := hv b (by rw [e]; rfl)
    have h2 := hs b hb
    omega
set_option maxRecDepth 20000 in
set_option maxHeartbeats 8000000 in
theorem ref21_Append (s : ByteArray) (hs3 : s.size ≤ 3000) (w : World) (h : RlQ w y q sb cb c1 c2 nn kr vr n lg x d) :
    Calls Tryz.prog 25 #[.pointer (some ⟨y, 0, none⟩), .string s] w (RAppP y q sb cb c1 c2 nn kr vr n lg (d.append x lg s) w) := by
  have H := Lib.hid h
  have hc := blk_cell h.log.blk
  unfold rlCells at hc
  have x0 := h.log.x0
  have x1 := h.log.x1
  have us := h.log.us
  have l1 := h.log.l1
  have rl := h.log.rl
  clear h
  by_cases hd : x.dead = true
  · have FIN : Hid (RAppP y q sb cb c1 c2 nn kr vr n lg (d.append x lg s) w (.returned (.int .i64 74)) w) := by
      show RAppP _ _ _ _ _ _ _ _ _ _ _ _ _ _ _
      rw [append_may (by unfold Wl.may; rw [if_pos hd]; decide), show x.may lg s = 74 by unfold Wl.may; rw [if_pos hd]]
      exact ⟨vr, rfl, H.out, Fr.refl _ _, .inl rfl⟩
    rw [hd] at hc
    clear hd
    go_enter Tryz.func25, Tryz.ntmps25
    go_wp2_with fail
    go_ret
    exact FIN.out
  have hdf : x.dead = false := by simpa using hd
  have HDF := Lib.hid hdf
  rw [hdf] at hc
  by_cases h2 : 2000 < s.size
  · have FIN : Hid (RAppP y q sb cb c1 c2 nn kr vr n lg (d.append x lg s) w (.returned (.int .i64 2)) w) := by
      have e : x.may lg s = 2 := by unfold Wl.may; rw [if_neg hd, if_pos (by omega)]
      show RAppP _ _ _ _ _ _ _ _ _ _ _ _ _ _ _
      rw [append_may (by rw [e]; decide), e]
      exact ⟨vr, rfl, H.out, Fr.refl _ _, .inl rfl⟩
    have g2 : (2000 : Int) < (s.size : Int) := by omega
    clear hd hdf
    go_enter Tryz.func25, Tryz.ntmps25
    go_wp2_with fail
    go_ret
    exact FIN.out
  have g2 : ¬ (2000 : Int) < (s.size : Int) := by omega
  have SZ := Lib.hid (fun W => ref18_Size (s.size : Int) W)
  rw [sizeF_nat (by omega)] at SZ
  have LF := Lib.hid (fun W k => ref21_Left (y := y) (q := q) (n := n) (lg := lg) (vr := vr) (x := x) W k)
  obtain ⟨k, hk⟩ : ∃ k, k = szN s.size := ⟨_, rfl⟩
  have k9 : k ≤ 9 := by rw [hk]; exact sz_le (by omega)
  have k1 : 1 ≤ k := by rw [hk]; exact sz_pos _
  rw [← hk] at SZ
  have HK := Lib.hid hk
  clear hk
  by_cases h3 : (lg : Int) - (x.used : Int) < (k : Int)
  · have FIN : Hid (∀ W, Below w.heap.size w W → RAppP y q sb cb c1 c2 nn kr vr n lg (d.append x lg s) w (.returned (.int .i64 73)) W) := fun W hb => by
      have e : x.may lg s = 73 := by unfold Wl.may; rw [if_neg hd, if_neg (by omega), sizeF_nat (by omega), ← HK.out, if_pos (.inl (by omega))]
      rw [append_may (by rw [e]; decide), e]
      exact ⟨vr, rfl, H.out.below hb, Fr.of_below hb, .inl rfl⟩
    clear hd hdf
    go_enter Tryz.func25, Tryz.ntmps25
    go_wp2_with fail
    refine (SZ.out _).mono ?_; rintro e w1 ⟨rfl, rfl⟩
    go_wp2_with fail
    refine (LF.out _ H.out.log).mono ?_; rintro e w1 ⟨rfl, kd, hkd⟩
    have B1 : Hid (Below w.heap.size w w1) := by show Below _ _ _; rw [hkd]; exact below_dN w kd
    clear hkd
    go_wp2_with fail
    go_ret
    exact FIN.out _ B1.out
  by_cases h4 : 2147483648 < x.next
  · have FIN : Hid (∀ W, Below w.heap.size w W → RAppP y q sb cb c1 c2 nn kr vr n lg (d.append x lg s) w (.returned (.int .i64 73)) W) := fun W hb => by
      have e : x.may lg s = 73 := by unfold Wl.may; rw [if_neg hd, if_neg (by omega), sizeF_nat (by omega), ← HK.out, if_pos (.inr h4)]
      rw [append_may (by rw [e]; decide), e]
      exact ⟨vr, rfl, H.out.below hb, Fr.of_below hb, .inl rfl⟩
    clear hd hdf
    go_enter Tryz.func25, Tryz.ntmps25
    go_wp2_with fail
    refine (SZ.out _).mono ?_; rintro e w1 ⟨rfl, rfl⟩
    go_wp2_with fail
    refine (LF.out _ H.out.log).mono ?_; rintro e w1 ⟨rfl, kd, hkd⟩
    have B1 : Hid (Below w.heap.size w w1) := by show Below _ _ _; rw [hkd]; exact below_dN w kd
    clear hkd hc
    have hc := blk_cell (H.out.below B1.out).log.blk
    unfold rlCells at hc
    rw [HDF.out] at hc
    go_wp2_with fail
    go_ret
    exact FIN.out _ B1.out
  have hm0 : x.may lg s = 0 := by unfold Wl.may; rw [if_neg hd, if_neg (by omega), sizeF_nat (by omega), ← HK.out, if_neg (by omega)]
  have hsl : s.data.toList.length = s.size := size_list s
  have MK := Lib.hid (fun W => ref18_MakeN x.next (by omega) (by omega) s (by omega) W)
  rw [makeF_ok (n := x.next) (s := s.data.toList) (by omega) (by omega)] at MK
  obtain ⟨M, hM⟩ : ∃ M, M = (secsF x.next s.data.toList).map ofL := ⟨_, rfl⟩
  have ML : M.length = k := by rw [hM, List.length_map, secsF_length, hsl, HK.out]
  have hap : d.append x lg s = (if (d.writes (2 + (x.used : Int)) M).2 ≠ 0 then ((d.writes (2 + (x.used : Int)) M).1, { x with dead := true }, (d.writes (2 + (x.used : Int)) M).2) else ((d.writes (2 + (x.used : Int)) M).1, ⟨x.recs ++ [s], x.next + 1, x.used + k, false⟩, 0)) := by
    unfold Dk.append; rw [if_neg (by rw [hm0]; decide), hM, HK.out]
  dsimp only at MK
  rw [← hM] at MK
  have HAP := Lib.hid hap
  have HML := Lib.hid ML
  have u2 : IntKind.u32.wrap (x.next + 1) = x.next + 1 := by rw [IntKind.wrap_u32]; omega
  have u3 : IntKind.i64.wrap (2 + (x.used : Int)) = 2 + (x.used : Int) := IntWalk.i64_in _ (by omega)
  have u4 : IntKind.i64.wrap ((x.used : Int) + (k : Int)) = (x.used : Int) + (k : Int) := IntWalk.i64_in _ (by omega)
  have FIT : Hid (k + x.used ≤ lg) := by show _ ≤ _; omega
  obtain ⟨i0, ih, i1, i2, i3⟩ := info_parts Tryz.info9
  clear hd hdf hm0 hM ML hap hsl h2
  go_enter Tryz.func25, Tryz.ntmps25
  go_wp2_with fail
  refine (SZ.out _).mono ?_; rintro e w1 ⟨rfl, rfl⟩
  go_wp2_with fail
  refine (LF.out _ H.out.log).mono ?_; rintro e w1 ⟨rfl, kd, hkd⟩
  have B1 : Hid (Below w.heap.size w w1) := by show Below _ _ _; rw [hkd]; exact below_dN w kd
  clear hkd hc
  have hc := blk_cell (H.out.below B1.out).log.blk
  unfold rlCells at hc
  rw [HDF.out] at hc
  go_wp2_with fail
  refine (MK.out _).mono ?_; rintro e w2 ⟨v, rfl, hv, hb, hvn⟩
  have B2 := Lib.hid (bstep B1.out hb)
  have HV := Lib.hid hv
  have VB : Hid (∀ b, v.ownBlock = some b → w.heap.size ≤ b) := fun b e => Nat.le_trans B1.out.size (hvn b e)
  obtain ⟨pv, cv, rfl, _⟩ := hv.form
  rw [HML.out] at HV VB ⊢
  clear hb hv hvn hc
  have H2 := Lib.hid (H.out.below B2.out)
  have F2 : Hid (Fr (RlS q sb cb y) w w2) := Fr.of_below B2.out
  have SB : Hid (∀ b, RlS q sb cb y b → b < w.heap.size) := by
    rintro b (hb | rfl)
    · exact H.out.dsk.blk b hb
    · exact blk_lt H.out.log.blk
  go_wp2_with fail
  go_loopw [8] (fun c wr => ∃ (i : Nat) (di : Dk), i ≤ k ∧ c = .int .i64 i ∧ d.writes (2 + (x.used : Int)) M = di.writes (2 + (x.used : Int) + i) (M.drop i) ∧ RlQ wr y q sb cb c1 c2 nn kr vr n lg x di ∧ SlStrs wr (.slice pv k cv) M ∧ Fr (RlS q sb cb y) w wr) (fun c _ => k - (intOf c).toNat)
  case atStart => exact ⟨0, d, Nat.zero_le _, rfl, by simp, H2.out, HV.out, F2.out⟩
  case round =>
    clear H2 F2 HV
    obtain ⟨i, di, hik, rfl, hwr, hH, hV, hF⟩ := hrel
    have HX := Lib.hid hwr; have H3 := Lib.hid hH; have HV := Lib.hid hV; have F3 := Lib.hid hF
    clear hwr hH hV hF
    by_cases hlt : i < k
    · have hi : (i : Int) < (k : Int) := by omega
      have hi0 : (0 : Int) ≤ (i : Int) := by omega
      have hl : i < M.length := by rw [HML.out]; exact hlt
      have fit := FIT.out
      have v3 : IntKind.i64.wrap (2 + (x.used : Int) + (i : Int)) = 2 + (x.used : Int) + (i : Int) := IntWalk.i64_in _ (by omega)
      have v4 : IntKind.i64.wrap ((i : Int) + 1) = (i : Int) + 1 := IntWalk.i64_in _ (by omega)
      obtain ⟨b, off, rfl, A⟩ : ∃ b off, pv = some ⟨b, off, none⟩ ∧ StrsAt wr b off M := by
        have h := HV.out
        rw [← HML.out] at h
        exact h.at hl
      obtain ⟨S, hS⟩ : ∃ S, S = M[i] := ⟨_, rfl⟩
      have c0 := A.at' i hl
      rw [← hS] at c0
      have hdr : M.drop i = S :: M.drop (i + 1) := by rw [hS]; exact List.drop_eq_getElem_cons hl
      have HDR := Lib.hid hdr
      have hc := blk_cell H3.out.log.blk
      unfold rlCells at hc
      have CO : Hid (∀ W, Below wr.heap.size wr W → W.cell? ⟨y, 0, none⟩ = some (.pointer (some ⟨q, 0, none⟩)) ∧ W.cell? ⟨y, 3, none⟩ = some (.int .i64 2) ∧ W.cell? ⟨y, 7, none⟩ = some (.int .i64 (x.used : Int)) ∧ W.cell? ⟨b, off + i, none⟩ = some (.string S)) := fun W h => ⟨dk_cell (hc 0) h, dk_cell (hc 3) h, dk_cell (hc 7) h, dk_cell c0 h⟩
      have WR := Lib.hid (fun W k1 => ref_Write (2 + (x.used : Int) + (i : Int)) S q sb cb c1 c2 nn kr di H3.out.ok W k1)
      clear hc A hS hdr hl c0
      obtain ⟨d2, e2, hd2⟩ : ∃ d2 e2, di.write (2 + (x.used : Int) + (i : Int)) S = (d2, e2) := ⟨_, _, rfl⟩
      have OK2 : Hid d2.Ok := by have := H3.out.ok.write (2 + (x.used : Int) + (i : Int)) S; rw [hd2] at this; exact this
      have N2 : Hid (d2.n = di.n) := by have := write_nW di (2 + (x.used : Int) + (i : Int)) S; rw [hd2] at this; exact this
      have K2 : Hid (d2.keep = di.keep) := by have := write_keep di (2 + (x.used : Int) + (i : Int)) S; rw [hd2] at this; exact this
      rw [hd2] at WR
      have HD2 := Lib.hid hd2
      clear hd2
      dsimp only at WR
      go_upto_region 12 with (fail)
      have BN : Hid (Below wr.heap.size wr wr.drew) := below_d1 _
      have S0 := CO.out _ BN.out
      go_region_held3 (fun w' => w'.cell? ⟨y, 0, none⟩ = some (.pointer (some ⟨q, 0, none⟩)) ∧ w'.cell? ⟨y, 3, none⟩ = some (.int .i64 2) ∧ w'.cell? ⟨y, 7, none⟩ = some (.int .i64 (x.used : Int)) ∧ w'.cell? ⟨b, off + i, none⟩ = some (.string S)) (first | exact S0 | exact S9 | assumption)
        (first
          | (go_at_call 35; refine (WR.out _ (H3.out.dsk.below BN.out)).mono ?_; rintro e z ⟨rfl, hd, hf⟩; have H4 := Lib.hid ((H3.out.below BN.out).wrote hd hf OK2.out N2.out K2.out); have V4 := Lib.hid ((HV.out.below BN.out).frB (hf.mono (T := RlS q sb cb y) (fun _ h => .inl h)) VB.out SB.out); have F4 := Lib.hid ((F3.out.trans (Fr.of_below BN.out)).trans (hf.mono (T := RlS q sb cb y) (fun _ h => .inl h))); have hq := blk_cell H4.out.log.blk; have S9 : z.cell? ⟨y, 0, none⟩ = some (.pointer (some ⟨q, 0, none⟩)) ∧ z.cell? ⟨y, 3, none⟩ = some (.int .i64 2) ∧ z.cell? ⟨y, 7, none⟩ = some (.int .i64 (x.used : Int)) ∧ z.cell? ⟨b, off + i, none⟩ = some (.string S) := ⟨hq 0, hq 3, hq 7, (hf.cell (World.block_lt_of_cell? _ ⟨b, off + i, none⟩ S0.2.2.2) (fun e => by have h1 := VB.out b rfl; have h2 := SB.out b (.inl e); omega)).trans S0.2.2.2⟩; clear hq hd hf))
      clear S9 S0
      by_cases hcc : e2 = 0
      · have q1 : (e2 != 0) = false := by rw [hcc]; rfl
        have HX2 : Hid (d.writes (2 + (x.used : Int)) M = d2.writes (2 + (x.used : Int) + ((i + 1 : Nat) : Int)) (M.drop (i + 1))) := by
          show _ = _
          have hz : (di.write (2 + (x.used : Int) + (i : Int)) S).2 = 0 := by rw [HD2.out]; exact hcc
          have e : (2 + (x.used : Int) + (i : Int)) + 1 = 2 + (x.used : Int) + ((i + 1 : Nat) : Int) := by omega
          rw [HX.out, HDR.out, writes_cons hz, HD2.out, e]
        clear hcc
        go_wp2_with fail
        go_roundw
        case rel => exact ⟨i + 1, d2, by omega, by go_num, HX2.out, H4.out, V4.out, F4.out⟩
        case measure => simp [intOf]; omega
      · have q1 : (e2 != 0) = true := by rw [bne_iff_ne]; exact hcc
        have hz : (di.write (2 + (x.used : Int) + (i : Int)) S).2 ≠ 0 := by rw [HD2.out]; exact hcc
        have EW : Hid (d.append x lg s = (d2, { x with dead := true }, e2)) := by
          show _ = _
          have e : d.writes (2 + (x.used : Int)) M = (d2, e2) := by rw [HX.out, HDR.out, writes_stop hz, HD2.out]
          rw [HAP.out, e, if_pos hcc]
        clear hcc hz
        have hq := blk_cell H4.out.log.blk
        have hqf := blk_frozen H4.out.log.blk
        unfold rlCells at hq
        rw [HDF.out] at hq
        have H5 := Lib.hid (H4.out.set (x' := { x with dead := true }) 8 (.bool true) (by simp [rlCells]) rfl x0 x1 us rl)
        have FIN : Hid (RAppP y q sb cb c1 c2 nn kr vr n lg (d.append x lg s) w (.returned (.int .i64 e2)) (z.setCell ⟨y, 8, none⟩ (.bool true))) := by
          show RAppP _ _ _ _ _ _ _ _ _ _ _ _ _ _ _
          rw [EW.out]
          exact ⟨vr, rfl, H5.out, F4.out.trans (fr_set (S := RlS q sb cb y) (.inr rfl) 8 (.bool true)), .inl rfl⟩
        clear H5 EW
        go_wp2_with fail
        go_ret
        exact FIN.out
    · have hi : ¬ (i : Int) < (k : Int) := by omega
      have EW : Hid (d.append x lg s = (di, ⟨x.recs ++ [s], x.next + 1, x.used + k, false⟩, 0)) := by
        show _ = _
        have e : d.writes (2 + (x.used : Int)) M = (di, 0) := by
          rw [HX.out, List.drop_eq_nil_of_le (by rw [HML.out]; omega)]; rfl
        rw [HAP.out, e, if_neg (fun h => h rfl)]
      have hc := blk_cell H3.out.log.blk
      unfold rlCells at hc
      clear LF SZ MK HX HV HAP hi
      have hca := blk_cell (blk_alloc (o := .cells #[] 9) H3.out.log.blk)
      unfold rlCells at hca
      have GL : Hid (∀ b, wr.heap.size ≤ b → ¬ RlS q sb cb y b) := fun b hb e => by have h1 := SB.out b e; have h2 := F3.out.size; omega
      go_wp2_with (first
        | (at_builtin; refine wpList_append_strs rfl (.tmp 73) (.tmp 77) _ rfl 9 i0 _ Tryz.underlying34 ih i1 i2 i3 (by decide) wr.heap.size wr.heap.size 0 0 [] rfl (row_s0 (Nat.le_refl _) (blk_new _ _)) vr rfl x.recs (H3.out.log.recs.below (below_alloc1 _ _)) (by omega) (by omega) (by simp) x.recs.length (by simp) x.recs (by simp) ?_; intro g1 cc1 w4 k1 k2 k3; have K1 := Lib.hid k1; have K2 := Lib.hid k2; have B4 : Hid (Below wr.heap.size wr w4) := (bel_row (below_alloc1 wr (.cells #[] 9)) (by simp) (row_s0 (Nat.le_refl _) (blk_new _ _)) k2); clear k1 k2 k3 hc hca)
        | (at_builtin; refine wpList_append_s1 rfl (.tmp 78) (.tmp 80) _ rfl 9 i0 _ Tryz.underlying34 ih i1 i2 i3 (by decide) wr.heap.size _ x.recs rfl (K1.out.alloc _) w4.heap.size 1 rfl s (blk_cell (blk_new _ _) 0) (by omega) (by have := B4.out.size; simp; omega) ?_; intro v' w5 k4 k5 k6; obtain ⟨G5, c5, hv5⟩ := row_form k4 (by simp); rw [show (x.recs ++ [s]).length = x.recs.length + 1 from (by simp)] at hv5; subst hv5; have K4 := Lib.hid k4; have B5 : Hid (Below wr.heap.size wr w5) := (bel_row (B4.out.alloc B4.out.size _) (by have := B4.out.size; simp; omega) (K1.out.alloc _) k5); have hc := blk_cell (H3.out.below B5.out).log.blk; have hcf := blk_frozen (H3.out.below B5.out).log.blk; unfold rlCells at hc; clear k4 k5 k6))
      have H5 := Lib.hid (H3.out.below B5.out)
      have GB := (K4.out.lt G5 rfl).1
      have hf : Fr (fun b => b = y) w5 (((w5.setCell ⟨y, 1, none⟩ (.slice (some ⟨G5, 0, none⟩) (x.recs.length + 1) c5)).setCell ⟨y, 7, none⟩ (.int .i64 ((x.used : Int) + (k : Int)))).setCell ⟨y, 2, none⟩ (.int .u32 (x.next + 1))) := ((fr_set (S := fun b => b = y) rfl _ _).trans (fr_set (S := fun b => b = y) rfl _ _)).trans (fr_set (S := fun b => b = y) rfl _ _)
      have BLK : (((w5.setCell ⟨y, 1, none⟩ (.slice (some ⟨G5, 0, none⟩) (x.recs.length + 1) c5)).setCell ⟨y, 7, none⟩ (.int .i64 ((x.used : Int) + (k : Int)))).setCell ⟨y, 2, none⟩ (.int .u32 (x.next + 1))).heap[y]? = some (.cells (rlCells q n lg (.slice (some ⟨G5, 0, none⟩) (x.recs.length + 1) c5) ⟨x.recs ++ [s], x.next + 1, x.used + k, false⟩) 142 (0, 0)) := by
        rw [blk_set (blk_set (blk_set H5.out.log.blk _ _) _ _)]
        simp [rlCells, HDF.out]
      have RC : SlStrs w5 (.slice (some ⟨G5, 0, none⟩) (x.recs.length + 1) c5) (x.recs ++ [s]) := SlStrs.of_own K4.out
      have hv5 : ∀ b off m c, (Value.slice (some ⟨G5, 0, none⟩) (x.recs.length + 1) c5) = .slice (some ⟨b, off, none⟩) m c → m ≠ 0 → ¬ RfS q sb cb b ∧ b ≠ y := fun b off m c e _ => by
        injection e with e _ _
        injection e with e
        injection e with e _ _
        subst e
        exact ⟨fun e => GL.out _ GB (.inl e), fun e => GL.out _ GB (.inr e)⟩
      have R8 : RlQ (((w5.setCell ⟨y, 1, none⟩ (.slice (some ⟨G5, 0, none⟩) (x.recs.length + 1) c5)).setCell ⟨y, 7, none⟩ (.int .i64 ((x.used : Int) + (k : Int)))).setCell ⟨y, 2, none⟩ (.int .u32 (x.next + 1))) y q sb cb c1 c2 nn kr (.slice (some ⟨G5, 0, none⟩) (x.recs.length + 1) c5) n lg ⟨x.recs ++ [s], x.next + 1, x.used + k, false⟩ di :=
        ⟨⟨BLK, RC.frN hf (fun b off m c e hm => (hv5 b off m c e hm).2), by show 1 ≤ x.next + 1; omega, by show x.next + 1 ≤ 2147483649; omega, by show x.used + k ≤ lg; have := FIT.out; omega, by show (x.recs ++ [s]).length ≤ x.used + k; simp; omega, l1⟩, H5.out.dsk.frK hf (fun b hb e => H5.out.yS (e ▸ hb)) (fun k b off n c e => H5.out.kN k b off n c e), H5.out.ok, H5.out.dn, H5.out.nl, H5.out.n32, H5.out.yS, hv5, H5.out.kN⟩
      have FIN : Hid (RAppP y q sb cb c1 c2 nn kr vr n lg (d.append x lg s) w (.returned (.int .i64 0)) (((w5.setCell ⟨y, 1, none⟩ (.slice (some ⟨G5, 0, none⟩) (x.recs.length + 1) c5)).setCell ⟨y, 7, none⟩ (.int .i64 ((x.used : Int) + (k : Int)))).setCell ⟨y, 2, none⟩ (.int .u32 (x.next + 1)))) := by
        show RAppP _ _ _ _ _ _ _ _ _ _ _ _ _ _ _
        rw [EW.out]
        exact ⟨_, rfl, R8, (F3.out.trans (Fr.of_below B5.out)).trans (hf.mono fun b h => .inr h), .inr fun b e => by have e : some G5 = some b := e; injection e with e; have := F3.out.size; omega⟩
      clear hf BLK RC hv5 R8
      go_ret
      exact FIN.out
end
end Go.Proofs.YtdbiebnnogjccaaGreatDoor
