/- Pages (layer 22): PagerLeft. -/
import Derived.Test.YtdbiebnnogjccaaGreatDoorGt
namespace Go.Proofs.YtdbiebnnogjccaaGreatDoor
open Go.RowKit
theorem fr_grownO {w w' : World} {v : Value} (h : w.grownBy w' v.ownBlock) : Fr (fun q => v.ownBlock = some q) w w' := (Fr.refl _ w).grown h (fun q hq => .inl hq)
theorem SlIw.fr {w w' : World} {v : Value} {l : List Int} {T : Nat → Prop} (h : SlIw w v l) (hf : Fr T w w') (hs : l ≠ [] → ∀ b, v.ownBlock = some b → ¬ T b) : SlIw w' v l := by
  rcases h with h | ⟨b, off, c, e, k, h⟩
  · exact .inl h
  · by_cases hl : l = []
    · subst hl
      exact .inl ⟨rfl, _, _, e⟩
    refine .inr ⟨b, off, c, e, k, ⟨fun hl => Nat.lt_of_lt_of_le (h.lt hl) hf.size, fun i hi => ?_⟩⟩
    rw [← h.at' i hi]
    simp only [World.cell?]
    rw [hf.block b (h.lt hl) (hs hl b (by rw [e]; rfl))]
theorem dk_lt {w : World} {g mb cb k x : Nat} {kv : Value} {d : Dk} (h : DiskAt w g mb cb k kv d) (hx : DkS g mb cb x) : x < w.heap.size := by
  rcases hx with rfl | rfl | rfl
  · exact blk_lt h.blk
  · exact h.hm.lt
  · exact h.hc.lt
theorem row_below2 {w w' : World} {B : Nat} {e : TypeId} {s n : Nat} {v : Value} {xs : List Value} (h : w.ownsRow B e s v n xs) (hb : Below w.heap.size w w') : w'.ownsRow B e s v n xs :=
  row_fr h (S := fun b => w.heap.size ≤ b) ⟨hb.os, hb.tape, hb.output, hb.size, fun k hk _ => hb.block k hk⟩ (fun b hbv => by have := (h.lt b hbv).2; omega)
def mod44L (L : List Int) : List Int := L.map fun x => x.tmod 44 % 44
theorem mod44L_in {L : List Int} : ∀ x ∈ mod44L L, 0 ≤ x ∧ x < 44 := fun x hx => by
  obtain ⟨y, _, rfl⟩ := List.mem_map.1 hx
  exact mod44 y
theorem mod44L_take {L : List Int} {i : Nat} (h : i < L.length) : (mod44L L).take (i + 1) = (mod44L L).take i ++ [(L[i]).tmod 44 % 44] := by
  unfold mod44L
  rw [← List.map_take, ← List.map_take, List.take_succ_eq_append_getElem h, List.map_append]; rfl
set_option maxRecDepth 100000 in
set_option maxHeartbeats 8000000 in
theorem law22_PagerLeft (v : Value) (L : List Int) (n k : Int) (n0 : 0 ≤ n) (n1 : n < 256) (k0 : 0 ≤ k) (k1 : k < 256) (w : World) (hl : L.length ≤ 9223372036854775807) (_ : ∀ x ∈ L, wf64 x) (hv : SlIw w v L) (hw : PgW w) :
    Calls Tryz.prog 7 #[v, .int .u8 n, .int .u8 k] w fun e w' => e = .returned (.bool true) ∧ Below w.heap.size w w' := by
  have HW := Lib.hid hw
  have WK := Lib.hid (fun W h => wakes22 W h)
  obtain ⟨pv, cv, rfl⟩ := hv.form
  have HV := Lib.hid hv
  have NW := Lib.hid (disk_New 60 (by decide) (by decide) w)
  obtain ⟨m, hm⟩ : ∃ m, m = L.length := ⟨_, rfl⟩
  rw [← hm] at HV hl ⊢
  have HM := Lib.hid hm
  obtain ⟨d0, hd0⟩ : ∃ d, d = Dk.new 60 := ⟨_, rfl⟩
  have OK : Hid d0.Ok := by show Dk.Ok _; rw [hd0]; exact Dk.Ok.new (by decide) (by decide)
  have dn : d0.n = 60 := by rw [hd0]; rfl
  have lg1 : d0.logs = 14 := by rw [hd0]; decide
  obtain ⟨K, hK⟩ : ∃ K, K = mod44L L := ⟨_, rfl⟩
  have KI : Hid (∀ x ∈ K, 0 ≤ x ∧ x < 44) := by show ∀ x ∈ K, _; rw [hK]; exact mod44L_in
  have KT : Hid (∀ i (h : i < L.length), K.take (i + 1) = K.take i ++ [(L[i]).tmod 44 % 44]) := by show ∀ i h, _; rw [hK]; exact fun i h => mod44L_take h
  have KL : Hid (K.length = m) := by show _ = _; rw [hK, hm]; unfold mod44L; rw [List.length_map]
  have N1 := newG_60 KI.out
  rw [← hd0] at N1 NW
  obtain ⟨g, hg⟩ : ∃ g, g = w.heap.size + 2 := ⟨_, rfl⟩
  obtain ⟨cb, hcb⟩ : ∃ cb, cb = w.heap.size + 1 := ⟨_, rfl⟩
  obtain ⟨mb, hmb⟩ : ∃ mb, mb = w.heap.size := ⟨_, rfl⟩
  rw [← hg, ← hcb] at NW
  have NW' : Hid (Calls Tryz.prog 11 #[.int .i64 60] w fun e w' => e = .returned (.tuple #[.pointer (some ⟨g, 0, none⟩), .int .i64 0]) ∧ DiskAt w' g mb cb 0 (.slice none 0 0) d0 ∧ Below w.heap.size w w') := by rw [hmb]; exact NW.out
  have LD : Hid (∀ x, DkS g mb cb x → w.heap.size ≤ x) := by rintro x (h | h | h) <;> omega
  clear hw hv hd0 NW hg hcb hmb hK hm
  by_cases h100 : 100 < m
  · have q0 : (100 : Int) < (m : Int) := by omega
    clear h100 N1 dn lg1
    go_enter Tryz.func7, Tryz.ntmps7
    go_wp2_with fail
    refine NW'.out.mono ?_; rintro e w1 ⟨rfl, hd, hb⟩
    have B1 := Lib.hid hb
    clear hd hb NW'
    go_wp2_with fail
    refine (WK.out _ (HW.out.below B1.out)).mono ?_; rintro e y ⟨rfl, hby⟩
    have By := Lib.hid (bstep B1.out hby)
    clear hby
    go_wp2_with fail
    go_ret
    exact ⟨rfl, By.out⟩
  have q0 : ¬ (100 : Int) < (m : Int) := by omega
  have PN := Lib.hid (fun v g mb cb W k1 k3 => pager_New v K (by have := KL.out; omega) g mb cb d0 W k1 OK.out k3)
  rw [N1] at PN
  unfold NewG at PN
  dsimp only at PN
  rw [lg1, dn] at PN
  clear N1 dn lg1
  go_enter Tryz.func7, Tryz.ntmps7
  go_wp2_with fail
  refine NW'.out.mono ?_; rintro e w1 ⟨rfl, hd, hb⟩
  have D1 : Hid (DiskAt w1 g mb cb 4096 (.slice none 0 0) d0) := ⟨hd.blk, hd.hm.mono (by omega), hd.hc.mono (by omega), hd.hk, hd.n0, hd.n1, hd.gm, hd.gc, hd.mc, hd.kn⟩
  have B1 := Lib.hid hb
  have V1 := Lib.hid (HV.out.below hb)
  clear hd hb NW' HV
  go_wp2_with fail
  go_loopw [9, 10] (fun vi c wr => ∃ i : Nat, i ≤ m ∧ c = .int .i64 i ∧ wr.ownsRow w1.heap.size 3 1 vi (K.take i).length ((K.take i).map (Value.int .i64)) ∧ Below w1.heap.size w1 wr) (fun _ c _ => m - (intOf c).toNat)
  case atStart => exact ⟨0, Nat.zero_le _, rfl, ⟨rfl, .inl ⟨rfl, rfl⟩⟩, Below.refl _ _⟩
  case round =>
    obtain ⟨i, hik, rfl, hrow, hB⟩ := hrel
    have HO := Lib.hid hrow; have HB := Lib.hid hB
    have V2 := Lib.hid (V1.out.below hB)
    clear hrow hB
    by_cases hlt : i < m
    · have hi : (i : Int) < (m : Int) := by omega
      have hi0 : (0 : Int) ≤ (i : Int) := by omega
      have v1 : IntKind.i64.wrap ((i : Int) + 1) = (i : Int) + 1 := IntWalk.i64_in _ (by omega)
      have hl : i < L.length := by rw [← HM.out]; exact hlt
      obtain ⟨b, off, rfl, hI⟩ := SlIw.atN HM.out V2.out hl
      have c0 := hI.at' i hl
      have T1 := Lib.hid (KT.out i hl)
      obtain ⟨y, hy⟩ : ∃ y, y = L[i] := ⟨_, rfl⟩
      rw [← hy] at c0 T1
      have MD := Lib.hid (fun W => keep_ModE y 44 (by decide) (by decide) W)
      obtain ⟨z, hz⟩ : ∃ z, z = y.tmod 44 % 44 := ⟨_, rfl⟩
      rw [← hz] at MD T1
      clear hI hy hz
      have tl : (K.take i).length ≤ 1000000 := by rw [List.length_take]; have := KL.out; omega
      go_wp2_with fail
      refine (MD.out _).mono ?_; rintro e wx ⟨rfl, hx⟩; rw [hx]; clear hx wx
      go_wp2_with (at_builtin; refine wpList_append_i1 rfl _ _ rfl w1.heap.size u9 (K.take i) rfl (HO.out.alloc _) wr.heap.size 1 rfl z (blk_cell (blk_new _ _) 0) tl (by have := HB.out.size; simp; omega) ?_; intro G cap w2 k1 k2 k3; have K1 := Lib.hid k1; have K2 := Lib.hid k2; clear k1 k2 k3)
      have B2 := Lib.hid (bel_row (HB.out.alloc HB.out.size _) (by have := HB.out.size; simp; omega) (HO.out.alloc _) K2.out)
      go_roundw
      case rel => exact ⟨i + 1, by omega, by go_num, by rw [T1.out]; have h := K1.out; rw [List.length_take] at h; exact h, B2.out⟩
      case measure => simp [intOf]; omega
    · have hi : ¬ (i : Int) < (m : Int) := by omega
      have ek : K.take i = K := List.take_of_length_le (by have := KL.out; omega)
      rw [ek] at HO
      clear ek
      go_wp2_with fail
      refine (PN.out _ _ _ _ _ (D1.out.below HB.out) (SlIl.of_own HO.out)).mono ?_; rintro e w2 ⟨hb, p, pm, rfl, hc, hp, hm⟩
      obtain ⟨S, hS⟩ : ∃ S, S = PgS p pm g mb cb := ⟨_, rfl⟩
      obtain ⟨l0, hl0⟩ : ∃ l, l = keepL 44 K := ⟨_, rfl⟩
      have LL := Lib.hid (PlL.start KI.out)
      rw [← hl0] at hc LL
      have P2 : Hid (PgAt w2 S p 60 14 l0 d0) := by show PgAt _ _ _ _ _ _ _; rw [hS]; exact hc.at
      have B2 := Lib.hid (bstep (bstep B1.out HB.out) hb)
      have sb := B1.out.size
      have SB : Hid (∀ b, S b → w.heap.size ≤ b) := by
        have s1 := HB.out.size
        rw [hS]
        rintro b (hb | rfl | rfl)
        · exact LD.out b hb
        · omega
        · omega
      have KS : Hid (∀ b, u9.ownBlock = some b → ¬ S b ∧ b < w2.heap.size) := fun b hbv => by
        have h1 := HO.out.lt b hbv
        have h2 := D1.out
        rw [hS]
        refine ⟨?_, Nat.lt_of_lt_of_le h1.2 hb.size⟩
        rintro (hd | rfl | rfl)
        · have := dk_lt h2 hd; omega
        · omega
        · omega
      have VI := Lib.hid ((SlIl.of_own HO.out).w.below hb)
      clear hb hc hp hm hS D1 PN hl0 sb HO HB V2 V1
      have LV := Lib.hid (pager_Live (S := S) (p := p) (n := 60) (lg := 14) (l := l0) (d := d0) _ P2.out)
      have CT := LL.out.count
      obtain ⟨a, ha⟩ : ∃ a, a = (ofK l0 1).length := ⟨_, rfl⟩
      obtain ⟨b, hbb⟩ : ∃ b, b = (ofK l0 0).length := ⟨_, rfl⟩
      have LF := Lib.hid (fun W k => pager_Left (S := S) (p := p) (n := 60) (lg := 14) (l := l0) (d := d0) W k)
      rw [← hbb] at LF CT
      rw [← ha] at CT
      have HA := Lib.hid ha
      simp only [List.length_nil, Nat.add_zero] at CT
      have v1 : IntKind.i64.wrap ((a : Int) + (b : Int)) = 44 := by rw [show (a : Int) + (b : Int) = 44 by omega]; exact IntWalk.i64_in _ (by omega)
      clear ha hbb CT
      go_wp2_with fail
      refine LV.out.mono ?_; rintro e w3 ⟨vl, rfl, hsl, -, hb⟩
      obtain ⟨pl, cl, rfl, -⟩ := hsl.form
      have B3 := Lib.hid (bstep B2.out hb)
      have P3 := Lib.hid (P2.out.below hb)
      have VI3 := Lib.hid (VI.out.below hb)
      have sz3 := Lib.hid hb.size
      rw [← HA.out]
      clear hsl hb LV P2 VI HA
      go_wp2_with fail
      refine (LF.out _ P3.out).mono ?_; rintro e w4 ⟨rfl, kd, hk⟩
      have B4' : Below w3.heap.size w3 w4 := by rw [hk]; exact below_dN _ _
      have P4 := Lib.hid (P3.out.below B4')
      have VI4 := Lib.hid (VI3.out.below B4')
      have B4 := Lib.hid (bstep B3.out B4')
      have sz4 := Lib.hid (Nat.le_trans sz3.out B4'.size)
      clear hk B4' LF P3 VI3 B3 sz3
      go_wp2_with fail
      obtain ⟨N, hN, hN30⟩ : ∃ N : Nat, n.tmod 30 = (N : Int) ∧ N < 30 := ⟨(n % 30).toNat, by rw [Int.tmod_eq_emod_of_nonneg n0]; omega, by omega⟩
      have hn1 : IntKind.i64.wrap n = n := IntWalk.i64_in _ (by omega)
      have hn2 : IntKind.i64.wrap (N : Int) = (N : Int) := IntWalk.i64_in _ (by omega)
      have KS4 : Hid (∀ b, u9.ownBlock = some b → ¬ S b ∧ b < w4.heap.size) := fun b hb => ⟨(KS.out b hb).1, Nat.lt_of_lt_of_le (KS.out b hb).2 sz4.out⟩
      have SL : Hid (∀ b, S b → b < w4.heap.size) := P4.out.lt
      have B4s : Hid (w.heap.size ≤ w4.heap.size) := B4.out.size
      clear KS sz4 B2
      go_loopw [13, 14] (fun vg c wr => ∃ (i : Nat) (got l : List Int), i ≤ N ∧ c = .int .i64 i ∧ got.length = i ∧ PlL K got l ∧ PgAt wr S p 60 14 l d0 ∧ SlIw wr u9 K ∧ wr.ownsRow w4.heap.size 3 1 vg got.length (got.map (Value.int .i64)) ∧ Below w.heap.size w wr ∧ w4.heap.size ≤ wr.heap.size) (fun _ c _ => N - (intOf c).toNat)
      case atStart => exact ⟨0, [], l0, Nat.zero_le _, rfl, rfl, LL.out, P4.out, VI4.out, ⟨rfl, .inl ⟨rfl, rfl⟩⟩, B4.out, Nat.le_refl _⟩
      case round =>
        clear LL P4 VI4 B4
        obtain ⟨i, got, l, hiN, rfl, hgl, hpl, hP, hVI, hrow, hB, hsz⟩ := hrel
        have GL := Lib.hid hgl; have PL := Lib.hid hpl; have P5 := Lib.hid hP; have VI5 := Lib.hid hVI; have R5 := Lib.hid hrow; have B5 := Lib.hid hB; have Z5 := Lib.hid hsz
        clear hgl hpl hP hVI hrow hB hsz
        by_cases hlt : i < N
        · have hi : (i : Int) < (N : Int) := by omega
          have hi0 : (0 : Int) ≤ (i : Int) := by omega
          have v2 : IntKind.i64.wrap ((i : Int) + 1) = (i : Int) + 1 := IntWalk.i64_in _ (by omega)
          have LF := Lib.hid (fun W k => pager_Left (S := S) (p := p) (n := 60) (lg := 14) (l := l) (d := d0) W k)
          have TK := Lib.hid (fun W k => pager_Take (S := S) (p := p) (n := 60) (lg := 14) (l := l) (d := d0) W k)
          unfold TakeP at TK
          cases hf : ofK l 0 with
          | nil =>
            rw [hf] at LF
            rw [takeL_none hf] at TK
            dsimp only [List.length_nil] at TK LF
            rw [show ((0 : Nat) : Int) = 0 from rfl] at LF
            clear hf
            go_wp2_with fail
            refine (LF.out _ P5.out).mono ?_; rintro e w6 ⟨rfl, kd, hk⟩
            have B6' : Below wr.heap.size wr w6 := by rw [hk]; exact below_dN _ _
            have P6 := Lib.hid (P5.out.below B6')
            have B6 := Lib.hid (bstep B5.out B6')
            clear hk B6'
            go_wp2_with fail
            refine (TK.out _ P6.out).mono ?_; rintro e w7 ⟨rfl, hP, hF⟩
            have B7 := Lib.hid (bel_G B6.out hF SB.out)
            clear hP hF
            go_wp2_with fail
            refine (WK.out _ (HW.out.below B7.out)).mono ?_; rintro e y ⟨rfl, hby⟩
            have By := Lib.hid (bstep B7.out hby)
            clear hby
            go_wp2_with fail
            go_ret
            exact ⟨rfl, By.out⟩
          | cons x m' =>
            rw [hf] at LF
            rw [takeL_some hf] at TK
            obtain ⟨M, hM⟩ : ∃ M, M = m'.length := ⟨_, rfl⟩
            rw [List.length_cons, ← hM] at LF
            rw [show ((M + 1 : Nat) : Int) = (M : Int) + 1 from rfl] at LF
            dsimp only at TK
            have LG := Lib.hid (fun W k => pager_Left (S := S) (p := p) (n := 60) (lg := 14) (l := setL l x 2) (d := d0) W k)
            rw [ofK_take hf, ← hM] at LG
            have NX := PL.out.take hf
            have PX := Lib.hid NX.1
            have LX := Lib.hid NX.2.2.1
            have HS := Lib.hid (fun W k => keep_Has u9 K x (by have := KL.out; omega) W k)
            rw [decide_eq_false NX.2.1] at HS
            have M44 : M < 44 := by have := PX.out.count; rw [ofK_take hf, List.length_append, List.length_singleton] at this; omega
            have gle := PL.out.count
            have q1 : ((M : Int) + 1 == 0) = false := by rw [beq_eq_false_iff_ne]; omega
            have q2 : ¬ (M : Int) + 1 = 0 := by omega
            have v3 : IntKind.i64.wrap ((M : Int) + 1 - 1) = (M : Int) := by rw [show (M : Int) + 1 - 1 = (M : Int) by omega]; exact IntWalk.i64_in _ (by omega)
            have v4 : IntKind.i64.wrap (M : Int) = (M : Int) := IntWalk.i64_in _ (by omega)
            have q3 : ((M : Int) != (M : Int)) = false := by simp
            have gl2 : got.length ≤ 1000000 := by omega
            obtain ⟨pg, cg, rfl, -⟩ := (SlIl.of_own R5.out).form
            clear hf NX hM gle M44
            go_wp2_with fail
            refine (LF.out _ P5.out).mono ?_; rintro e w6 ⟨rfl, kd, hk⟩
            have B6' : Below wr.heap.size wr w6 := by rw [hk]; exact below_dN _ _
            have P6 := Lib.hid (P5.out.below B6')
            have B6 := Lib.hid (bstep B5.out B6')
            have R6 := Lib.hid (row_below2 R5.out B6')
            have VI6 := Lib.hid (VI5.out.below B6')
            have Z6 := Lib.hid (Nat.le_trans Z5.out B6'.size)
            clear hk B6' P5 B5 R5 VI5 Z5
            go_wp2_with fail
            refine (TK.out _ P6.out).mono ?_; rintro e w7 ⟨rfl, hP, hF⟩
            have B7 := Lib.hid (bel_G B6.out hF SB.out)
            have P7 := Lib.hid hP
            have R7 := Lib.hid (row_fr R6.out hF (fun b hb => fun hs => by have h1 := (R6.out.lt b hb).1; have h2 := SL.out b hs; omega))
            have VI7 := Lib.hid (VI6.out.fr hF (fun _ b hb => (KS4.out b hb).1))
            have Z7 := Lib.hid (Nat.le_trans Z6.out hF.size)
            clear hP hF P6 B6 R6 VI6 Z6
            go_wp2_with fail
            refine (LG.out _ P7.out).mono ?_; rintro e w8 ⟨rfl, kd, hk⟩
            have B8' : Below w7.heap.size w7 w8 := by rw [hk]; exact below_dN _ _
            have P8 := Lib.hid (P7.out.below B8')
            have B8 := Lib.hid (bstep B7.out B8')
            have R8 := Lib.hid (row_below2 R7.out B8')
            have VI8 := Lib.hid (VI7.out.below B8')
            have Z8 := Lib.hid (Nat.le_trans Z7.out B8'.size)
            clear hk B8' P7 B7 R7 VI7 Z7
            go_wp2_with fail
            refine (HS.out _ VI8.out).mono ?_; rintro e wx ⟨rfl, hx⟩; rw [← hx]; clear hx wx
            by_cases h0 : i = 0
            · have i0 : ¬ (0 : Int) < (got.length : Int) := by have := GL.out; omega
              clear h0
              go_wp2_with (at_builtin; refine wpList_append_i1 rfl _ _ rfl w4.heap.size (.slice pg got.length cg) got rfl (R8.out.alloc _) w8.heap.size 1 rfl x (blk_cell (blk_new _ _) 0) gl2 (by have := Z8.out; simp; omega) ?_; intro G cap w9 k1 k2 k3; have K1 := Lib.hid k1; have K2 := Lib.hid k2; clear k1 k2 k3)
              have F9 := Lib.hid (fr_grownO K2.out)
              have A8 := Lib.hid (below_alloc1 w8 (.cells #[.int .i64 x] 3))
              have R8a := Lib.hid (R8.out.alloc (.cells #[.int .i64 x] 3))
              have P9 := Lib.hid ((P8.out.below A8.out).fr F9.out (fun b hs hb => by have h1 := (R8a.out.lt b hb).1; have h2 := SL.out b hs; omega))
              have VI9 := Lib.hid ((VI8.out.below A8.out).fr F9.out (fun _ b hv hb => by have h1 := (R8a.out.lt b hb).1; have h2 := (KS4.out b hv).2; omega))
              have B9 : Hid (Below w.heap.size w w9) := by
                show Below _ _ _
                exact bel_G (bstep B8.out A8.out) F9.out (fun b hb => by have h1 := (R8a.out.lt b hb).1; have h2 := B4s.out; omega)
              have Z9 := Lib.hid (Nat.le_trans Z8.out (Nat.le_trans A8.out.size F9.out.size))
              go_roundw
              case rel => exact ⟨i + 1, got ++ [x], setL l x 2, by omega, by go_num, by rw [List.length_append, GL.out]; rfl, PX.out, P9.out, VI9.out, K1.out, B9.out, Z9.out⟩
              case measure => simp [intOf]; omega
            · obtain ⟨G0, y, hgy⟩ : ∃ G0 y, got = G0 ++ [y] := by
                rcases List.eq_nil_or_concat got with h | ⟨G0, y, h⟩
                · have e := GL.out; rw [h] at e; exact absurd e.symm h0
                · exact ⟨G0, y, by simpa using h⟩
              obtain ⟨j, hj⟩ : ∃ j, j = G0.length := ⟨_, rfl⟩
              have hji : got.length = j + 1 := by rw [hgy, List.length_append, hj]; rfl
              have i0 : (0 : Int) < (got.length : Int) := by omega
              have vj : IntKind.i64.wrap ((got.length : Int) - 1) = (j : Int) := by rw [show (got.length : Int) - 1 = (j : Int) by omega]; exact IntWalk.i64_in _ (by omega)
              have j0 : (0 : Int) ≤ (j : Int) := by omega
              have j1 : (j : Int) < (got.length : Int) := by omega
              have yx : ¬ x ≤ y := by have := LX.out y (by rw [hgy]; simp); omega
              obtain ⟨b, off, rfl, hI⟩ := SlIl.atN (k := j) rfl (SlIl.of_own R8.out) (by omega)
              have c0 := hI.at' j (by omega)
              have ey : got[j]'(by omega) = y := by subst hj; simp [hgy]
              rw [ey] at c0
              clear hI ey hgy hji hj h0
              go_wp2_with (at_builtin; refine wpList_append_i1 rfl _ _ rfl w4.heap.size (.slice (some ⟨b, off, none⟩) got.length cg) got rfl (R8.out.alloc _) w8.heap.size 1 rfl x (blk_cell (blk_new _ _) 0) gl2 (by have := Z8.out; simp; omega) ?_; intro G cap w9 k1 k2 k3; have K1 := Lib.hid k1; have K2 := Lib.hid k2; clear k1 k2 k3)
              have F9 := Lib.hid (fr_grownO K2.out)
              have A8 := Lib.hid (below_alloc1 w8 (.cells #[.int .i64 x] 3))
              have R8a := Lib.hid (R8.out.alloc (.cells #[.int .i64 x] 3))
              have P9 := Lib.hid ((P8.out.below A8.out).fr F9.out (fun b hs hb => by have h1 := (R8a.out.lt b hb).1; have h2 := SL.out b hs; omega))
              have VI9 := Lib.hid ((VI8.out.below A8.out).fr F9.out (fun _ b hv hb => by have h1 := (R8a.out.lt b hb).1; have h2 := (KS4.out b hv).2; omega))
              have B9 : Hid (Below w.heap.size w w9) := by
                show Below _ _ _
                exact bel_G (bstep B8.out A8.out) F9.out (fun b hb => by have h1 := (R8a.out.lt b hb).1; have h2 := B4s.out; omega)
              have Z9 := Lib.hid (Nat.le_trans Z8.out (Nat.le_trans A8.out.size F9.out.size))
              go_roundw
              case rel => exact ⟨i + 1, got ++ [x], setL l x 2, by omega, by go_num, by rw [List.length_append, GL.out]; rfl, PX.out, P9.out, VI9.out, K1.out, B9.out, Z9.out⟩
              case measure => simp [intOf]; omega
        · have hi : ¬ (i : Int) < (N : Int) := by omega
          have FT := PL.out.fresh
          have FR := Lib.hid (fun W k => pager_Fresh (S := S) (p := p) (n := 60) (lg := 14) (l := l) (d := d0) W k)
          rw [FT] at FR
          unfold IntsP at FR
          clear FT
          obtain ⟨pg, cg, rfl, -⟩ := (SlIl.of_own R5.out).form
          by_cases hgn : got = []
          · have e1 : ((got.length : Int) == 0) = true := by rw [hgn]; rfl
            have e2 : (got.length : Int) = 0 := by rw [hgn]; rfl
            clear hgn
            go_wp2_with fail
            refine (FR.out _ P5.out).mono ?_; rintro e w6 ⟨vf, rfl, hsl, -, hb⟩
            obtain ⟨pf, cf, rfl, -⟩ := hsl.form
            have B6 := Lib.hid (bstep B5.out hb)
            clear hsl hb
            go_wp2_with fail
            refine (WK.out _ (HW.out.below B6.out)).mono ?_; rintro e y ⟨rfl, hby⟩
            have By := Lib.hid (bstep B6.out hby)
            clear hby
            go_wp2_with fail
            go_ret
            exact ⟨rfl, By.out⟩
          have gpos : 0 < got.length := List.length_pos_iff.2 hgn
          have gle : got.length ≤ 44 := by have := PL.out.count; omega
          obtain ⟨J, hJ, hJl⟩ : ∃ J : Nat, k.tmod (got.length : Int) = (J : Int) ∧ J < got.length := ⟨(k % (got.length : Int)).toNat, by
            have h1 := Int.emod_nonneg k (show (got.length : Int) ≠ 0 by omega)
            rw [Int.tmod_eq_emod_of_nonneg k0]; omega, by
            have h1 := Int.emod_nonneg k (show (got.length : Int) ≠ 0 by omega)
            have h2 := Int.emod_lt_of_pos k (show (0 : Int) < (got.length : Int) by omega); omega⟩
          have e1 : ((got.length : Int) == 0) = false := by rw [beq_eq_false_iff_ne]; omega
          have e2 : ¬ (got.length : Int) = 0 := by omega
          have hk1 : IntKind.i64.wrap k = k := IntWalk.i64_in _ (by omega)
          have hk2 : IntKind.i64.wrap (J : Int) = (J : Int) := IntWalk.i64_in _ (by omega)
          have j0 : (0 : Int) ≤ (J : Int) := by omega
          have j1 : (J : Int) < (got.length : Int) := by omega
          obtain ⟨y, hy⟩ : ∃ y, y = got[J] := ⟨_, rfl⟩
          have CELL : Hid (∀ W : World, W.ownsRow w4.heap.size 3 1 (.slice pg got.length cg) got.length (got.map (Value.int .i64)) → ∃ b off, pg = some ⟨b, off, none⟩ ∧ W.cell? ⟨b, off + J, none⟩ = some (.int .i64 y)) := fun W h => by
            obtain ⟨b, off, e, hI⟩ := SlIl.atN (k := J) rfl (SlIl.of_own h) hJl
            exact ⟨b, off, e, by rw [hy]; exact hI.at' J hJl⟩
          obtain ⟨-, g1, g2, t1, d1, d2⟩ := PL.out.back (show y ∈ got by rw [hy]; exact List.getElem_mem _)
          have yb := PL.out.gin y (by rw [hy]; exact List.getElem_mem _)
          have wy : wf64 y := by have := yb.1; unfold wf64; simp [Lit.wf, IntKind.min, IntKind.max, IntKind.signed, IntKind.bits]; omega
          have GV := Lib.hid (fun W k => pager_Give (S := S) (p := p) (n := 60) (lg := 14) (l := l) (d := d0) y wy W k)
          have GV2 := Lib.hid (fun W k => pager_Give (S := S) (p := p) (n := 60) (lg := 14) (l := setL l y 0) (d := d0) y wy W k)
          unfold GiveP at GV GV2
          rw [g1] at GV; rw [g2] at GV2
          have TK := Lib.hid (fun W k => pager_Take (S := S) (p := p) (n := 60) (lg := 14) (l := setL l y 0) (d := d0) W k)
          unfold TakeP at TK
          rw [t1] at TK
          dsimp only at GV GV2 TK
          obtain ⟨l2, hl2⟩ : ∃ l2, l2 = setL (setL l y 0) y 2 := ⟨_, rfl⟩
          rw [← hl2] at TK d1 d2
          have DR := Lib.hid (fun W k => pager_Drop (S := S) (p := p) (n := 60) (lg := 14) (l := l2) (d := d0) W k)
          have FR2 := Lib.hid (fun W k => pager_Fresh (S := S) (p := p) (n := 60) (lg := 14) (l := dropL l2) (d := d0) W k)
          rw [d1] at FR2
          have LV2 := Lib.hid (fun W k => pager_Live (S := S) (p := p) (n := 60) (lg := 14) (l := dropL l2) (d := d0) W k)
          have LF2 := Lib.hid (fun W k => pager_Left (S := S) (p := p) (n := 60) (lg := 14) (l := dropL l2) (d := d0) W k)
          unfold IntsP at FR2 LV2
          obtain ⟨a, ha⟩ : ∃ a, a = (ofK (dropL l2) 1).length := ⟨_, rfl⟩
          obtain ⟨b, hb⟩ : ∃ b, b = (ofK (dropL l2) 0).length := ⟨_, rfl⟩
          have HA := Lib.hid ha
          rw [← hb] at LF2 d2
          rw [← ha] at d2
          have v7 : IntKind.i64.wrap ((a : Int) + (b : Int)) = 44 := by rw [show (a : Int) + (b : Int) = 44 by omega]; exact IntWalk.i64_in _ (by omega)
          have q9 : (y != y) = false := by simp
          have IT := Lib.hid (fun u W k1 k2 => keep_Ints u (.slice pg got.length cg) got got (by omega) W k1 k2)
          rw [decide_eq_true rfl] at IT
          clear g1 g2 t1 d1 d2 hl2 ha hb hy hgn gpos gle yb hJl
          go_wp2_with fail
          refine (FR.out _ P5.out).mono ?_; rintro e w6 ⟨vf, rfl, hsl, -, hb⟩
          have V6 := Lib.hid hsl
          have B6 := Lib.hid (bstep B5.out hb)
          have P6 := Lib.hid (P5.out.below hb)
          have R6 := Lib.hid (row_below2 R5.out hb)
          clear hsl hb P5 B5 R5
          go_wp2_with fail
          refine (IT.out _ _ V6.out (SlIl.of_own R6.out)).mono ?_; rintro e w7 ⟨rfl, hb⟩
          have B7 := Lib.hid (bstep B6.out hb)
          have P7 := Lib.hid (P6.out.below hb)
          have R7 := Lib.hid (row_below2 R6.out hb)
          clear hb P6 B6 R6 V6
          obtain ⟨bg, og, rfl, c0⟩ := CELL.out _ R7.out
          have CELL2 : Hid (∀ W : World, W.ownsRow w4.heap.size 3 1 (.slice (some ⟨bg, og, none⟩) got.length cg) got.length (got.map (Value.int .i64)) → W.cell? ⟨bg, og + J, none⟩ = some (.int .i64 y)) := fun W h => by
            obtain ⟨b2, o2, e, h2⟩ := CELL.out W h
            injection e with e; injection e with e1 e2 _; subst e1 e2; exact h2
          clear CELL
          go_wp2_with fail
          refine (GV.out _ P7.out).mono ?_; rintro e w8 ⟨rfl, hP, hF⟩
          have B8 := Lib.hid (bel_G B7.out hF SB.out)
          have P8 := Lib.hid hP
          have R8 := Lib.hid (row_fr R7.out hF (fun b hb => fun hs => by have h1 := (R7.out.lt b hb).1; have h2 := SL.out b hs; omega))
          clear hP hF P7 B7 c0
          have c0 := CELL2.out _ R8.out
          go_wp2_with fail
          refine (GV2.out _ P8.out).mono ?_; rintro e w9 ⟨rfl, hP, hF⟩
          have B9 := Lib.hid (bel_G B8.out hF SB.out)
          have P9 := Lib.hid hP
          have R9 := Lib.hid (row_fr R8.out hF (fun b hb => fun hs => by have h1 := (R8.out.lt b hb).1; have h2 := SL.out b hs; omega))
          clear hP hF P8 B8 c0
          go_wp2_with fail
          refine (TK.out _ P9.out).mono ?_; rintro e w10 ⟨rfl, hP, hF⟩
          have BA := Lib.hid (bel_G B9.out hF SB.out)
          have PA := Lib.hid hP
          have RA := Lib.hid (row_fr R9.out hF (fun b hb => fun hs => by have h1 := (R9.out.lt b hb).1; have h2 := SL.out b hs; omega))
          clear hP hF P9 B9
          have c0 := CELL2.out _ RA.out
          go_wp2_with fail
          refine (DR.out _ PA.out).mono ?_; rintro e w11 ⟨rfl, hP, hF⟩
          have BB := Lib.hid (bel_G BA.out hF SB.out)
          have PB := Lib.hid hP
          clear hP hF PA BA c0
          go_wp2_with fail
          refine (FR2.out _ PB.out).mono ?_; rintro e w12 ⟨vf2, rfl, hsl, -, hb⟩
          obtain ⟨pf, cf, rfl, -⟩ := hsl.form
          have BC := Lib.hid (bstep BB.out hb)
          have PC := Lib.hid (PB.out.below hb)
          clear hsl hb PB BB
          go_wp2_with fail
          refine (LV2.out _ PC.out).mono ?_; rintro e w13 ⟨vf3, rfl, hsl, -, hb⟩
          obtain ⟨pf3, cf3, rfl, -⟩ := hsl.form
          have BD := Lib.hid (bstep BC.out hb)
          have PD := Lib.hid (PC.out.below hb)
          rw [← HA.out]
          clear hsl hb PC BC
          go_wp2_with fail
          refine (LF2.out _ PD.out).mono ?_; rintro e w14 ⟨rfl, kd, hk⟩
          have BE' : Below w13.heap.size w13 w14 := by rw [hk]; exact below_dN _ _
          have BE := Lib.hid (bstep BD.out BE')
          clear hk BE' PD BD
          go_wp2_with fail
          refine (WK.out _ (HW.out.below BE.out)).mono ?_; rintro e y ⟨rfl, hby⟩
          have By := Lib.hid (bstep BE.out hby)
          clear hby
          go_wp2_with fail
          go_ret
          exact ⟨rfl, By.out⟩
end Go.Proofs.YtdbiebnnogjccaaGreatDoor
