/- Pages (layer 22): what PagerLeft and PagerSafe say, in plain words; is a number in a list? -/
import Derived.Test.YtdbiebnnogjccaaGreatDoorFs
namespace Go.Proofs.YtdbiebnnogjccaaGreatDoor
open Go.RowKit
/-- 44 pages: those of K live, those of got fresh; every free page lies behind all that are fresh. -/
structure PlL (K got l : List Int) : Prop where
  len : l.length = 44
  good : GoodL l
  kin : ∀ x ∈ K, 0 ≤ x ∧ x < 44
  kind : ∀ x, kindL l x = if x ∈ K then 1 else if x ∈ got then 2 else 0
  rise : got.Pairwise (· < ·)
  gin : ∀ g ∈ got, (0 ≤ g ∧ g < 44) ∧ g ∉ K
  low : ∀ x, 0 ≤ x → x < 44 → kindL l x = 0 → ∀ g ∈ got, g < x
theorem PlL.start {K : List Int} (h : ∀ x ∈ K, 0 ≤ x ∧ x < 44) : PlL K [] (keepL 44 K) :=
  ⟨keepL_length _ _, goodL_keep _ _, h, fun x => by rw [kindL_keep h]; simp, List.Pairwise.nil, fun g hg => absurd hg (by simp), fun _ _ _ _ g hg => absurd hg (by simp)⟩
theorem PlL.fresh {K got l : List Int} (h : PlL K got l) : ofK l 2 = got := by
  refine (ofK_ext h.rise fun x => ?_).symm
  rw [h.len, h.kind]
  constructor
  · intro hx
    have := h.gin x hx
    exact ⟨⟨this.1.1, this.1.2⟩, by rw [if_neg this.2, if_pos hx]⟩
  · rintro ⟨_, e⟩
    by_cases a : x ∈ K
    · rw [if_pos a] at e; exact absurd e (by decide)
    · rw [if_neg a] at e
      by_cases b : x ∈ got
      · exact b
      · rw [if_neg b] at e; exact absurd e (by decide)
theorem PlL.count {K got l : List Int} (h : PlL K got l) : (ofK l 1).length + (ofK l 0).length + got.length = 44 := by
  have h1 := heldL_free l
  have h2 := heldL_kinds h.good
  rw [h.fresh] at h2
  rw [h.len] at h1
  omega
/-- Fewer are free: the first one is taken. -/
theorem ofK_take {l : List Int} {i : Int} {m : List Int} (h : ofK l 0 = i :: m) : ofK (setL l i 2) 0 = m := by
  have hi := mem_ofK.1 (h ▸ List.mem_cons_self : i ∈ ofK l 0)
  have hp := ofK_lt l 0
  rw [h, List.pairwise_cons] at hp
  refine (ofK_ext hp.2 fun x => ?_).symm
  rw [setL_length, kindL_set hi.1]
  constructor
  · intro hx
    have hx2 : x ∈ ofK l 0 := by rw [h]; exact List.mem_cons_of_mem _ hx
    have := hp.1 x hx
    have := mem_ofK.1 hx2
    exact ⟨this.1, by rw [if_neg (by omega)]; exact this.2⟩
  · rintro ⟨hb, e⟩
    by_cases c : x = i
    · rw [if_pos c] at e; exact absurd e (by decide)
    · rw [if_neg c] at e
      have hx : x ∈ ofK l 0 := mem_ofK.2 ⟨hb, e⟩
      rw [h] at hx
      exact (List.mem_cons.1 hx).resolve_left c
theorem PlL.take {K got l m : List Int} {i : Int} (h : PlL K got l) (hf : ofK l 0 = i :: m) : PlL K (got ++ [i]) (setL l i 2) ∧ i ∉ K ∧ (∀ g ∈ got, g < i) ∧ 0 ≤ i ∧ i < 44 := by
  have hi := mem_ofK.1 (hf ▸ List.mem_cons_self : i ∈ ofK l 0)
  have hb : 0 ≤ i ∧ i < 44 := by have := hi.1; rw [h.len] at this; exact this
  have hk : i ∉ K := fun c => by have := hi.2; rw [h.kind, if_pos c] at this; exact absurd this (by decide)
  have hg : ∀ g ∈ got, g < i := h.low i hb.1 hb.2 hi.2
  have hp := ofK_lt l 0
  rw [hf, List.pairwise_cons] at hp
  refine ⟨⟨by rw [setL_length]; exact h.len, h.good.set _ (.inr (.inr rfl)), h.kin, fun x => ?_, ?_, ?_, fun x x0 x1 hx g hg2 => ?_⟩, hk, hg, hb.1, hb.2⟩
  · rw [kindL_set hi.1, h.kind]
    by_cases e : x = i
    · subst e; rw [if_pos rfl, if_neg hk, if_pos (by simp)]
    · rw [if_neg e]
      have : x ∈ got ++ [i] ↔ x ∈ got := by simp [e]
      by_cases a : x ∈ K
      · rw [if_pos a, if_pos a]
      · rw [if_neg a, if_neg a]
        by_cases b : x ∈ got
        · rw [if_pos b, if_pos (this.2 b)]
        · rw [if_neg b, if_neg (fun c => b (this.1 c))]
  · exact List.pairwise_append.2 ⟨h.rise, List.pairwise_singleton _ _, fun a ha b hb => by rw [List.mem_singleton.1 hb]; exact hg a ha⟩
  · intro g hgg
    rcases List.mem_append.1 hgg with c | c
    · exact h.gin g c
    · rw [List.mem_singleton.1 c]; exact ⟨hb, hk⟩
  · rw [kindL_set hi.1] at hx
    by_cases e : x = i
    · rw [if_pos e] at hx; exact absurd hx (by decide)
    · rw [if_neg e] at hx
      rcases List.mem_append.1 hg2 with c | c
      · exact h.low x x0 x1 hx g c
      · rw [List.mem_singleton.1 c]
        have hx2 : x ∈ ofK l 0 := mem_ofK.2 ⟨⟨x0, by rw [h.len]; omega⟩, hx⟩
        rw [hf] at hx2
        exact hp.1 x ((List.mem_cons.1 hx2).resolve_left e)
/-- What is given back is the next one that is taken; then all are dropped. -/
theorem PlL.back {K got l : List Int} {g : Int} (h : PlL K got l) (hg : g ∈ got) : kindL l g = 2 ∧ giveL l g = (setL l g 0, 0) ∧ giveL (setL l g 0) g = (setL l g 0, 1) ∧ takeL (setL l g 0) = (setL (setL l g 0) g 2, g, 0)
    ∧ ofK (dropL (setL (setL l g 0) g 2)) 2 = [] ∧ (ofK (dropL (setL (setL l g 0) g 2)) 1).length + (ofK (dropL (setL (setL l g 0) g 2)) 0).length = 44 := by
  obtain ⟨hb, hk⟩ := h.gin g hg
  have hgl : 0 ≤ g ∧ g < (l.length : Int) := by rw [h.len]; exact hb
  have k2 : kindL l g = 2 := by rw [h.kind, if_neg hk, if_pos hg]
  have k0 : kindL (setL l g 0) g = 0 := by rw [kindL_set hgl, if_pos rfl]
  have hgl2 : 0 ≤ g ∧ g < ((setL l g 0).length : Int) := by rw [setL_length]; exact hgl
  have ek : ∀ x, kindL (setL (setL l g 0) g 2) x = kindL l x := fun x => by
    rw [kindL_set hgl2, kindL_set hgl]
    by_cases e : x = g
    · rw [if_pos e, e, k2]
    · rw [if_neg e, if_neg e]
  have gd : GoodL (setL (setL l g 0) g 2) := (h.good.set _ (.inl rfl)).set _ (.inr (.inr rfl))
  have e2 : ofK (dropL (setL (setL l g 0) g 2)) 2 = [] := by
    refine ofK_none fun j _ => ?_
    rw [kindL_drop]
    split
    · decide
    · assumption
  refine ⟨k2, by unfold giveL; rw [if_pos k2], by unfold giveL; rw [if_neg (by rw [k0]; decide)], ?_, e2, ?_⟩
  · obtain ⟨m, hm⟩ := ofK_first (l := setL l g 0) (k := 0) (i := g.toNat) (by rw [setL_length, h.len]; omega) (by rw [Int.toNat_of_nonneg hb.1]; exact k0) (fun j hj e => by
      have hne : (j : Int) ≠ g := by omega
      rw [kindL_set hgl, if_neg hne] at e
      have := h.low (j : Int) (by omega) (by omega) e g hg
      omega)
    rw [Int.toNat_of_nonneg hb.1] at hm
    exact takeL_some hm
  · have h1 := heldL_free (dropL (setL (setL l g 0) g 2))
    have h2 := heldL_kinds (goodL_drop gd)
    rw [e2] at h2
    rw [dropL_length, setL_length, setL_length, h.len] at h1
    simp at h2
    omega
theorem newG_60 {K : List Int} (h : ∀ x ∈ K, 0 ≤ x ∧ x < 44) : newG (Dk.new 60) K = (some (keepL 44 K), 0) := by
  have e1 : (layN (Dk.new 60).n).2 = 0 := by decide
  have e2 : ((Dk.new 60).n - 2 - ((Dk.new 60).logs : Int)).toNat = 44 := by decide
  unfold newG
  rw [if_neg (by rw [e1]; decide), e2, if_pos (inL_iff.2 h)]
/-- A number's place modulo 44. -/
theorem mod44 (x : Int) : 0 ≤ x.tmod 44 % 44 ∧ x.tmod 44 % 44 < 44 := ⟨Int.emod_nonneg _ (by decide), Int.emod_lt_of_pos _ (by decide)⟩
set_option maxRecDepth 20000 in
set_option maxHeartbeats 2000000 in
theorem keep_Has (v : Value) (L : List Int) (x : Int) (hL : L.length < 9223372036854775807) (w : World) (hv : SlIw w v L) :
    Calls Tryz.prog 44 #[v, .int .i64 x] w fun e w' => e = .returned (.bool (decide (x ∈ L))) ∧ w = w' := by
  obtain ⟨p, cp, rfl⟩ := hv.form
  have HV := Lib.hid hv
  obtain ⟨m, hm⟩ : ∃ m, m = L.length := ⟨_, rfl⟩
  rw [← hm] at HV hL ⊢
  have HM := Lib.hid hm
  clear hv hm
  go_enter Tryz.func44, Tryz.ntmps44
  go_wp2_with fail
  go_loop [5] (fun c => ∃ i : Nat, i ≤ m ∧ c = .int .i64 i ∧ ∀ j (h : j < L.length), j < i → L[j] ≠ x) (fun c => m - (intOf c).toNat)
  case atStart => exact ⟨0, Nat.zero_le _, rfl, fun j _ h => absurd h (by omega)⟩
  case round =>
    obtain ⟨i, hik, rfl, hp⟩ := hrel
    have HP := Lib.hid hp
    clear hp
    by_cases hlt : i < m
    · have hi : (i : Int) < (m : Int) := by omega
      have hi0 : (0 : Int) ≤ (i : Int) := by omega
      have v1 : IntKind.i64.wrap ((i : Int) + 1) = (i : Int) + 1 := IntWalk.i64_in _ (by omega)
      have hl : i < L.length := by rw [← HM.out]; exact hlt
      obtain ⟨b, off, rfl, hI⟩ := SlIw.atN HM.out HV.out hl
      have c0 := hI.at' i hl
      obtain ⟨y, hy⟩ : ∃ y, y = L[i] := ⟨_, rfl⟩
      have HY := Lib.hid hy
      rw [← hy] at c0
      clear hI hy
      by_cases hxy : y = x
      · have q0 : (y == x) = true := by rw [hxy]; exact beq_self_eq_true x
        have FIN : Hid (decide (x ∈ L) = true) := by
          show _ = _
          rw [decide_eq_true_eq, ← hxy, HY.out]; exact List.getElem_mem _
        clear hxy
        go_wp2_with fail
        go_ret
        rw [FIN.out]
        exact ⟨rfl, rfl⟩
      · have q0 : (y == x) = false := by rw [beq_eq_false_iff_ne]; exact hxy
        have NX := Lib.hid hxy
        clear hxy
        go_wp2_with fail
        go_round
        case rel =>
          refine ⟨i + 1, by omega, by go_num, fun j hj hji => ?_⟩
          by_cases e : j = i
          · subst e; rw [← HY.out]; exact NX.out
          · exact HP.out j hj (by omega)
        case measure => simp [intOf]; omega
    · have hi : ¬ (i : Int) < (m : Int) := by omega
      have FIN : Hid (decide (x ∈ L) = false) := by
        show _ = _
        rw [decide_eq_false_iff_not]
        intro hx
        obtain ⟨j, hj, e⟩ := List.getElem_of_mem hx
        exact HP.out j hj (by have := HM.out; omega) e
      go_wp2_with fail
      go_ret
      rw [FIN.out]
      exact ⟨rfl, rfl⟩
end Go.Proofs.YtdbiebnnogjccaaGreatDoor

/- Pages (layer 22): PagerNone. -/
namespace Go.Proofs.YtdbiebnnogjccaaGreatDoor
open Go.RowKit
theorem SlStgs.one {w : World} {b : Nat} {t : TypeId} {x : Stg} {v : Value} (h : w.heap[b]? = some (.cells #[.int .i64 x.k, .int .i64 x.n, .int .u32 x.num, .string x.s, v] t (0, 0))) (hv : SlIw w v x.l) : SlStgs w (.slice (some ⟨b, 0, none⟩) 1 1) [x] := by
  refine .inr ⟨b, 0, 1, rfl, Nat.le_refl _, ⟨fun _ => blk_lt h, fun i hi => ?_, fun i hi => ?_, fun i hi => ?_, fun i hi => ?_, fun i hi => ?_⟩⟩ <;> (have h0 : i = 0 := by simpa using hi)
  all_goals subst h0
  · rw [blk_cell h]; rfl
  · rw [blk_cell h]; rfl
  · rw [blk_cell h]; rfl
  · rw [blk_cell h]; rfl
  · exact ⟨v, by rw [blk_cell h]; rfl, hv⟩
set_option maxRecDepth 100000 in
set_option maxHeartbeats 4000000 in
theorem law22_PagerNone (x : Stg) (v : Value) (w : World) (hv : SlIw w v x.l) (hw : PgW w) :
    Calls Tryz.prog 6 #[.agg #[.int .i64 x.k, .int .i64 x.n, .int .u32 x.num, .string x.s, v]] w fun e w' => e = .returned (.bool true) ∧ Below w.heap.size w w' := by
  have HW := Lib.hid hw
  have WK := Lib.hid (fun W h => wakes22 W h)
  obtain ⟨p, c, rfl⟩ := hv.form
  have HV := Lib.hid hv
  clear hw hv
  obtain ⟨w1, hw1⟩ : ∃ w1, w1 = w.alloc (.cells #[.int .i64 x.k, .int .i64 x.n, .int .u32 x.num, .string x.s, .slice p x.l.length c] 76) := ⟨_, rfl⟩
  have B1 : Hid (Below w.heap.size w w1) := by show Below _ _ _; rw [hw1]; exact below_alloc1 _ _
  have b1 : Hid (w1.heap[w.heap.size]? = some (.cells #[.int .i64 x.k, .int .i64 x.n, .int .u32 x.num, .string x.s, .slice p x.l.length c] 76 (0, 0))) := by show _ = _; rw [hw1]; exact blk_new _ _
  obtain ⟨w2, hw2⟩ : ∃ w2, w2 = w1.alloc (.cells #[.int .i64 x.k, .int .i64 x.n, .int .u32 x.num, .string x.s, .slice p x.l.length c] 76) := ⟨_, rfl⟩
  have B2 : Hid (Below w1.heap.size w1 w2) := by show Below _ _ _; rw [hw2]; exact below_alloc1 _ _
  have b2 : Hid (w2.heap[w1.heap.size]? = some (.cells #[.int .i64 x.k, .int .i64 x.n, .int .u32 x.num, .string x.s, .slice p x.l.length c] 76 (0, 0))) := by show _ = _; rw [hw2]; exact blk_new _ _
  have FR := Lib.hid (law22_fair _ [x] (by simp) w2 (SlStgs.one b2.out (HV.out.below (bstep B1.out B2.out))))
  go_enter Tryz.func6, Tryz.ntmps6
  go_upto_region 1 with (fail)
  rw [← hw1]
  have hc := blk_cell b1.out
  clear hw1
  go_wp2_with fail
  rw [← hw2]
  clear hw2 hc
  refine FR.out.mono ?_; rintro e w3 ⟨rfl, b, rfl, -⟩
  have BB := Lib.hid (bstep B1.out B2.out)
  have bx := Lib.hid (blk_below b1.out B2.out)
  cases b with
  | false =>
    go_wp2_with fail
    refine (WK.out _ (HW.out.below BB.out)).mono ?_; rintro e y ⟨rfl, hby⟩
    have By := Lib.hid (bstep BB.out hby)
    clear hby
    go_wp2_with fail
    go_ret
    exact ⟨rfl, By.out⟩
  | true =>
    have hc := blk_cell bx.out
    go_wp2_with fail
    refine (pnil_Take _).mono ?_; rintro e y ⟨rfl, rfl⟩
    go_wp2_with fail
    refine (pnil_Read _ _ (HW.out.below BB.out)).mono ?_; rintro e y1 ⟨rfl, hb⟩
    have B3 := Lib.hid (bstep BB.out hb)
    have bx3 := Lib.hid (blk_below bx.out hb)
    clear hc hb
    have hc := blk_cell bx3.out
    go_wp2_with fail
    refine (pager_New_nil _ _).mono ?_; rintro e y ⟨rfl, rfl⟩
    go_wp2_with fail
    refine (pnil_Drop _).mono ?_; rintro e y ⟨rfl, rfl⟩
    go_wp2_with fail
    refine (pnil_Give _ _).mono ?_; rintro e y ⟨rfl, rfl⟩
    go_wp2_with fail
    refine (pnil_Write _ _ _ _ (HW.out.below B3.out)).mono ?_; rintro e y2 ⟨rfl, hb⟩
    have B4 := Lib.hid (bstep B3.out hb)
    have bx4 := Lib.hid (blk_below bx3.out hb)
    clear hc hb
    have hc := blk_cell bx4.out
    go_wp2_with fail
    refine (pnil_Keep _ _).mono ?_; rintro e y3 ⟨rfl, hb⟩
    have B5 := Lib.hid (bstep B4.out hb)
    clear hc hb
    go_wp2_with fail
    refine (pnil_Live _).mono ?_; rintro e y ⟨rfl, rfl⟩
    go_wp2_with fail
    refine (pnil_Fresh _).mono ?_; rintro e y ⟨rfl, rfl⟩
    go_wp2_with fail
    refine (pnil_Left _).mono ?_; rintro e y ⟨rfl, rfl⟩
    go_wp2_with fail
    refine (WK.out _ (HW.out.below B5.out)).mono ?_; rintro e y ⟨rfl, hby⟩
    have By := Lib.hid (bstep B5.out hby)
    clear hby
    go_wp2_with fail
    go_ret
    exact ⟨rfl, By.out⟩
end Go.Proofs.YtdbiebnnogjccaaGreatDoor
