/- Disks (layer 19): Flush, Arm. -/
import Derived.Test.YtdbiebnnogjccaaGreatDoorAp
import Derived.WalkSpells
namespace Go.Proofs.YtdbiebnnogjccaaGreatDoor
open Go.RowKit Go.Maps
theorem may_dead_none {d : Dk} (h : d.may 0 = 0) : d.dead = false := (may_range h).1
set_option maxRecDepth 20000 in
set_option maxHeartbeats 2000000 in
theorem disk_Flush (g mb cb : Nat) (kv : Value) (d : Dk) (aD aA : Addr) (w : World) (hw : DkW w aD aA) (hd : DiskAt w g mb cb 4096 kv d) (ok : d.Ok) :
    Calls Tryz.prog 76 #[.pointer (some ⟨g, 0, none⟩)] w fun e w' => e = .returned (.int .i64 d.flush.2) ∧ DiskAt w' g mb cb 4096 kv d.flush.1 ∧ Fr (DkS g mb cb) w w' := by
  have MY := Lib.hid (disk_may 0 g mb cb 4096 kv d aD aA w hw hd)
  have HW := Lib.hid hw
  have HD := Lib.hid hd
  have OK := Lib.hid ok
  clear hw hd ok
  by_cases h0 : d.may 0 = 0
  · rw [h0] at MY
    have CR := Lib.hid (fun W h => disk_crashes g mb cb 4096 kv d W h OK.out.lf)
    cases hf : d.falls with
    | true =>
      have e : d.flush = (d.tick.crash d.keep, 74) := by unfold Dk.flush; rw [if_neg (by simpa using h0), if_pos hf]
      rw [e]
      rw [hf] at CR
      clear e h0 hf
      go_enter Tryz.func76, Tryz.ntmps76
      go_wp2_with fail
      refine MY.out.mono ?_; rintro e w1 ⟨hp, hb1⟩
      obtain rfl : e = _ := hp
      have B1 := Lib.hid hb1
      have D1 := Lib.hid (HD.out.below hb1)
      clear hb1
      go_wp2_with fail
      refine (CR.out _ D1.out).mono ?_; rintro e w3 ⟨rfl, hd3, hf3⟩
      have D3 := Lib.hid hd3
      have F3 : Hid (Fr (DkS g mb cb) w w3) := (Fr.of_below B1.out).trans (hf3.mono fun _ h => .inl h)
      clear hd3 hf3
      have hc3 := blk_cell D3.out.blk
      unfold dkCells at hc3
      have CS := Lib.hid (disk_Crash kv d.tick.keep (by rw [Dk.tick_keep]; exact OK.out.kl) g mb cb kv d.tick w3 D3.out OK.out.ok0.tick D3.out.hk (fun b off n c e h => by have := D3.out.kn b off n c e; rcases h with h | h | h; exact this.1 h; exact this.2.1 h; exact this.2.2 h))
      rw [Dk.tick_keep] at CS
      go_wp2_with fail
      refine CS.out.mono ?_; rintro e w4 ⟨rfl, hd4, hf4⟩
      have D4 := Lib.hid hd4
      have F4 : Hid (Fr (DkS g mb cb) w w4) := F3.out.trans hf4
      clear hd4 hf4
      go_wp2_with fail
      go_ret
      exact ⟨rfl, D4.out, F4.out⟩
    | false =>
      have e : d.flush = (d.tick.pour, 0) := by unfold Dk.flush; rw [if_neg (by simpa using h0), if_neg (by rw [hf]; decide)]
      rw [e]
      rw [hf] at CR
      have ok1 := Lib.hid (OK.out.tick hf)
      clear e h0 hf
      go_enter Tryz.func76, Tryz.ntmps76
      go_wp2_with fail
      refine MY.out.mono ?_; rintro e w1 ⟨hp, hb1⟩
      obtain rfl : e = _ := hp
      have B1 := Lib.hid hb1
      have D1 := Lib.hid (HD.out.below hb1)
      clear hb1
      go_wp2_with fail
      refine (CR.out _ D1.out).mono ?_; rintro e w3 ⟨rfl, hd3, hf3⟩
      have D3 := Lib.hid hd3
      have F3 : Hid (Fr (DkS g mb cb) w w3) := (Fr.of_below B1.out).trans (hf3.mono fun _ h => .inl h)
      clear hd3 hf3
      go_upto_region 7 with (fail)
      have CP := Lib.hid (fun W hm hc => maps_Copy d.tick.m d.tick.c d.tick.n ok1.out.n1 ok1.out.km ok1.out.kc mb cb D3.out.mc W hm hc)
      have SOf : Hid (∀ W, Below w3.heap.size w3 W → (∀ o, W.cell? ⟨g, o, none⟩ = (#[.int .i64 d.tick.n, .map (some mb), .map (some cb), .bool d.tick.armed, .int .i64 d.tick.left, kv, .bool d.tick.dead] : Array Value)[o]?)) :=
        fun W h o => by have := blk_cell (D3.out.below h).blk o; unfold dkCells at this; exact this
      have D0 : Hid (Below w3.heap.size w3 w3.drew) := ⟨rfl, rfl, rfl, Nat.le_refl _, fun _ _ => rfl⟩
      have S0 := SOf.out _ D0.out
      have hgl : g < w3.heap.size := D3.out.lt
      have hgm : g ≠ mb := D3.out.gm
      go_region_held3 (fun w' => (∀ o, w'.cell? ⟨g, o, none⟩ = (#[.int .i64 d.tick.n, .map (some mb), .map (some cb), .bool d.tick.armed, .int .i64 d.tick.left, kv, .bool d.tick.dead] : Array Value)[o]?)) (first | exact S0 | exact S9 | assumption)
        (first
          | (go_at_call 124; refine (CP.out _ (D3.out.hm.below D0.out) (D3.out.hc.below D0.out)).mono ?_; rintro e y ⟨rfl, hym, hyc, hyg⟩; have S9 := (fun o => (grown_cell (o := o) hyg hgl hgm).trans (S0 o)); have YM := Lib.hid hym; have YC := Lib.hid hyc; have YG := Lib.hid hyg; clear hym hyc hyg))
      have D4 := Lib.hid ((D3.out.below D0.out).moved ((Fr.refl _ _).grown YG.out (fun k e => by injection e with e; exact .inl (.inl e.symm))) YM.out YC.out)
      have F4 : Hid (Fr (DkS g mb cb) w y) := (F3.out.trans (Fr.of_below D0.out)).grown YG.out (fun k e => by injection e with e; exact .inl (.inr (.inl e.symm)))
      obtain ⟨w2, hcl, hm2, hg2⟩ := run_clear_any D4.out.hc
      have D5 := Lib.hid (D4.out.moved ((Fr.refl _ _).grown hg2 (fun k e => by injection e with e; exact .inl (.inr e.symm))) (D4.out.hm.kept hg2 (fun e => D4.out.mc (by injection e))) hm2)
      have F5 : Hid (Fr (DkS g mb cb) w w2) := F4.out.grown hg2 (fun k e => by injection e with e; exact .inl (.inr (.inr e.symm)))
      clear S0 hm2 hg2 hgl hgm
      go_wp2_with fail
      go_ret
      exact ⟨rfl, D5.out, F5.out⟩
  · have e : d.flush = (d, d.may 0) := by unfold Dk.flush; rw [if_pos h0]
    rw [e]
    clear e
    have hc1 : d.may 0 = 1 ∨ d.may 0 = 74 := (may_cases d 0).resolve_left h0
    obtain ⟨c, hc⟩ : ∃ c, c = d.may 0 := ⟨_, rfl⟩
    rw [← hc] at MY h0 hc1 ⊢
    clear hc
    go_enter Tryz.func76, Tryz.ntmps76
    go_wp2_with fail
    refine MY.out.mono ?_; rintro e w1 ⟨hp, hb1⟩
    unfold MayP at hp
    rw [if_neg h0] at hp
    obtain ⟨p, rfl, hp1⟩ := hp
    have TL := Lib.hid (disk_told c hc1 p aD aA w1 (HW.out.below hb1) hp1)
    have B1 := Lib.hid hb1
    clear hb1 hp1
    go_wp2_with fail
    refine TL.out.mono ?_; rintro e w2 ⟨rfl, rfl⟩
    go_wp2_with fail
    go_ret
    exact ⟨rfl, HD.out.below B1.out, Fr.of_below B1.out⟩
/-- The cells of pairs. -/
def ktCells (l : List (Int × Int)) : List Value := (l.map fun x => [Value.int .i64 x.1, Value.int .i64 x.2]).flatten
theorem ktCells_len : ∀ l : List (Int × Int), (ktCells l).length = l.length * 2
  | [] => rfl
  | x :: l => by
    have e : ktCells (x :: l) = [Value.int .i64 x.1, Value.int .i64 x.2] ++ ktCells l := by simp [ktCells]
    rw [e, List.length_append, ktCells_len l, List.length_cons]
    simp; omega
theorem ktCells_get : ∀ (l : List (Int × Int)) (i : Nat) (h : i < l.length), (ktCells l)[i * 2]? = some (.int .i64 l[i].1) ∧ (ktCells l)[i * 2 + 1]? = some (.int .i64 l[i].2)
  | [], i, h => absurd h (by simp)
  | x :: l, 0, _ => by simp [ktCells]
  | x :: l, i + 1, h => by
    have e : ktCells (x :: l) = Value.int .i64 x.1 :: Value.int .i64 x.2 :: ktCells l := by simp [ktCells]
    have := ktCells_get l i (by simpa using h)
    rw [e, show (i + 1) * 2 = i * 2 + 1 + 1 by omega, show i * 2 + 1 + 1 + 1 = (i * 2 + 1) + 1 + 1 by omega]
    simpa using this
theorem KeptAt.cells {w : World} {b off : Nat} {l : List (Int × Int)} (h : KeptAt w b off l) : ∀ j u, (ktCells l)[j]? = some u → w.cell? ⟨b, off + j, none⟩ = some u := by
  intro j u hu
  have hj : j < l.length * 2 := by have := (List.getElem?_eq_some_iff.1 hu).1; rw [ktCells_len] at this; exact this
  obtain ⟨i, r, rfl, hr⟩ : ∃ i r, j = i * 2 + r ∧ r < 2 := ⟨j / 2, j % 2, by omega, by omega⟩
  have hi : i < l.length := by omega
  have hg := ktCells_get l i hi
  have hr2 : r = 0 ∨ r = 1 := by omega
  rcases hr2 with rfl | rfl
  · rw [Nat.add_zero, hg.1] at hu; injection hu with hu; subst hu; exact h.sec i hi
  · rw [hg.2] at hu; injection hu with hu; subst hu; exact h.byt i hi
theorem SlKept.cells {w : World} {v : Value} {l : List (Int × Int)} (h : SlKept w v l) : SlCells w v l.length (ktCells l) := by
  rcases h with ⟨rfl, p, c, rfl⟩ | ⟨b, off, cap, e, _, h⟩
  · exact .inl ⟨rfl, rfl, p, c, rfl⟩
  · exact .inr ⟨b, off, cap, e, h.cells⟩
theorem SlKept.of_cells {w : World} {g c : Nat} {l : List (Int × Int)} (hc : l.length ≤ c) (h : ∀ j u, (ktCells l)[j]? = some u → w.cell? ⟨g, j, none⟩ = some u) (hg : 0 < l.length → g < w.heap.size) : SlKept w (.slice (some ⟨g, 0, none⟩) l.length c) l :=
  .inr ⟨g, 0, c, rfl, hc, fun h0 => hg (List.length_pos_iff.2 h0), fun i hi => by rw [Nat.zero_add]; exact h _ _ (ktCells_get l i hi).1, fun i hi => by rw [Nat.zero_add]; exact h _ _ (ktCells_get l i hi).2⟩
theorem SlKept.form {w : World} {v : Value} {l : List (Int × Int)} (h : SlKept w v l) : ∃ p c, v = .slice p l.length c := by
  rcases h with ⟨e, p, c, h⟩ | ⟨b, off, cap, e, _⟩
  · subst e; exact ⟨p, c, h⟩
  · exact ⟨_, _, e⟩
theorem Tryz.info131 : (Tryz.prog.info? 131).map (fun i => (i.zero, i.size, i.bytes)) = some (some (.agg #[.int .i64 0, .int .i64 0]), 2, 16) := by kernel_rfl
set_option maxRecDepth 20000 in
set_option maxHeartbeats 1000000 in
theorem clone_kept (v : Value) (l : List (Int × Int)) (hl : l.length ≤ 65536) (w : World) (hv : SlKept w v l) :
    Calls Tryz.prog 90 #[v] w fun e w' => ∃ v', e = .returned v' ∧ SlKept w' v' l ∧ (∀ b off n c, v' = .slice (some ⟨b, off, none⟩) n c → w.heap.size ≤ b) ∧ Below w.heap.size w w' := by
  have HV := Lib.hid hv
  have q22 : ∀ (w : World) (a : Option Addr) (n c n' c' : Nat), (binOp .eql 37 (.slice a n c) (.slice none n' c')).run Tryz.prog w = .ok (.bool a.isNone) w := fun w a n c n' c' => Lib.run_eql_slice_nil w _ _ a n c n' c' Tryz.underlying37
  obtain ⟨p, cap, rfl⟩ := hv.form
  cases p with
  | none =>
    obtain rfl : l = [] := by
      rcases hv with ⟨e, _⟩ | ⟨b, off, cap, e, _⟩
      · exact e
      · injection e with e; cases e
    clear HV hv
    go_enter Tryz.func90, Tryz.ntmps90
    go_wp2_with fail
    go_ret
    exact ⟨_, rfl, .inl ⟨rfl, _, _, rfl⟩, (fun b off n c e => by cases e), Below.refl _ _⟩
  | some a0 =>
    clear hv
    obtain ⟨i0, ih, i1, i2, i3⟩ := info_parts Tryz.info131
    have Hl := Lib.hid hl
    clear hl
    go_enter Tryz.func90, Tryz.ntmps90
    go_wp2_with (at_builtin; refine wpList_append_new rfl _ _ _ rfl 131 i0 _ Tryz.underlying37 ih i1 2 i2 (by omega) _ rfl _ rfl l.length (ktCells l) (ktCells_len l) (HV.out.below (below_alloc1 _ _)).cells (by have := Hl.out; omega) ?_; intro g c w' h1 h2 h3 h4 h5; have H2 := Lib.hid h2; have H3 := Lib.hid h3; have H4 := Lib.hid h4; have H5 := Lib.hid h5; clear h2 h3 h4 h5)
    go_ret
    exact ⟨_, rfl, SlKept.of_cells h1 H2.out (fun h => (H5.out h).2), (fun b off n c e => by
      injection e with e _ _
      injection e with e
      injection e with e _ _
      subst e
      rcases H4.out with h | h
      · rw [h]; exact Nat.le_refl _
      · rw [h]; simp), bstep (below_alloc1 _ _) H3.out⟩
/-- Behind an arming: what is kept may be a new slice. -/
def ArmP (w : World) (g mb cb : Nat) (kv : Value) (k0 : List (Int × Int)) (d' : Dk) (w' : World) : Prop := ∃ kv', ((kv' = kv ∧ d'.keep = k0) ∨ ∀ b off n c, kv' = .slice (some ⟨b, off, none⟩) n c → w.heap.size ≤ b) ∧ DiskAt w' g mb cb 4096 kv' d' ∧ Fr (fun q => q = g) w w'
theorem DiskAt.setKeep {w : World} {g mb cb k : Nat} {kv kv' : Value} {d : Dk} {l : List (Int × Int)} (h : DiskAt w g mb cb k kv d) (hk : SlKept w kv' l) (hn : ∀ b off n c, kv' = .slice (some ⟨b, off, none⟩) n c → b ≠ g ∧ b ≠ mb ∧ b ≠ cb) : DiskAt (w.setCell ⟨g, 5, none⟩ kv') g mb cb k kv' { d with keep := l } :=
  ⟨by rw [blk_set h.blk]; simp [dkCells], h.hm.setCell h.gm.symm _, h.hc.setCell h.gc.symm _, hk.fr ((Fr.refl (fun q => q = g) w).setCell (.inl rfl) kv') (fun b off n c e => (hn b off n c e).1), h.n0, h.n1, h.gm, h.gc, h.mc, hn⟩
set_option maxRecDepth 20000 in
set_option maxHeartbeats 1000000 in
theorem disk_Arm (n : Int) (kvv : Value) (l : List (Int × Int)) (hl : l.length ≤ 65536) (g mb cb : Nat) (kv : Value) (d : Dk) (w : World) (hd : DiskAt w g mb cb 4096 kv d) (hk : SlKept w kvv l) :
    Calls Tryz.prog 29 #[.pointer (some ⟨g, 0, none⟩), .int .i64 n, kvv] w fun e w' => e = .returned (.int .i64 (d.arm n l).2) ∧ ArmP w g mb cb kv d.keep (d.arm n l).1 w' := by
  have HD := Lib.hid hd
  have CL := Lib.hid (clone_kept kvv l hl w hk)
  clear hd hk
  by_cases h0 : n < 0
  · have e : d.arm n l = (d, 1) := by unfold Dk.arm; rw [if_pos (.inl h0)]
    rw [e]; clear e
    go_enter Tryz.func29, Tryz.ntmps29
    go_wp2_with fail
    go_ret
    exact ⟨rfl, kv, .inl ⟨rfl, rfl⟩, HD.out, Fr.refl _ _⟩
  by_cases h1 : 100000 < n
  · have e : d.arm n l = (d, 1) := by unfold Dk.arm; rw [if_pos (.inr h1)]
    rw [e]; clear e
    go_enter Tryz.func29, Tryz.ntmps29
    go_wp2_with fail
    go_ret
    exact ⟨rfl, kv, .inl ⟨rfl, rfl⟩, HD.out, Fr.refl _ _⟩
  have e : d.arm n l = ({ d with armed := true, left := n, keep := l }, 0) := by unfold Dk.arm; rw [if_neg (by omega)]
  rw [e]; clear e
  go_enter Tryz.func29, Tryz.ntmps29
  go_wp2_with fail
  refine CL.out.mono ?_; rintro e w1 ⟨v', rfl, hv', hn', hb1⟩
  obtain ⟨p, c, rfl⟩ := hv'.form
  have D1 := Lib.hid (HD.out.below hb1)
  have lg := HD.out.lt
  have lm := HD.out.hm.lt
  have lc := HD.out.hc.lt
  have HN : Hid (∀ b off n c', Value.slice p l.length c = .slice (some ⟨b, off, none⟩) n c' → b ≠ g ∧ b ≠ mb ∧ b ≠ cb) := fun b off n c e => by have := hn' b off n c e; omega
  have HB := Lib.hid hn'
  have HV := Lib.hid hv'
  have B1 := Lib.hid hb1
  clear hv' hn' hb1
  have h2 := Lib.hid (D1.out.set (d' := { d with armed := true }) 3 (.bool true) (by simp [dkCells]) rfl rfl rfl rfl)
  have h3 := Lib.hid (h2.out.set (d' := { d with armed := true, left := n }) 4 (.int .i64 n) (by simp [dkCells]) rfl rfl rfl rfl)
  have hv3 := Lib.hid ((HV.out.fr (fr_set (w := w1) (S := fun q => q = g) (g := g) rfl 3 (.bool true)) (fun b off n c e => (HN.out b off n c e).1)).fr (fr_set (S := fun q => q = g) (g := g) rfl 4 (.int .i64 n)) (fun b off n c e => (HN.out b off n c e).1))
  have h4 := Lib.hid (h3.out.setKeep hv3.out HN.out)
  have hc1 := blk_cell D1.out.blk
  have hf1 := blk_frozen D1.out.blk
  have hc2 := blk_cell h2.out.blk
  have hf2 := blk_frozen h2.out.blk
  have hc3 := blk_cell h3.out.blk
  have hf3 := blk_frozen h3.out.blk
  unfold dkCells at hc1 hc2 hc3
  clear lg lm lc
  go_wp2_with fail
  go_ret
  refine ⟨rfl, _, .inr HB.out, h4.out, ?_⟩
  exact (((Fr.of_below B1.out).trans (fr_set (S := fun q => q = g) rfl _ _)).trans (fr_set (S := fun q => q = g) rfl _ _)).trans (fr_set (S := fun q => q = g) rfl _ _)
end Go.Proofs.YtdbiebnnogjccaaGreatDoor
