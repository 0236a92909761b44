/- Pages (layer 22): the pages of a kind; Live, Fresh; Drop. -/
import Derived.Test.YtdbiebnnogjccaaGreatDoorIk
import Derived.Test.YtdbiebnnogjccaaGreatDoorSd
namespace Go.Proofs.YtdbiebnnogjccaaGreatDoor
open Go.RowKit Go.Maps Go.Sort
/-- Those of a kind that have come already. -/
def CamK (l : List Int) (c : Int) (left : Int → Bool) (ss : List Int) : Prop := ss.Nodup ∧ ∀ x, x ∈ ss ↔ kindL l x = c ∧ left x = false
theorem CamK.start {l : List Int} {c : Int} (hc : c ≠ 0) : CamK l c (fun i => kindL l i != 0) [] := ⟨List.nodup_nil, fun x => ⟨fun h => absurd h (by simp), fun ⟨h1, h2⟩ => by have h2 : (kindL l x != 0) = false := h2; rw [h1] at h2; exact absurd h2 (by simpa using hc)⟩⟩
theorem CamK.hit {l : List Int} {c : Int} {left : Int → Bool} {ss : List Int} (h : CamK l c left ss) {i : Int} (hl : left i = true) (hk : kindL l i = c) : CamK l c (fun j => left j && !(j == i)) (ss ++ [i]) := by
  have hn : i ∉ ss := fun hi => by have := ((h.2 i).1 hi).2; rw [hl] at this; cases this
  refine ⟨List.nodup_append.2 ⟨h.1, by simp, fun a ha b hb => by simp at hb; subst hb; exact fun e => hn (e ▸ ha)⟩, fun x => ?_⟩
  rw [List.mem_append, List.mem_singleton, h.2 x]
  by_cases e : x = i
  · subst e; simp [hk]
  · simp [e]
theorem CamK.miss {l : List Int} {c : Int} {left : Int → Bool} {ss : List Int} (h : CamK l c left ss) {i : Int} (hk : kindL l i ≠ c) : CamK l c (fun j => left j && !(j == i)) ss := by
  refine ⟨h.1, fun x => ?_⟩
  rw [h.2 x]
  by_cases e : x = i
  · subst e; simp [hk]
  · simp [e]
theorem CamK.end {l : List Int} {c : Int} {left : Int → Bool} {ss : List Int} (h : CamK l c left ss) (hc : c ≠ 0) (hn : l.length ≤ 4096) (hl : ∀ i, wf64 i → left i = false) : (ss.mergeSort fun x y => decide (x ≤ y)) = ofK l c ∧ ss.length = (ofK l c).length := by
  have hp : ss.Perm (ofK l c) := (List.perm_ext_iff_of_nodup h.1 (ofK_nodup l c)).2 fun x => by
    rw [h.2 x, mem_ofK' hc]
    refine ⟨fun h => h.1, fun hk => ⟨hk, hl x ?_⟩⟩
    have := kindL_in (l := l) (i := x) (by rw [hk]; exact hc)
    exact wf64_of (by omega) (by omega)
  refine ⟨?_, hp.length_eq⟩
  have e := mergeSort_of_perm_i hp
  show ss.mergeSort leI = _
  rw [e]
  exact ofK_sorted l c
theorem CamK.le {l : List Int} {c : Int} {left : Int → Bool} {ss : List Int} (h : CamK l c left ss) (hc : c ≠ 0) : ss.length ≤ l.length := by
  refine Nat.le_trans (List.Nodup.length_le_of_subset h.1 (l₂ := ofK l c) fun x hx => ?_) (ofK_le l c)
  exact (mem_ofK' hc).2 ((h.2 x).1 hx).1
/-- A list of numbers is handed back. -/
def IntsP (L : List Int) (w : World) (e : Ending) (w' : World) : Prop := ∃ v, e = .returned v ∧ SlIl w' v L ∧ (∀ b, v.ownBlock = some b → w.heap.size ≤ b) ∧ Below w.heap.size w w'
section
variable {w : World} {p pm g mb cb : Nat} {n : Int} {lg : Nat} {l : List Int} {d : Dk} {S : Nat → Prop}
set_option maxRecDepth 20000 in
set_option maxHeartbeats 4000000 in
theorem pager_of (c : Int) (hc0 : c ≠ 0) (w : World) (h : PgAt w S p n lg l d) : Calls Tryz.prog 109 #[.pointer (some ⟨p, 0, none⟩), .int .i64 c] w (IntsP (ofK l c) w) := by
  obtain ⟨pm, g, mb, cb, h, _⟩ := h
  have pg := h.pages
  have H := Lib.hid h
  have hc := blk_cell h.blk
  unfold pgCells at hc
  have HC := Lib.hid hc0
  have ml := h.map.lt
  have SO := Lib.hid (fun v ss W k1 k2 => sort_own w.heap.size v ss W k1 k2)
  clear h hc0
  go_enter Tryz.func109, Tryz.ntmps109
  go_wp2_with (at_range; refine wpList_range_int _ rfl _ rfl pm l.length (kindL l) rfl H.out.map ?_; intro w0 cnt0 hr0 hg0 hs0)
  go_frame
  have HR0 := Lib.hid hr0
  have B0 : Hid (Below w.heap.size w w0) := ⟨hg0.os, hg0.tape, hg0.output, hg0.size, fun k hk => hg0.block k hk (by simp)⟩
  clear hr0 hg0 hs0 hc
  go_loopw [5] (fun v wr => ∃ left cnt ss, RangI wr pm w.heap.size l.length (kindL l) left cnt ∧ CamK l c left ss ∧ wr.ownsRow w.heap.size 3 1 v ss.length (ss.map (Value.int .i64)) ∧ v.ownBlock ≠ some w.heap.size ∧ Below w.heap.size w wr) (fun _ wr => wr.rangeLeft pm w.heap.size)
  case atStart => exact ⟨_, cnt0, [], HR0.out, CamK.start HC.out, ⟨rfl, .inl ⟨rfl, rfl⟩⟩, (fun e => by cases e), B0.out⟩
  case round =>
    clear HR0 B0
    obtain ⟨left, cnt, ss, hrg, hcam, hrow, hne, hB⟩ := hrel
    have HR := Lib.hid hrg; have HC2 := Lib.hid hcam; have HO := Lib.hid hrow; have HN := Lib.hid hne; have HB := Lib.hid hB
    have sl := hcam.le HC.out
    clear hrg hcam hrow hne hB
    go_wp2_with (at_next; refine wpList_next_int _ rfl _ rfl pm w.heap.size l.length (kindL l) left cnt rfl HR.out ?_ ?_)
    · intro hnone
      have EN := Lib.hid (HC2.out.end HC.out pg hnone)
      clear hnone
      go_wp2_with fail
      refine (SO.out _ ss _ HO.out (by omega)).mono ?_; rintro e w3 ⟨rfl, h1, h2⟩
      have R3 := Lib.hid h1
      have B3 := Lib.hid (bel_row HB.out HB.out.size HO.out h2)
      clear h1 h2
      go_wp2_with fail
      go_ret
      refine ⟨_, rfl, ?_, fun b hb => (R3.out.lt b hb).1, B3.out⟩
      have h := R3.out
      rw [EN.out.1, EN.out.2] at h
      exact SlIl.of_own h
    · intro i w1 cnt1 hi hli hfi hrg1 hlt hg1 hs1 hen
      have R1 := Lib.hid hrg1; have HLI := Lib.hid hli; have HLT := Lib.hid hlt
      have B1 : Hid (Below w.heap.size w w1) := ⟨hg1.os.trans HB.out.os, hg1.tape.trans HB.out.tape, hg1.output.trans HB.out.output, Nat.le_trans HB.out.size hg1.size, fun k hk => (hg1.block k (Nat.lt_of_lt_of_le hk HB.out.size) (fun e => by simp at e; omega)).trans (HB.out.block k hk)⟩
      have O1 : Hid (w1.ownsRow w.heap.size 3 1 u5 ss.length (ss.map (Value.int .i64))) := row_fr HO.out (fr_grown1 hg1) (fun b hb e => HN.out (by rw [hb, e]))
      clear hli hrg1 hlt hg1 hs1 hfi HO
      by_cases hk : kindL l i = c
      · have q0 : (kindL l i == c) = true := by rw [hk]; exact beq_self_eq_true c
        have C2 := Lib.hid (HC2.out.hit HLI.out hk)
        clear hk
        go_wp2_with (at_builtin; refine wpList_append_i1 rfl _ _ rfl w.heap.size u5 ss rfl (O1.out.alloc _) w1.heap.size 1 rfl i (blk_cell (blk_new _ _) 0) (by omega) (by have := B1.out.size; simp; omega) ?_; intro G cap w2 k1 k2 k3; have K1 := Lib.hid k1; have K2 := Lib.hid k2; have K3 := Lib.hid k3; clear k1 k2 k3)
        have B2 := Lib.hid (bel_row (B1.out.alloc B1.out.size _) (by have := B1.out.size; simp; omega) (O1.out.alloc _) K2.out)
        have GN : Hid (G ≠ w.heap.size) := by
          have lt1 := R1.out.lt
          rcases K3.out with h | h
          · exact fun e => HN.out (by rw [← h, e])
          · simp at h; show _ ≠ _; omega
        have R2 := Lib.hid ((R1.out.below (below_alloc1 _ (.cells #[.int .i64 i] 3))).kept K2.out (fun e => by have := (O1.out.lt pm e.symm).1; omega) (fun e => HN.out e.symm))
        go_roundw
        case rel => exact ⟨_, cnt1, _, R2.out, C2.out, K1.out, fun e => GN.out (by injection e), B2.out⟩
        case measure => rw [R2.out.left_eq, HR.out.left_eq]; exact HLT.out
      · have q0 : (kindL l i == c) = false := by rw [beq_eq_false_iff_ne]; exact hk
        have C2 := Lib.hid (HC2.out.miss hk)
        clear hk
        go_wp2_with fail
        go_roundw
        case rel => exact ⟨_, cnt1, _, R1.out, C2.out, O1.out, HN.out, B1.out⟩
        case measure => rw [R1.out.left_eq, HR.out.left_eq]; exact HLT.out
end
end Go.Proofs.YtdbiebnnogjccaaGreatDoor

/- Pages (layer 22): Live, Fresh, Drop. -/
namespace Go.Proofs.YtdbiebnnogjccaaGreatDoor
open Go.RowKit Go.Maps Go.Shelf
section
variable {w : World} {p pm g mb cb : Nat} {n : Int} {lg : Nat} {l : List Int} {d : Dk} {S : Nat → Prop}
set_option maxHeartbeats 1000000 in
theorem pager_Live (w : World) (h : PgAt w S p n lg l d) : Calls Tryz.prog 49 #[.pointer (some ⟨p, 0, none⟩)] w (IntsP (ofK l 1) w) := by
  have H := Lib.hid (pager_of 1 (by decide) w h)
  clear h
  go_enter Tryz.func49, Tryz.ntmps49
  go_wp2_with fail
  refine H.out.mono ?_; rintro e w1 ⟨v, rfl, h1, h2, h3⟩
  have FIN : Hid (IntsP (ofK l 1) w (.returned v) w1) := ⟨v, rfl, h1, h2, h3⟩
  clear h1 h2 h3
  go_wp2_with fail
  go_ret
  exact FIN.out
set_option maxHeartbeats 1000000 in
theorem pager_Fresh (w : World) (h : PgAt w S p n lg l d) : Calls Tryz.prog 50 #[.pointer (some ⟨p, 0, none⟩)] w (IntsP (ofK l 2) w) := by
  have H := Lib.hid (pager_of 2 (by decide) w h)
  clear h
  go_enter Tryz.func50, Tryz.ntmps50
  go_wp2_with fail
  refine H.out.mono ?_; rintro e w1 ⟨v, rfl, h1, h2, h3⟩
  have FIN : Hid (IntsP (ofK l 2) w (.returned v) w1) := ⟨v, rfl, h1, h2, h3⟩
  clear h1 h2 h3
  go_wp2_with fail
  go_ret
  exact FIN.out
set_option maxHeartbeats 1000000 in
theorem drop_1 (k : Value) (v : Int) (w : World) : Calls Tryz.prog 107 (#[k, .int .i64 v] ++ #[]) w fun e w' => e = .returned (.bool (decide (v = 2))) ∧ w.grownBy w' none := by
  by_cases h : v = 2
  · have q : (v == 2) = true := by rw [h]; rfl
    rw [decide_eq_true h]
    clear h
    show Calls Tryz.prog 107 #[k, .int .i64 v] w _
    go_enter Tryz.func107, Tryz.ntmps107
    go_wp2_with fail
    go_ret
    exact ⟨rfl, World.grownBy.refl _ _⟩
  · have q : (v == 2) = false := by rw [beq_eq_false_iff_ne]; exact h
    rw [decide_eq_false h]
    clear h
    show Calls Tryz.prog 107 #[k, .int .i64 v] w _
    go_enter Tryz.func107, Tryz.ntmps107
    go_wp2_with fail
    go_ret
    exact ⟨rfl, World.grownBy.refl _ _⟩
theorem map_drop (b k : Nat) (f : Int → Int) (w : World) (h : MapI w b k f) :
    Calls Tryz.prog 106 #[.map (some b), .func (.func 107) #[] #[]] w fun e w' => e = .returned (.tuple #[]) ∧ MapI w' b k (fun i => if f i = 2 then 0 else f i) ∧ w.grownBy w' (some b) := by
  obtain ⟨D, h1, h2⟩ := h
  have eg : ∀ args w, (callFunc 107 args).run Tryz.prog w = .ok (.enter 107 args) w := enters_of Tryz.func107 (by kernel_rfl) rfl
  have hc : Calls Tryz.prog 106 #[.map (some b), .func (.func 107) #[] #[]] w (fun e w' => e = .returned (.tuple #[]) ∧ w'.ownsMap Tryz.prog 3 intE b k (Lib.deleteFuncD (isC 2) D) ∧ w.grownBy w' (some b)) :=
    AnyDf.maps_DeleteFunc Tryz.delI lawI intE (isC 2) 107 #[] b k D w eg h1 (fun W key val kl yd yp _ _ hv => by
      obtain ⟨c, rfl, hy, _⟩ := intE_inv hv
      obtain rfl : yd = .lit (.int .i64 c) := congrArg Prod.fst hy
      exact drop_1 key c W)
  exact hc.mono fun e w' ⟨he, hm, hg⟩ => ⟨he, ⟨_, hm, readsI_drop h1 h2 2⟩, hg⟩
set_option maxHeartbeats 1000000 in
theorem pager_Drop (w : World) (h : PgAt w S p n lg l d) : Calls Tryz.prog 46 #[.pointer (some ⟨p, 0, none⟩)] w fun e w' => e = .returned (.tuple #[]) ∧ PgAt w' S p n lg (dropL l) d ∧ Fr S w w' := by
  obtain ⟨pm, g, mb, cb, h, rfl⟩ := h
  have H := Lib.hid h
  have hc := blk_cell h.blk
  unfold pgCells at hc
  have MD := Lib.hid (map_drop pm l.length (kindL l) w h.map)
  clear h
  go_enter Tryz.func46, Tryz.ntmps46
  go_wp2_with fail
  refine MD.out.mono ?_; rintro e w1 ⟨rfl, hm, hg⟩
  have P1 := Lib.hid (H.out.mapped (l' := dropL l) (hm.congr fun i => (kindL_drop l i).symm) (fr_grown1 hg) (dropL_length l) (goodL_drop H.out.good))
  have F1 := Lib.hid (fr_grown1 hg)
  clear hm hg
  go_wp2_with fail
  go_end0
  exact ⟨rfl, P1.out.at, F1.out.mono fun b hb => .inr (.inr hb)⟩
end
end Go.Proofs.YtdbiebnnogjccaaGreatDoor
