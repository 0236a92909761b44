/- Layer 23: the reference's Find. -/
import Derived.Test.YtlpdanghcdajmaaDoorOd
namespace Go.Proofs.YtlpdanghcdajmaaDoor
open Go.RowKit
theorem findIdx_hit {α : Type} {p : α → Bool} {l : List α} {k : Nat} (hk : k < l.length) (hp : p l[k] = true) (hpre : ∀ j (h : j < l.length), j < k → p l[j] = false) : l.findIdx p = k :=
  (List.findIdx_eq hk).2 ⟨hp, fun j hj => hpre j (by omega) hj⟩
theorem findIdx_none {α : Type} {p : α → Bool} {l : List α} (hpre : ∀ j (h : j < l.length), p l[j] = false) : l.findIdx p = l.length := by
  rw [List.findIdx_eq_length]
  intro x hx
  obtain ⟨i, hi, rfl⟩ := List.getElem_of_mem hx
  exact hpre i hi
theorem set2_blk {w : World} {B : Nat} {c0 c1 : Value} {t : TypeId} (h : w.heap[B]? = some (.cells #[c0, c1] t (0, 0))) (v0 v1 : Value) : ((w.setCell ⟨B, 0, none⟩ v0).setCell ⟨B, 1, none⟩ v1).heap[B]? = some (.cells #[v0, v1] t (0, 0)) := by
  have := blk_set (blk_set h 0 v0) 1 v1
  simpa using this
theorem rfind_w0 (w : World) (n : Nd) (p1 p2 p3 : Option Addr) (c1 c2 c3 : Nat) (h : NdAt w (.slice p1 n.I.length c1) (.slice p2 n.K.length c2) (.slice p3 n.D.length c3) n) :
    ∃ w0, (w.alloc (.cells #[.bool n.lf, .slice p1 n.I.length c1, .slice p2 n.K.length c2, .slice p3 n.D.length c3] 77)).alloc (.cells #[.int .i64 0, .bool false] 93) = w0 ∧
      w0.heap[w.heap.size]? = some (.cells #[.bool n.lf, .slice p1 n.I.length c1, .slice p2 n.K.length c2, .slice p3 n.D.length c3] 77 (0, 0)) ∧
      w0.heap[w.heap.size + 1]? = some (.cells #[.int .i64 0, .bool false] 93 (0, 0)) ∧
      NdAt w0 (.slice p1 n.I.length c1) (.slice p2 n.K.length c2) (.slice p3 n.D.length c3) n ∧ Below w.heap.size w w0 := by
  have hb : Below w.heap.size w ((w.alloc (.cells #[.bool n.lf, .slice p1 n.I.length c1, .slice p2 n.K.length c2, .slice p3 n.D.length c3] 77)).alloc (.cells #[.int .i64 0, .bool false] 93)) := (bal (bal ⟨Below.refl _ _, Nat.le_refl _⟩ _) _).1
  refine ⟨_, rfl, blk_alloc (blk_new _ _), ?_, h.below hb, hb⟩
  have h := blk_new (w.alloc (.cells #[.bool n.lf, .slice p1 n.I.length c1, .slice p2 n.K.length c2, .slice p3 n.D.length c3] 77)) (.cells #[.int .i64 0, .bool false] 93)
  simpa using h
theorem found_below {w w1 : World} (h : Below w.heap.size w w1) (v0 v1 : Value) : Below w.heap.size w ((w1.setCell ⟨w.heap.size + 1, 0, none⟩ v0).setCell ⟨w.heap.size + 1, 1, none⟩ v1) :=
  (h.setCell (p := ⟨w.heap.size + 1, 0, none⟩) (Nat.le_succ _) v0).setCell (p := ⟨w.heap.size + 1, 1, none⟩) (Nat.le_succ _) v1
set_option maxRecDepth 100000 in
set_option maxHeartbeats 4000000 in
theorem ref_Find (n : Nd) (key : Int) (v1 v2 v3 : Value) (w : World) (h : NdAt w v1 v2 v3 n) :
    Calls Tryd.prog 54 #[.agg #[.bool n.lf, v1, v2, v3], .int .u32 key] w fun e w' => e = .returned (.agg #[.int .i64 (n.find key).1, .bool (n.find key).2]) ∧ Below w.heap.size w w' := by
  obtain ⟨p1, d1, p2, d2, p3, d3, rfl, rfl, rfl⟩ := h.form
  have hG := Lib.hid (fun W h => ref_Good n (.slice p1 n.I.length d1) (.slice p2 n.K.length d2) (.slice p3 n.D.length d3) W h)
  obtain ⟨w0, hw0, hb0, hr0, hn0, B0⟩ := rfind_w0 w n p1 p2 p3 d1 d2 d3 h
  have Hb0 := Lib.hid hb0
  have Hr0 := Lib.hid hr0
  have Hn0 := Lib.hid hn0
  have HB0 := Lib.hid B0
  have lI := h.lI
  have lK := h.lK
  clear h hr0 hn0 B0
  cases hg : n.good with
  | false =>
    have hs : n.find key = (0, false) := by unfold Nd.find; rw [if_pos hg]
    rw [hs]
    rw [hg] at hG
    clear hs hg
    go_enter Tryd.func54, Tryd.ntmps54
    go_upto_region 1 with (fail)
    try rw [hw0]
    clear hw0
    have hc := blk_cell hb0
    go_wp2_with fail
    refine (hG.out _ Hn0.out).mono ?_; rintro e w1 ⟨rfl, hb1⟩
    have B1 := Lib.hid (bstep HB0.out hb1)
    have hr1 := blk_below Hr0.out hb1
    have hc1 := blk_cell hr1
    have hf1 := blk_frozen hr1
    have br := set2_blk hr1 (.int .i64 0) (.bool false)
    have s0 := blk_cell br 0
    have s1 := blk_cell br 1
    simp only [List.getElem?_toArray, List.getElem?_cons_zero, List.getElem?_cons_succ] at s0 s1
    clear hc hb1 hb0
    go_wp2_with fail
    exact bodyPost_ret (v := .agg #[.int .i64 0, .bool false]) (by simp only [results, Tryd.results54]; simp [go_sem, s0, s1]) rfl ⟨rfl, found_below B1.out _ _⟩
  | true =>
    rw [hg] at hG
    have Hg := Lib.hid hg
    clear hg
    cases hlf : n.lf with
    | false =>
      have hs : Hid (n.find key = ((↑(n.K.findIdx fun x => decide (key < x)) : Int), true)) := by show _ = _; unfold Nd.find; rw [if_neg (by simp [Hg.out]), if_neg (by simp [hlf])]
      simp only [hlf] at hG hw0 hb0 Hb0
      go_enter Tryd.func54, Tryd.ntmps54
      go_upto_region 1 with (fail)
      try rw [hw0]
      clear hw0
      have hc := blk_cell hb0
      go_wp2_with fail
      refine (hG.out _ Hn0.out).mono ?_; rintro e w1 ⟨rfl, hb1⟩
      have B1 := Lib.hid (bstep HB0.out hb1)
      have hr1 := Lib.hid (blk_below Hr0.out hb1)
      have N1 := Lib.hid (Hn0.out.below hb1)
      have hc1 := blk_cell (blk_below Hb0.out hb1)
      clear hc hb1 hb0
      go_wp2_with fail
      go_loop [5] (fun iv => ∃ k : Nat, k ≤ n.K.length ∧ iv = .int .i64 k ∧ ∀ j (hj : j < n.K.length), j < k → decide (key < n.K[j]) = false) (fun iv => n.K.length - (intOf iv).toNat)
      case atStart => exact ⟨0, Nat.zero_le _, rfl, fun j _ h => absurd h (by omega)⟩
      case round =>
        obtain ⟨k, hk, rfl, hpre⟩ := hrel
        have HP := Lib.hid hpre
        clear hpre
        have fin : Hid (∀ (hx : n.find key = ((k : Int), true)) , ∃ s : World, s = (w1.setCell ⟨w.heap.size + 1, 0, none⟩ (.int .i64 k)).setCell ⟨w.heap.size + 1, 1, none⟩ (.bool true) ∧ s.cell? ⟨w.heap.size + 1, 0, none⟩ = some (.int .i64 k) ∧ s.cell? ⟨w.heap.size + 1, 1, none⟩ = some (.bool true)) := by
          intro _
          have br := set2_blk hr1.out (.int .i64 k) (.bool true)
          exact ⟨_, rfl, (blk_cell br) 0, (blk_cell br) 1⟩
        have hcr := blk_cell hr1.out
        have hfr := blk_frozen hr1.out
        by_cases hlt : k < n.K.length
        · have hi : (k : Int) < (n.K.length : Int) := by omega
          obtain ⟨b, off, rfl, hI⟩ := N1.out.K.at hlt
          have c0 := hI.at' k hlt
          clear hI
          obtain ⟨x, hx⟩ : ∃ x, x = n.K[k] := ⟨_, rfl⟩
          rw [← hx] at c0
          have Hx := Lib.hid hx
          clear hx
          by_cases hxk : x ≤ key
          · go_wp2_with fail
            go_round
            case rel =>
              refine ⟨k + 1, by omega, by go_num, fun j hj hjk => ?_⟩
              by_cases hjk' : j = k
              · subst hjk'; rw [← Hx.out]; simp; omega
              · exact HP.out j hj (by omega)
            case measure => simp [intOf]; omega
          · have he : Hid (n.find key = ((k : Int), true)) := by show _ = _; rw [hs.out, findIdx_hit hlt (by rw [← Hx.out]; simp; omega) HP.out]
            obtain ⟨s, hse, s0, s1⟩ := fin.out he.out
            have hbx := found_below B1.out (.int .i64 k) (.bool true)
            rw [← hse] at hbx
            have HBX := Lib.hid hbx
            have Hse := Lib.hid hse
            clear hbx hse
            go_wp2_with fail
            rw [← Hse.out]
            exact bodyPost_ret (v := .agg #[.int .i64 k, .bool true]) (by simp only [results, Tryd.results54]; simp [go_sem, s0, s1]) rfl ⟨by rw [he.out], HBX.out⟩
        · have hi : ¬ (k : Int) < (n.K.length : Int) := by omega
          have he : Hid (n.find key = ((k : Int), true)) := by
            show _ = _
            rw [hs.out, findIdx_none fun j hj => HP.out j hj (by omega)]
            have : n.K.length = k := by omega
            rw [this]
          obtain ⟨s, hse, s0, s1⟩ := fin.out he.out
          have hbx := found_below B1.out (.int .i64 k) (.bool true)
          rw [← hse] at hbx
          have HBX := Lib.hid hbx
          have Hse := Lib.hid hse
          clear hbx hse
          go_wp2_with fail
          rw [← Hse.out]
          exact bodyPost_ret (v := .agg #[.int .i64 k, .bool true]) (by simp only [results, Tryd.results54]; simp [go_sem, s0, s1]) rfl ⟨by rw [he.out], HBX.out⟩
    | true =>
      have hs : Hid (n.find key = ((↑(n.I.findIdx fun x : It => decide (key ≤ x.key)) : Int), ((n.I.map It.key)[n.I.findIdx fun x : It => decide (key ≤ x.key)]? == some key))) := by show _ = _; unfold Nd.find; rw [if_neg (by simp [Hg.out]), if_pos (by simp [hlf])]
      simp only [hlf] at hG hw0 hb0 Hb0
      go_enter Tryd.func54, Tryd.ntmps54
      go_upto_region 1 with (fail)
      try rw [hw0]
      clear hw0
      have hc := blk_cell hb0
      go_wp2_with fail
      refine (hG.out _ Hn0.out).mono ?_; rintro e w1 ⟨rfl, hb1⟩
      have B1 := Lib.hid (bstep HB0.out hb1)
      have hr1 := Lib.hid (blk_below Hr0.out hb1)
      have N1 := Lib.hid (Hn0.out.below hb1)
      have hc1 := blk_cell (blk_below Hb0.out hb1)
      clear hc hb1 hb0
      go_wp2_with fail
      go_loop [6] (fun iv => ∃ k : Nat, k ≤ n.I.length ∧ iv = .int .i64 k ∧ ∀ j (hj : j < n.I.length), j < k → (fun x : It => decide (key ≤ x.key)) n.I[j] = false) (fun iv => n.I.length - (intOf iv).toNat)
      case atStart => exact ⟨0, Nat.zero_le _, rfl, fun j _ h => absurd h (by omega)⟩
      case round =>
        obtain ⟨k, hk, rfl, hpre⟩ := hrel
        have HP := Lib.hid hpre
        clear hpre
        have fin : Hid (∀ v : Bool, ∃ s : World, s = (w1.setCell ⟨w.heap.size + 1, 0, none⟩ (.int .i64 k)).setCell ⟨w.heap.size + 1, 1, none⟩ (.bool v) ∧ s.cell? ⟨w.heap.size + 1, 0, none⟩ = some (.int .i64 k) ∧ s.cell? ⟨w.heap.size + 1, 1, none⟩ = some (.bool v)) := by
          intro v
          have br := set2_blk hr1.out (.int .i64 k) (.bool v)
          exact ⟨_, rfl, (blk_cell br) 0, (blk_cell br) 1⟩
        have hcr := blk_cell hr1.out
        have hfr := blk_frozen hr1.out
        by_cases hlt : k < n.I.length
        · have hi : (k : Int) < (n.I.length : Int) := by omega
          obtain ⟨b, off, rfl, hI⟩ := N1.out.I.at hlt
          have c0 := hI.key k hlt
          clear hI
          obtain ⟨x, hx⟩ : ∃ x, x = n.I[k].key := ⟨_, rfl⟩
          rw [← hx] at c0
          have Hx := Lib.hid hx
          clear hx
          by_cases hxk : x < key
          · go_wp2_with fail
            go_round
            case rel =>
              refine ⟨k + 1, by omega, by go_num, fun j hj hjk => ?_⟩
              by_cases hjk' : j = k
              · subst hjk'; rw [← Hx.out]; simp; omega
              · exact HP.out j hj (by omega)
            case measure => simp [intOf]; omega
          · have he : Hid (n.find key = ((k : Int), (x == key))) := by
              show _ = _
              have hh : (n.I.findIdx fun x : It => decide (key ≤ x.key)) = k := findIdx_hit (p := fun x : It => decide (key ≤ x.key)) hlt (by rw [← Hx.out]; simp; omega) HP.out
              rw [hs.out, hh, List.getElem?_map, List.getElem?_eq_getElem hlt, Hx.out]; rfl
            obtain ⟨s, hse, s0, s1⟩ := fin.out (x == key)
            have hbx := found_below B1.out (.int .i64 k) (.bool (x == key))
            rw [← hse] at hbx
            have HBX := Lib.hid hbx
            have Hse := Lib.hid hse
            clear hbx hse
            go_wp2_with fail
            rw [← Hse.out]
            exact bodyPost_ret (v := .agg #[.int .i64 k, .bool (x == key)]) (by simp only [results, Tryd.results54]; simp [go_sem, s0, s1]) rfl ⟨by rw [he.out], HBX.out⟩
        · have hi : ¬ (k : Int) < (n.I.length : Int) := by omega
          have he : Hid (n.find key = ((k : Int), false)) := by
            show _ = _
            have hh : (n.I.findIdx fun x : It => decide (key ≤ x.key)) = n.I.length := findIdx_none (p := fun x : It => decide (key ≤ x.key)) fun j hj => HP.out j hj (by omega)
            have hkl : n.I.length = k := by omega
            rw [hs.out, hh, List.getElem?_eq_none (by simp), hkl]; rfl
          obtain ⟨s, hse, s0, s1⟩ := fin.out false
          have hbx := found_below B1.out (.int .i64 k) (.bool false)
          rw [← hse] at hbx
          have HBX := Lib.hid hbx
          have Hse := Lib.hid hse
          clear hbx hse
          go_wp2_with fail
          rw [← Hse.out]
          exact bodyPost_ret (v := .agg #[.int .i64 k, .bool false]) (by simp only [results, Tryd.results54]; simp [go_sem, s0, s1]) rfl ⟨by rw [he.out], HBX.out⟩
end Go.Proofs.YtlpdanghcdajmaaDoor
