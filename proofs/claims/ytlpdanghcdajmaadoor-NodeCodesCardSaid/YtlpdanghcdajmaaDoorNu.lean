/- Nodes (layer 23): node.Find. -/
import Derived.Test.YtlpdanghcdajmaaDoorNs
namespace Go.Proofs.YtlpdanghcdajmaaDoor
open Go.RowKit
theorem find_1 (key : Int) (q : Nat) (x : Int) (w : World) (hq : w.cell? ⟨q, 0, none⟩ = some (.int .u32 key)) : Calls Tryd.prog 93 #[.int .u32 x, .pointer (some ⟨q, 0, none⟩)] w fun e w' => e = .returned (.bool (decide (key < x))) ∧ w = w' := by
  go_enter Tryd.func93, Tryd.ntmps93
  go_wp2_with fail
  go_ret
  exact ⟨rfl, rfl⟩
theorem find_2 (key : Int) (q : Nat) (x : It) (w : World) (hq : w.cell? ⟨q, 0, none⟩ = some (.int .u32 key)) : Calls Tryd.prog 95 #[.agg x.cells, .pointer (some ⟨q, 0, none⟩)] w fun e w' => e = .returned (.bool (decide (key ≤ x.key))) ∧ Below w.heap.size w w' := by
  obtain ⟨k, z, t, p⟩ := x
  simp only [It.cells]
  have hql := World.block_lt_of_cell? w _ hq
  have hq1 : (w.alloc (.cells #[.int .u32 k, .int .i64 z, .string t, .int .i64 p] 97)).cell? ⟨q, 0, none⟩ = some (.int .u32 key) := by rw [World.cell?_alloc_lt _ _ ⟨q, 0, none⟩ hql]; exact hq
  go_enter Tryd.func95, Tryd.ntmps95
  go_wp2_with fail
  go_ret
  exact ⟨rfl, below_a1 _ _⟩

set_option maxRecDepth 20000 in
set_option maxHeartbeats 1000000 in
theorem idx_find1 (key : Int) (q : Nat) (b off cap : Nat) (l : List Int) (hl : l.length < 4294967296) (w : World) (hq : w.cell? ⟨q, 0, none⟩ = some (.int .u32 key)) (hI : IntsAt .u32 w b off l) :
    Calls Tryd.prog 92 #[.slice (some ⟨b, off, none⟩) l.length cap, .func (.func 93) #[] #[.pointer (some ⟨q, 0, none⟩)]] w fun e w' => e = .returned (.int .i64 (firstI (fun x => decide (key < x)) l)) ∧ Below w.heap.size w w' := by
  have HI := Lib.hid hI
  have hql := World.block_lt_of_cell? w _ hq
  clear hI
  go_enter Tryd.func92, Tryd.ntmps92
  go_wp2_with fail
  go_loopw [8] (fun iv wr => ∃ k : Nat, k ≤ l.length ∧ iv = .int .i64 k ∧ (∀ j (h : j < l.length), j < k → (fun x => decide (key < x)) l[j] = false) ∧ Below w.heap.size w wr) (fun iv _ => l.length - (intOf iv).toNat)
  case atStart => exact ⟨0, Nat.zero_le _, rfl, fun j _ h => absurd h (by omega), Below.refl _ _⟩
  case round =>
    obtain ⟨k, hk, rfl, hpre, hB⟩ := hrel
    have HP := Lib.hid hpre
    have HB := Lib.hid hB
    clear hpre hB
    by_cases hlt : k < l.length
    · have hi : (k : Int) < (l.length : Int) := by omega
      have hI2 := HI.out.below HB.out
      have c0 := hI2.at' k hlt
      have hqr := (HB.out.cell (p := ⟨q, 0, none⟩) hql).trans hq
      clear hI2
      obtain ⟨x, hx⟩ : ∃ x, x = l[k] := ⟨_, rfl⟩
      rw [← hx] at c0
      have Hx := Lib.hid hx
      clear hx
      have HC := Lib.hid (find_1 key q x)
      cases hpx : (fun x => decide (key < x)) x with
      | true =>
        have Hpx := Lib.hid hpx
        clear hpx
        go_wp2_with fail
        refine (HC.out _ hqr).mono ?_; rintro e w1 ⟨rfl, hb1⟩
        rw [Hpx.out]
        go_wp2_with fail
        go_ret
        exact ⟨by rw [firstI_hit hlt (by rw [← Hx.out]; exact Hpx.out) HP.out]; rfl, bstep HB.out (by subst hb1; exact Below.refl _ _)⟩
      | false =>
        have Hpx := Lib.hid hpx
        clear hpx
        go_wp2_with fail
        refine (HC.out _ hqr).mono ?_; rintro e w1 ⟨rfl, hb1⟩
        rw [Hpx.out]
        go_wp2_with fail
        go_roundw
        case rel =>
          refine ⟨k + 1, by omega, by go_num, fun j h hj => ?_, bstep HB.out (by subst hb1; exact Below.refl _ _)⟩
          by_cases hjk : j = k
          · subst hjk; rw [← Hx.out]; exact Hpx.out
          · exact HP.out j h (by omega)
        case measure => simp [intOf]; omega
    · have hi : ¬ (k : Int) < (l.length : Int) := by omega
      go_wp2_with fail
      go_ret
      exact ⟨by rw [firstI_none (fun j h => HP.out j h (by omega))]; rfl, HB.out⟩

set_option maxRecDepth 20000 in
set_option maxHeartbeats 1000000 in
theorem idx_find2 (key : Int) (q : Nat) (b off cap : Nat) (l : List It) (hl : l.length < 4294967296) (w : World) (hq : w.cell? ⟨q, 0, none⟩ = some (.int .u32 key)) (hI : ItemsAt w b off l) :
    Calls Tryd.prog 94 #[.slice (some ⟨b, off, none⟩) l.length cap, .func (.func 95) #[] #[.pointer (some ⟨q, 0, none⟩)]] w fun e w' => e = .returned (.int .i64 (firstI (fun x : It => decide (key ≤ x.key)) l)) ∧ Below w.heap.size w w' := by
  have HI := Lib.hid hI
  have hql := World.block_lt_of_cell? w _ hq
  clear hI
  go_enter Tryd.func94, Tryd.ntmps94
  go_wp2_with fail
  go_loopw [8] (fun iv wr => ∃ k : Nat, k ≤ l.length ∧ iv = .int .i64 k ∧ (∀ j (h : j < l.length), j < k → (fun x : It => decide (key ≤ x.key)) l[j] = false) ∧ Below w.heap.size w wr) (fun iv _ => l.length - (intOf iv).toNat)
  case atStart => exact ⟨0, Nat.zero_le _, rfl, fun j _ h => absurd h (by omega), Below.refl _ _⟩
  case round =>
    obtain ⟨k, hk, rfl, hpre, hB⟩ := hrel
    have HP := Lib.hid hpre
    have HB := Lib.hid hB
    clear hpre hB
    by_cases hlt : k < l.length
    · have hi : (k : Int) < (l.length : Int) := by omega
      have hI2 := HI.out.below HB.out
      have c0 := hI2.key k hlt
      have c1 := hI2.size k hlt
      have c2 := hI2.text k hlt
      have c3 := hI2.page k hlt
      have hqr := (HB.out.cell (p := ⟨q, 0, none⟩) hql).trans hq
      clear hI2
      obtain ⟨x, hx⟩ : ∃ x, x = l[k] := ⟨_, rfl⟩
      rw [← hx] at c0 c1 c2 c3
      have Hx := Lib.hid hx
      clear hx
      have HC := Lib.hid (find_2 key q x)
      obtain ⟨xk, xs, xt, xp⟩ := x
      simp only at c0 c1 c2 c3
      cases hpx : (fun x : It => decide (key ≤ x.key)) ⟨xk, xs, xt, xp⟩ with
      | true =>
        have Hpx := Lib.hid hpx
        clear hpx
        go_wp2_with fail
        refine (HC.out _ hqr).mono ?_; rintro e w1 ⟨rfl, hb1⟩
        rw [Hpx.out]
        go_wp2_with fail
        go_ret
        exact ⟨by rw [firstI_hit hlt (by rw [← Hx.out]; exact Hpx.out) HP.out]; rfl, bstep HB.out (hb1)⟩
      | false =>
        have Hpx := Lib.hid hpx
        clear hpx
        go_wp2_with fail
        refine (HC.out _ hqr).mono ?_; rintro e w1 ⟨rfl, hb1⟩
        rw [Hpx.out]
        go_wp2_with fail
        go_roundw
        case rel =>
          refine ⟨k + 1, by omega, by go_num, fun j h hj => ?_, bstep HB.out (hb1)⟩
          by_cases hjk : j = k
          · subst hjk; rw [← Hx.out]; exact Hpx.out
          · exact HP.out j h (by omega)
        case measure => simp [intOf]; omega
    · have hi : ¬ (k : Int) < (l.length : Int) := by omega
      go_wp2_with fail
      go_ret
      exact ⟨by rw [firstI_none (fun j h => HP.out j h (by omega))]; rfl, HB.out⟩

theorem idx_find1_nil (q : Nat) (w : World) : Calls Tryd.prog 92 #[.slice none 0 0, .func (.func 93) #[] #[.pointer (some ⟨q, 0, none⟩)]] w fun e w' => e = .returned (.int .i64 (-1)) ∧ Below w.heap.size w w' := by
  go_enter Tryd.func92, Tryd.ntmps92
  go_wp2_with fail
  refine wp_loop_rounds 1 ?_
  rw [rounds_succ]
  go_wp2_with fail
  go_ret
  exact ⟨rfl, Below.refl _ _⟩
theorem idx_find2_nil (q : Nat) (w : World) : Calls Tryd.prog 94 #[.slice none 0 0, .func (.func 95) #[] #[.pointer (some ⟨q, 0, none⟩)]] w fun e w' => e = .returned (.int .i64 (-1)) ∧ Below w.heap.size w w' := by
  go_enter Tryd.func94, Tryd.ntmps94
  go_wp2_with fail
  refine wp_loop_rounds 1 ?_
  rw [rounds_succ]
  go_wp2_with fail
  go_ret
  exact ⟨rfl, Below.refl _ _⟩
theorem idx_find1_all (key : Int) (q : Nat) (v : Value) (l : List Int) (hl : l.length < 4294967296) (w : World) (hq : w.cell? ⟨q, 0, none⟩ = some (.int .u32 key)) (hI : SlInts .u32 w v l) :
    Calls Tryd.prog 92 #[v, .func (.func 93) #[] #[.pointer (some ⟨q, 0, none⟩)]] w fun e w' => e = .returned (.int .i64 (firstI (fun x => decide (key < x)) l)) ∧ Below w.heap.size w w' := by
  rcases hI with ⟨rfl, rfl⟩ | ⟨b, off, cap, rfl, h⟩
  · exact idx_find1_nil q w
  · exact idx_find1 key q b off cap l hl w hq h
theorem idx_find2_all (key : Int) (q : Nat) (v : Value) (l : List It) (hl : l.length < 4294967296) (w : World) (hq : w.cell? ⟨q, 0, none⟩ = some (.int .u32 key)) (hI : SlItems w v l) :
    Calls Tryd.prog 94 #[v, .func (.func 95) #[] #[.pointer (some ⟨q, 0, none⟩)]] w fun e w' => e = .returned (.int .i64 (firstI (fun x : It => decide (key ≤ x.key)) l)) ∧ Below w.heap.size w w' := by
  rcases hI with ⟨rfl, rfl⟩ | ⟨b, off, cap, rfl, h⟩
  · exact idx_find2_nil q w
  · exact idx_find2 key q b off cap l hl w hq h
/-- Where a key stands in a node, or which kid it goes to. -/
def Nd.find (n : Nd) (key : Int) : Int × Bool :=
  if n.good = false then (0, false)
  else if n.lf then ((n.I.findIdx fun x => decide (key ≤ x.key) : Nat), ((n.I.map It.key)[n.I.findIdx fun x => decide (key ≤ x.key)]? == some key))
  else ((n.K.findIdx fun x => decide (key < x) : Nat), true)
theorem findIdx_le {α : Type} (p : α → Bool) (l : List α) : l.findIdx p ≤ l.length := List.findIdx_le_length
set_option maxRecDepth 20000 in
set_option maxHeartbeats 2000000 in
theorem node_Find (n : Nd) (key : Int) (v1 v2 v3 : Value) (w : World) (h : NdAt w v1 v2 v3 n) :
    Calls Tryd.prog 53 #[.agg #[.bool n.lf, v1, v2, v3], .int .u32 key] w fun e w' => e = .returned (.tuple #[.int .i64 (n.find key).1, .bool (n.find key).2]) ∧ Below w.heap.size w w' := by
  obtain ⟨p1, c1, p2, c2, p3, c3, rfl, rfl, rfl⟩ := h.form
  have hG := Lib.hid (fun W h => node_Good' n (.slice p1 n.I.length c1) (.slice p2 n.K.length c2) (.slice p3 n.D.length c3) W h)
  obtain ⟨w0, hw0⟩ : ∃ w0, w0 = (w.alloc (.cells #[.bool n.lf, .slice p1 n.I.length c1, .slice p2 n.K.length c2, .slice p3 n.D.length c3] 73)).alloc (.cells #[.int .u32 key] 22) := ⟨_, rfl⟩
  have B0 : Hid (Below w.heap.size w w0) := by show Below _ _ _; rw [hw0]; exact (below_a1 _ _).alloc (by simp) _
  have H0 : Hid (NdAt w0 (.slice p1 n.I.length c1) (.slice p2 n.K.length c2) (.slice p3 n.D.length c3) n) := by show NdAt _ _ _ _ _; exact h.below B0.out
  have bx : Hid (w0.heap[w.heap.size]? = some (.cells #[.bool n.lf, .slice p1 n.I.length c1, .slice p2 n.K.length c2, .slice p3 n.D.length c3] 73 (0, 0))) := by show _ = _; rw [hw0]; exact blk_alloc (blk_new _ _)
  have bk : Hid (w0.heap[w.heap.size + 1]? = some (.cells #[.int .u32 key] 22 (0, 0))) := by
    show _ = _
    rw [hw0]
    have := blk_new (w.alloc (.cells #[.bool n.lf, .slice p1 n.I.length c1, .slice p2 n.K.length c2, .slice p3 n.D.length c3] 73)) (.cells #[.int .u32 key] 22)
    simpa using this
  clear h
  cases hg : n.good with
  | false =>
    have hs : n.find key = (0, false) := by unfold Nd.find; rw [if_pos hg]
    rw [hs]
    rw [hg] at hG
    clear hs hg
    go_enter Tryd.func53, Tryd.ntmps53
    have hc := blk_cell bx.out
    go_wp2_with fail
    rw [← hw0]
    go_wp2_with fail
    refine (hG.out _ H0.out).mono ?_; rintro e w1 ⟨rfl, hb1⟩
    go_wp2_with fail
    go_ret2
    exact ⟨rfl, bstep B0.out hb1⟩
  | true =>
    cases hlf : n.lf with
    | false =>
      obtain ⟨m, hm⟩ : ∃ m, m = n.K.findIdx fun x => decide (key < x) := ⟨_, rfl⟩
      have hs : n.find key = ((m : Int), true) := by unfold Nd.find; rw [if_neg (by simp [hg]), if_neg (by simp [hlf]), ← hm]
      rw [hs]
      rw [hg] at hG
      simp only [hlf] at hG hw0 bx
      have hml : m ≤ n.K.length := by rw [hm]; exact findIdx_le _ _
      have hf : firstI (fun x => decide (key < x)) n.K = if m < n.K.length then (m : Int) else -1 := by unfold firstI; rw [← hm]
      have C := Lib.hid (fun W hq h => idx_find1_all key (w.heap.size + 1) (.slice p2 n.K.length c2) n.K H0.out.lK W hq h)
      rw [hf] at C
      clear hs hm hf
      by_cases hlt : m < n.K.length
      · rw [if_pos hlt] at C
        have hlt' : ¬ (m : Int) < 0 := by omega
        go_enter Tryd.func53, Tryd.ntmps53
        have hc := blk_cell bx.out
        go_wp2_with fail
        rw [← hw0]
        go_wp2_with fail
        refine (hG.out _ H0.out).mono ?_; rintro e w1 ⟨rfl, hb1⟩
        have hc1 := blk_cell (blk_below bx.out hb1)
        clear hc
        go_wp2_with fail
        refine (C.out _ (blk_cell (blk_below bk.out hb1) 0) (H0.out.below hb1).K).mono ?_; rintro e w2 ⟨rfl, hb2⟩
        go_wp2_with fail
        go_ret2
        exact ⟨rfl, bstep B0.out (bstep hb1 hb2)⟩
      · rw [if_neg hlt] at C
        obtain rfl : m = n.K.length := by omega
        go_enter Tryd.func53, Tryd.ntmps53
        have hc := blk_cell bx.out
        go_wp2_with fail
        rw [← hw0]
        go_wp2_with fail
        refine (hG.out _ H0.out).mono ?_; rintro e w1 ⟨rfl, hb1⟩
        have hc1 := blk_cell (blk_below bx.out hb1)
        clear hc
        go_wp2_with fail
        refine (C.out _ (blk_cell (blk_below bk.out hb1) 0) (H0.out.below hb1).K).mono ?_; rintro e w2 ⟨rfl, hb2⟩
        have hc2 := blk_cell (blk_below (blk_below bx.out hb1) hb2)
        clear hc1
        go_wp2_with fail
        go_ret2
        exact ⟨rfl, bstep B0.out (bstep hb1 hb2)⟩
    | true =>
      obtain ⟨m, hm⟩ : ∃ m, m = n.I.findIdx fun x : It => decide (key ≤ x.key) := ⟨_, rfl⟩
      have hs : n.find key = ((m : Int), ((n.I.map It.key)[m]? == some key)) := by unfold Nd.find; rw [if_neg (by simp [hg]), if_pos (by simp [hlf]), ← hm]
      rw [hs]
      rw [hg] at hG
      simp only [hlf] at hG hw0 bx
      have hml : m ≤ n.I.length := by rw [hm]; exact findIdx_le _ _
      have hf : firstI (fun x : It => decide (key ≤ x.key)) n.I = if m < n.I.length then (m : Int) else -1 := by unfold firstI; rw [← hm]
      have C := Lib.hid (fun W hq h => idx_find2_all key (w.heap.size + 1) (.slice p1 n.I.length c1) n.I H0.out.lI W hq h)
      rw [hf] at C
      clear hs hm hf
      by_cases hlt : m < n.I.length
      · rw [if_pos hlt] at C
        have hkk : ((n.I.map It.key)[m]? == some key) = (n.I[m].key == key) := by
          rw [List.getElem?_map, List.getElem?_eq_getElem hlt]; rfl
        rw [hkk]
        clear hkk
        have hlt' : ¬ (m : Int) < 0 := by omega
        have hlt2 : (m : Int) < (n.I.length : Int) := by omega
        obtain ⟨b, off, rfl, _⟩ := H0.out.I.at hlt
        go_enter Tryd.func53, Tryd.ntmps53
        have hc := blk_cell bx.out
        go_wp2_with fail
        rw [← hw0]
        go_wp2_with fail
        refine (hG.out _ H0.out).mono ?_; rintro e w1 ⟨rfl, hb1⟩
        have hc1 := blk_cell (blk_below bx.out hb1)
        clear hc
        go_wp2_with fail
        refine (C.out _ (blk_cell (blk_below bk.out hb1) 0) (H0.out.below hb1).I).mono ?_; rintro e w2 ⟨rfl, hb2⟩
        have hc2 := blk_cell (blk_below (blk_below bx.out hb1) hb2)
        have hk2 := (blk_cell (blk_below (blk_below bk.out hb1) hb2)) 0
        obtain ⟨b', off', hbe, hI⟩ := ((H0.out.below hb1).below hb2).I.at hlt
        obtain ⟨rfl, rfl⟩ : b = b' ∧ off = off' := by injection hbe with hbe; injection hbe with h1 h2; exact ⟨h1, h2⟩
        have c0 := hI.key m hlt
        have HB := Lib.hid (bstep B0.out (bstep hb1 hb2))
        clear hc1 hbe hI hb1 hb2
        go_wp2_with fail
        go_quiet (fail)
        go_wp2_with fail
        go_ret2
        exact ⟨rfl, ⟨HB.out.os, HB.out.tape, HB.out.output, HB.out.size, HB.out.block⟩⟩
      · rw [if_neg hlt] at C
        obtain rfl : m = n.I.length := by omega
        have hkk : ((n.I.map It.key)[n.I.length]? == some key) = false := by rw [List.getElem?_eq_none (by simp)]; rfl
        rw [hkk]
        clear hkk
        go_enter Tryd.func53, Tryd.ntmps53
        have hc := blk_cell bx.out
        go_wp2_with fail
        rw [← hw0]
        go_wp2_with fail
        refine (hG.out _ H0.out).mono ?_; rintro e w1 ⟨rfl, hb1⟩
        have hc1 := blk_cell (blk_below bx.out hb1)
        clear hc
        go_wp2_with fail
        refine (C.out _ (blk_cell (blk_below bk.out hb1) 0) (H0.out.below hb1).I).mono ?_; rintro e w2 ⟨rfl, hb2⟩
        have hc2 := blk_cell (blk_below (blk_below bx.out hb1) hb2)
        clear hc1
        go_wp2_with fail
        go_ret2
        exact ⟨rfl, bstep B0.out (bstep hb1 hb2)⟩
end Go.Proofs.YtlpdanghcdajmaaDoor

