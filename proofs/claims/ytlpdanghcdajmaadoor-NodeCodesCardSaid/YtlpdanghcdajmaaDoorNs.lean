/- Nodes (layer 23): node.Size. -/
import Derived.Test.YtlpdanghcdajmaaDoorNr
namespace Go.Proofs.YtlpdanghcdajmaaDoor
open Go.RowKit
/-- A node's three slices lie in memory. -/
structure NdAt (w : World) (v1 v2 v3 : Value) (n : Nd) : Prop where
  I : SlItems w v1 n.I
  K : SlInts .u32 w v2 n.K
  D : SlInts .i64 w v3 n.D
  lI : n.I.length < 4294967296
  lK : n.K.length < 4294967296
  lD : n.D.length < 4294967296
theorem NdAt.below {w w' : World} {v1 v2 v3 : Value} {n : Nd} (h : NdAt w v1 v2 v3 n) (hb : Below w.heap.size w w') : NdAt w' v1 v2 v3 n := ⟨h.I.below hb, h.K.below hb, h.D.below hb, h.lI, h.lK, h.lD⟩
theorem NdAt.form {w : World} {v1 v2 v3 : Value} {n : Nd} (h : NdAt w v1 v2 v3 n) : ∃ p1 c1 p2 c2 p3 c3, v1 = .slice p1 n.I.length c1 ∧ v2 = .slice p2 n.K.length c2 ∧ v3 = .slice p3 n.D.length c3 := by
  obtain ⟨p1, c1, e1⟩ := h.I.form
  obtain ⟨p2, c2, e2⟩ := h.K.form
  obtain ⟨p3, c3, e3⟩ := h.D.form
  exact ⟨p1, c1, p2, c2, p3, c3, e1, e2, e3⟩
theorem SlItems.at {w : World} {p : Option Addr} {c k : Nat} {l : List It} (h : SlItems w (.slice p l.length c) l) (hk : k < l.length) : ∃ b off, p = some ⟨b, off, none⟩ ∧ ItemsAt w b off l := by
  rcases h with ⟨_, h2⟩ | ⟨b, off, cap, e, h⟩
  · subst h2; exact absurd hk (by simp)
  · injection e with e1 e2 e3
    exact ⟨b, off, e1, h⟩
theorem SlInts.at {kd : IntKind} {w : World} {p : Option Addr} {c k : Nat} {l : List Int} (h : SlInts kd w (.slice p l.length c) l) (hk : k < l.length) : ∃ b off, p = some ⟨b, off, none⟩ ∧ IntsAt kd w b off l := by
  rcases h with ⟨_, h2⟩ | ⟨b, off, cap, e, h⟩
  · subst h2; exact absurd hk (by simp)
  · injection e with e1 e2 e3
    exact ⟨b, off, e1, h⟩
theorem szIs_step {l : List It} {k : Nat} (h : k < l.length) : szIs (l.take (k + 1)) = szIs (l.take k) + szI l[k] := by
  rw [List.take_succ_eq_append_getElem h]; unfold szIs; rw [List.map_append, List.sum_append]; simp only [List.map_cons, List.map_nil, List.sum_cons, List.sum_nil, Int.add_zero]
theorem szI_bd {x : It} (h : goodI x = true) : 6 ≤ szI x ∧ szI x ≤ 46 := by
  unfold goodI at h
  unfold szI
  split
  · rename_i hz
    rw [if_pos hz] at h
    simp only [Bool.and_eq_true, decide_eq_true_eq] at h
    omega
  · omega
theorem szIs_bd : ∀ {l : List It}, (∀ x ∈ l, goodI x = true) → 0 ≤ szIs l ∧ szIs l ≤ 46 * l.length
  | [], _ => ⟨by simp [szIs], by simp [szIs]⟩
  | x :: l, h => by
    have ih := szIs_bd (l := l) fun y hy => h y (List.mem_cons_of_mem _ hy)
    have hx := szI_bd (h x (List.mem_cons_self ..))
    have e : szIs (x :: l) = szI x + szIs l := by simp [szIs]
    rw [e, List.length_cons]; omega
/-- A good node's items are good, and few. -/
theorem good_items {n : Nd} (h : n.good = true) : (∀ x ∈ n.I, goodI x = true) ∧ n.I.length ≤ 255 ∧ n.K.length ≤ 255 ∧ n.D.length ≤ 256 := by
  obtain ⟨lf, I, K, D⟩ := n
  cases lf with
  | true =>
    have h' : goodN true I K D = true := h
    obtain ⟨rfl, rfl, a, b, _⟩ := good_leaf h'
    exact ⟨b, a, by simp, by simp⟩
  | false =>
    have h' : goodN false I K D = true := h
    obtain ⟨rfl, a, b, c, _⟩ := good_inner h'
    exact ⟨fun x hx => absurd hx (by simp), by simp, by simp only; omega, by simp only; omega⟩
theorem node_Good' (n : Nd) (v1 v2 v3 : Value) (w : World) (h : NdAt w v1 v2 v3 n) :
    Calls Tryd.prog 48 #[.agg #[.bool n.lf, v1, v2, v3]] w fun e w' => e = .returned (.bool n.good) ∧ Below w.heap.size w w' :=
  node_Good n.lf v1 v2 v3 n.I n.K n.D h.lI h.lK h.lD w h.I h.K h.D
set_option maxRecDepth 20000 in
set_option maxHeartbeats 2000000 in
theorem node_Size (n : Nd) (v1 v2 v3 : Value) (w : World) (h : NdAt w v1 v2 v3 n) :
    Calls Tryd.prog 50 #[.agg #[.bool n.lf, v1, v2, v3]] w fun e w' => e = .returned (.int .i64 n.size) ∧ Below w.heap.size w w' := by
  obtain ⟨p1, c1, p2, c2, p3, c3, rfl, rfl, rfl⟩ := h.form
  have hG := Lib.hid (fun W h => node_Good' n (.slice p1 n.I.length c1) (.slice p2 n.K.length c2) (.slice p3 n.D.length c3) W h)
  obtain ⟨w0, hw0⟩ : ∃ w0, w0 = w.alloc (.cells #[.bool n.lf, .slice p1 n.I.length c1, .slice p2 n.K.length c2, .slice p3 n.D.length c3] 73) := ⟨_, rfl⟩
  have H0 : Hid (NdAt w0 (.slice p1 n.I.length c1) (.slice p2 n.K.length c2) (.slice p3 n.D.length c3) n) := by show NdAt _ _ _ _ _; rw [hw0]; exact h.below (below_a1 _ _)
  have B0 : Hid (Below w.heap.size w w0) := by show Below _ _ _; rw [hw0]; exact below_a1 _ _
  have bx : Hid (w0.heap[w.heap.size]? = some (.cells #[.bool n.lf, .slice p1 n.I.length c1, .slice p2 n.K.length c2, .slice p3 n.D.length c3] 73 (0, 0))) := by show _ = _; rw [hw0]; exact blk_new _ _
  clear h
  have hz0 := B0.out.size
  cases hg : n.good with
  | false =>
    have hs : n.size = 0 := by unfold Nd.size; rw [if_neg (by simp [hg])]
    rw [hs]
    rw [hg] at hG
    clear hs hg
    go_enter Tryd.func50, Tryd.ntmps50
    have hc := blk_cell bx.out
    go_wp2_with fail
    rw [← hw0]
    refine (hG.out _ H0.out).mono ?_; rintro e w1 ⟨rfl, hb1⟩
    go_wp2_with fail
    go_ret
    exact ⟨rfl, bstep B0.out hb1⟩
  | true =>
    have hs : n.size = 2 + szIs n.I + 4 * n.K.length + 2 * n.D.length := by unfold Nd.size; rw [if_pos hg]
    rw [hs]
    obtain ⟨g1, g2, g3, g4⟩ := good_items hg
    rw [hg] at hG
    have G1 := Lib.hid g1
    clear hs hg g1
    go_enter Tryd.func50, Tryd.ntmps50
    have hc := blk_cell bx.out
    go_wp2_with fail
    rw [← hw0]
    refine (hG.out _ H0.out).mono ?_; rintro e w1 ⟨rfl, hb1⟩
    have H1 := Lib.hid (H0.out.below hb1)
    have B1 := Lib.hid (bstep B0.out hb1)
    have hbx1 := blk_below bx.out hb1
    have bx1 := Lib.hid hbx1
    have hz1 := blk_lt hbx1
    have hc1 := blk_cell hbx1
    clear hbx1 hc hb1 hw0
    go_wp2_with fail
    go_loopw [3, 12] (fun z iv wr => ∃ k : Nat, k ≤ n.I.length ∧ iv = .int .i64 k ∧ z = .int .i64 (2 + szIs (n.I.take k)) ∧ Below w1.heap.size w1 wr) (fun _ iv _ => n.I.length - (intOf iv).toNat)
    case atStart => exact ⟨0, Nat.zero_le _, rfl, rfl, Below.refl _ _⟩
    case round =>
      obtain ⟨k, hk, rfl, rfl, hB⟩ := hrel
      have HB := Lib.hid hB
      have Hbx := Lib.hid (blk_below bx1.out hB)
      have hzr := hB.size
      clear hB hc1
      by_cases hlt : k < n.I.length
      · have hi : (k : Int) < (n.I.length : Int) := by omega
        obtain ⟨b, off, rfl, hI⟩ := (H1.out.below HB.out).I.at hlt
        have c0 := hI.key k hlt
        have c1 := hI.size k hlt
        have c2 := hI.text k hlt
        have c3 := hI.page k hlt
        have hst := szIs_step hlt
        have hgx := szI_bd (G1.out _ (List.getElem_mem hlt))
        have htk := szIs_bd (l := n.I.take k) (fun x hx => G1.out x (List.mem_of_mem_take hx))
        rw [List.length_take] at htk
        have hb1 : 0 ≤ szIs (n.I.take k) ∧ szIs (n.I.take k) ≤ 12000 := by omega
        have hsx : szI n.I[k] = 6 + (if n.I[k].size ≤ 40 then n.I[k].size else 2) := rfl
        obtain ⟨x, hx⟩ : ∃ x, x = n.I[k] := ⟨_, rfl⟩
        rw [← hx] at c0 c1 c2 c3 hst hgx hsx
        have Hst := Lib.hid hst
        clear hx hI htk hst
        obtain ⟨S, hS⟩ : ∃ S, S = szIs (n.I.take k) := ⟨_, rfl⟩
        rw [← hS] at hb1 ⊢
        have HS := Lib.hid hS
        clear hS
        obtain ⟨xk, xs, xt, xp⟩ := x
        simp only at c0 c1 c2 c3 hsx
        by_cases hz : xs ≤ 40
        · rw [if_pos hz] at hsx
          have hw1 : IntKind.i64.wrap (2 + S + 6) = 2 + S + 6 := IntWalk.i64_in _ (by omega)
          have hw2 : IntKind.i64.wrap (2 + S + 6 + xs) = 2 + S + 6 + xs := IntWalk.i64_in _ (by omega)
          go_wp2_with fail
          go_roundw
          case rel =>
            refine ⟨k + 1, by omega, by go_num, ?_, ?_⟩
            · rw [Hst.out, hsx, ← HS.out]; go_num
            · exact HB.out.alloc hzr _
          case measure => simp [intOf]; omega
        · rw [if_neg hz] at hsx
          have hw1 : IntKind.i64.wrap (2 + S + 6) = 2 + S + 6 := IntWalk.i64_in _ (by omega)
          have hw2 : IntKind.i64.wrap (2 + S + 6 + 2) = 2 + S + 6 + 2 := IntWalk.i64_in _ (by omega)
          go_wp2_with fail
          go_roundw
          case rel =>
            refine ⟨k + 1, by omega, by go_num, ?_, ?_⟩
            · rw [Hst.out, hsx, ← HS.out]; go_num
            · exact HB.out.alloc hzr _
          case measure => simp [intOf]; omega
      · have hi : ¬ (k : Int) < (n.I.length : Int) := by omega
        have hc2 := blk_cell Hbx.out
        obtain rfl : k = n.I.length := by omega
        rw [List.take_length]
        have hb2 := szIs_bd G1.out
        go_wp2_with fail
        go_ret
        exact ⟨by simp, bstep B1.out HB.out⟩
end Go.Proofs.YtlpdanghcdajmaaDoor
