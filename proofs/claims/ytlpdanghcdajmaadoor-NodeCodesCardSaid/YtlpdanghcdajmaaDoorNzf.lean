/- Layer 23: wakes. -/
import Derived.Test.YtlpdanghcdajmaaDoorNze
namespace Go.Proofs.YtlpdanghcdajmaaDoor
open Go.RowKit
def wakeN : Nd := ⟨true, [⟨7, 1, ⟨#[97]⟩, 0⟩], [], []⟩
theorem wake_enc : wakeN.enc = (⟨#[1, 1, 0, 0, 0, 7, 0, 1, 97]⟩, 0) := by kernel_rfl
theorem wake_dec : decN ⟨#[2, 1, 0, 5, 0, 0, 0, 9, 0, 6]⟩ = (⟨false, [], [9], [5, 6]⟩, 0) := by kernel_rfl
theorem wake_find : Nd.find ⟨false, [], [9], [5, 6]⟩ 9 = (1, true) := by kernel_rfl
theorem wake_typed : wakeN.typed := ⟨fun x hx => by simp [wakeN] at hx; subst hx; decide, fun x hx => absurd hx (by simp [wakeN])⟩
set_option maxRecDepth 100000 in
set_option maxHeartbeats 4000000 in
theorem wakes23 (w : World) (he : EtIs w) : Calls Tryd.prog 42 #[] w fun e w' => e = .returned (.bool true) ∧ Below w.heap.size w w' := by
  have E1 := Lib.hid (node_Encode wakeN)
  rw [wake_enc] at E1
  have D1 := Lib.hid (node_Decode ⟨#[2, 1, 0, 5, 0, 0, 0, 9, 0, 6]⟩ (by decide))
  rw [wake_dec] at D1
  have F1 := Lib.hid (node_Find ⟨false, [], [9], [5, 6]⟩ 9)
  rw [wake_find] at F1
  simp only [wakeN] at E1
  go_enter Tryd.func42, Tryd.ntmps42
  go_wp2_with fail
  obtain ⟨w0, hw0⟩ : ∃ w0, w0 = w.alloc (.cells #[.int .u32 7, .int .i64 1, .string ⟨#[97]⟩, .int .i64 0] 97) := ⟨_, rfl⟩
  rw [← hw0]
  have hx : w0.heap[w.heap.size]? = some (.cells #[.int .u32 7, .int .i64 1, .string ⟨#[97]⟩, .int .i64 0] 97 (0, 0)) := by rw [hw0]; exact blk_new _ _
  have hc := blk_cell hx
  have n0 : NdAt w0 (.slice (some ⟨w.heap.size, 0, none⟩) 1 1) (.slice none 0 0) (.slice none 0 0) wakeN := by
    refine ⟨.inr ⟨w.heap.size, 0, 1, rfl, ⟨fun _ => blk_lt hx, ?_, ?_, ?_, ?_⟩⟩, .inl ⟨rfl, rfl⟩, .inl ⟨rfl, rfl⟩, by decide, by decide, by decide⟩
    all_goals
      intro i hi
      have h0 : i = 0 := by simp [wakeN] at hi; exact hi
      subst h0
      simp [hc, wakeN]
  have B0 := Lib.hid (show Below w.heap.size w w0 by rw [hw0]; exact below_a1 _ _)
  have he0 : EtIs w0 := by rw [hw0]; exact he.alloc _
  clear hw0 hc hx he
  refine (E1.out _ _ _ _ n0 wake_typed he0).mono ?_; rintro e w1 ⟨rfl, hb1⟩
  have B1 := Lib.hid (bstep B0.out hb1)
  have he1 := he0.below hb1
  clear n0 he0 hb1
  go_wp2_with fail
  refine (D1.out _ he1).mono ?_; rintro e w2 ⟨v1, v2, v3, rfl, hn2, hb2⟩
  have B2 := Lib.hid (bstep B1.out hb2)
  obtain ⟨p1, c1, p2, c2, p3, c3, rfl, rfl, rfl⟩ := hn2.form
  simp only [List.length_cons, List.length_nil, Nat.zero_add, Nat.reduceAdd] at hn2 ⊢
  obtain ⟨w3, hw3⟩ : ∃ w3, w3 = w2.alloc (.cells #[.bool false, .slice p1 0 c1, .slice p2 1 c2, .slice p3 2 c3] 73) := ⟨_, rfl⟩
  have hq3 : w3.heap[w2.heap.size]? = some (.cells #[.bool false, .slice p1 0 c1, .slice p2 1 c2, .slice p3 2 c3] 73 (0, 0)) := by rw [hw3]; exact blk_new _ _
  have B3 := Lib.hid (show Below w.heap.size w w3 by rw [hw3]; exact B2.out.alloc (B2.out.size) _)
  have hn3 : NdAt w3 (.slice p1 0 c1) (.slice p2 1 c2) (.slice p3 2 c3) ⟨false, [], [9], [5, 6]⟩ := by rw [hw3]; exact hn2.below (below_a1 _ _)
  have hc3 := blk_cell hq3
  clear he1 hb2 hn2
  go_wp2_with fail
  rw [← hw3]
  clear hw3
  go_wp2_with fail
  refine (F1.out _ _ _ _ hn3).mono ?_; rintro e w4 ⟨rfl, hb4⟩
  have B4 := Lib.hid (bstep B3.out hb4)
  have hc4 := blk_cell (blk_below hq3 hb4)
  have hn4 := hn3.below hb4
  obtain ⟨b2, o2, rfl, hk⟩ := SlInts.at (l := [9]) (p := p2) (c := c2) (k := 0) hn4.K (by decide)
  obtain ⟨b3, o3, rfl, hd⟩ := SlInts.at (l := [5, 6]) (p := p3) (c := c3) (k := 0) hn4.D (by decide)
  have k0 := hk.at' 0 (by decide)
  have d1 := hd.at' 1 (by decide)
  simp only [List.getElem_cons_zero, List.getElem_cons_succ, Nat.add_zero] at k0 d1
  clear hb4 hn3 hn4 hk hd hc3 hq3
  go_wp2_with fail
  go_ret
  exact ⟨rfl, B4.out⟩
end Go.Proofs.YtlpdanghcdajmaaDoor
