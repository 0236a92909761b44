/- Nodes (layer 23): the reader's texts and items. -/
import Derived.Test.YtlpdanghcdajmaaDoorNx
import Derived.BigQuiet
namespace Go.Proofs.YtlpdanghcdajmaaDoor
open Go.RowKit
theorem rdR_bd {b : ByteArray} {a n : Int} {bad : Bool} (hn : n = 1 ∨ n = 2 ∨ n = 4) (h0 : 0 ≤ a) (h1 : a ≤ b.size) : 0 ≤ (rdR b a bad n).2.1 ∧ (rdR b a bad n).2.1 ≤ b.size ∧ 0 ≤ (rdR b a bad n).1 ∧ (rdR b a bad n).1 < 256 ^ n.toNat := by
  cases hb : (rdR b a bad n).2.2 with
  | false =>
    obtain ⟨_, _, e, h2, h3, h4, _⟩ := rdR_ok hn hb
    rw [e]; exact ⟨by omega, h2, h3, h4⟩
  | true =>
    have e : (rdR b a bad n) = (0, a, true) := by
      unfold rdR at hb ⊢
      simp only at hb ⊢
      split at hb
      · rename_i hc; rw [if_pos hc]
      · exact absurd hb (by simp)
    rw [e]
    exact ⟨h0, h1, by simp, Int.pow_pos (by decide)⟩
set_option maxHeartbeats 1000000 in
theorem rn_text (p : Nat) (b : ByteArray) (a : Int) (bad : Bool) (n : Int) (hb : b.size ≤ 140737488351232) (ha0 : 0 ≤ a) (ha1 : a ≤ b.size) (hn0 : 0 ≤ n) (hn1 : n ≤ 40) (w : World) (he : EtIs w) (hp : IsRn w p b a bad) (hpe : p ≠ 1) :
    Calls Tryd.prog 105 #[.pointer (some ⟨p, 0, none⟩), .int .i64 n] w fun e w' => e = .returned (.string (rdT b a bad n).1) ∧ IsRn w' p b (rdT b a bad n).2.1 (rdT b a bad n).2.2 ∧ Fr (· = p) w w' ∧ EtIs w' := by
  obtain ⟨ev, hp, hev⟩ := hp
  have Hp := Lib.hid hp
  have hpl := blk_lt hp
  have q0 : w.cell? ⟨p, 0, none⟩ = some (.string b) := (blk_cell hp) 0
  have q1 : w.cell? ⟨p, 1, none⟩ = some (.int .i64 a) := (blk_cell hp) 1
  have qf := blk_frozen hp
  rcases hev with ⟨rfl, rfl⟩ | ⟨rfl, q, rfl⟩
  rotate_left
  · have e : rdT b a true n = (⟨#[]⟩, a, true) := by unfold rdT; simp
    rw [e]
    have q2 : w.cell? ⟨p, 2, none⟩ = some (.iface 137 (.pointer (some ⟨q, 0, none⟩))) := (blk_cell hp) 2
    clear e hp
    go_enter Tryd.func105, Tryd.ntmps105
    go_wp2_with fail
    go_quiet (fail)
    go_wp2_with fail
    go_ret
    exact ⟨rfl, ⟨_, Hp.out, .inr ⟨rfl, q, rfl⟩⟩, (Fr.refl _ _).drewN _, he⟩
  have q2 : w.cell? ⟨p, 2, none⟩ = some .nilIface := (blk_cell hp) 2
  clear hp
  have m0 : IntKind.i64.wrap ((b.size : Int) - a) = (b.size : Int) - a := IntWalk.i64_in _ (by omega)
  by_cases hc : (b.size : Int) - a < n
  · have e : rdT b a false n = (⟨#[]⟩, a, true) := by unfold rdT; simp [hc]
    rw [e]
    clear e
    go_enter Tryd.func105, Tryd.ntmps105
    go_wp2_with fail
    go_quiet (fail)
    obtain ⟨w1, hw1⟩ : ∃ w1, w1 = w.drewN nq := ⟨_, rfl⟩
    rw [← hw1]
    have Hq : Hid (RnE w1 p b a .nilIface) := by show RnE _ _ _ _ _; rw [hw1]; exact Hp.out
    have hf1 : Fr (· = p) w w1 := by rw [hw1]; exact (Fr.refl _ _).drewN _
    have q0 := (blk_cell Hq.out) 0
    have q1 := (blk_cell Hq.out) 1
    have q2 := (blk_cell Hq.out) 2
    have qf := blk_frozen Hq.out
    have hpl := blk_lt Hq.out
    simp only [List.getElem?_toArray, List.getElem?_cons_zero, List.getElem?_cons_succ] at q0 q1 q2
    clear hw1
    go_wp2_with fail
    go_ret
    have hF := (hf1.setCell (p := ⟨p, 2, none⟩) (.inl rfl) (.iface 137 (.pointer (some ⟨w1.heap.size, 0, none⟩)))).alloc (.cells #[.int .i64 a] 139)
    refine ⟨rfl, ⟨.iface 137 (.pointer (some ⟨w1.heap.size, 0, none⟩)), ?_, .inr ⟨rfl, _, rfl⟩⟩, hF, et_fr he hF (Ne.symm hpe)⟩
    have := blk_alloc (o := .cells #[.int .i64 a] 139) (blk_set Hq.out 2 (.iface 137 (.pointer (some ⟨w1.heap.size, 0, none⟩))))
    simpa [RnE] using this
  · have e : rdT b a false n = (b.extract a.toNat (a + n).toNat, a + n, false) := by unfold rdT; simp [hc]
    rw [e]
    clear e
    have m1 : IntKind.i64.wrap (a + n) = a + n := IntWalk.i64_in _ (by omega)
    have m2 : a + n - n = a := by omega
    have m3 : IntKind.i64.wrap a = a := IntWalk.i64_in _ (by omega)
    have hsl : ∀ W : World, (Instr.slice 9 (.string b) (some (.int .i64 a)) (some (.int .i64 (a + n))) none).run Tryd.prog W = .ok (.string (b.extract a.toNat (a + n).toNat)) W := fun W =>
      run_slice_string W 9 b .i64 .i64 _ _ Tryd.underlying9 (by omega) (by omega) (by omega)
    go_enter Tryd.func105, Tryd.ntmps105
    go_wp2_with fail
    go_quiet (fail)
    rename Nat => n1
    go_wp2_with fail
    go_quiet (fail)
    go_wp2_with fail
    go_ret
    have h1 := blk_set Hp.out 1 (.int .i64 (a + n))
    have hF : Fr (· = p) w (((w.drewN n1).setCell ⟨p, 1, none⟩ (.int .i64 (a + n))).drewN nq) := (((Fr.refl (· = p) w).drewN n1).setCell (p := ⟨p, 1, none⟩) (.inl rfl) (.int .i64 (a + n))).drewN nq
    refine ⟨rfl, ⟨_, ?_, .inl ⟨rfl, rfl⟩⟩, hF, et_fr he hF (Ne.symm hpe)⟩
    simp only [List.setIfInBounds_toArray, List.set_cons_zero, List.set_cons_succ] at h1
    exact h1
/-- Four cells are written. -/
def set4 (w : World) (B : Nat) (v0 v1 v2 v3 : Value) : World := (((w.setCell ⟨B, 0, none⟩ v0).setCell ⟨B, 1, none⟩ v1).setCell ⟨B, 2, none⟩ v2).setCell ⟨B, 3, none⟩ v3
theorem set4_blk {w : World} {B : Nat} {c0 c1 c2 c3 : Value} {t : TypeId} (h : w.heap[B]? = some (.cells #[c0, c1, c2, c3] t (0, 0))) (v0 v1 v2 v3 : Value) : (set4 w B v0 v1 v2 v3).heap[B]? = some (.cells #[v0, v1, v2, v3] t (0, 0)) := by
  have := blk_set (blk_set (blk_set (blk_set h 0 v0) 1 v1) 2 v2) 3 v3
  simpa [set4] using this
theorem set4_far {w : World} {b : Nat} {x : Obj} (h : w.heap[b]? = some x) {B : Nat} (hne : b ≠ B) (v0 v1 v2 v3 : Value) : (set4 w B v0 v1 v2 v3).heap[b]? = some x :=
  blk_set_far (blk_set_far (blk_set_far (blk_set_far h (a := ⟨B, 0, none⟩) hne v0) (a := ⟨B, 1, none⟩) hne v1) (a := ⟨B, 2, none⟩) hne v2) (a := ⟨B, 3, none⟩) hne v3
theorem set4_fr {S : Nat → Prop} {a w : World} (h : Fr S a w) {B : Nat} (hp : S B ∨ a.heap.size ≤ B) (v0 v1 v2 v3 : Value) : Fr S a (set4 w B v0 v1 v2 v3) :=
  (((h.setCell (p := ⟨B, 0, none⟩) hp v0).setCell (p := ⟨B, 1, none⟩) hp v1).setCell (p := ⟨B, 2, none⟩) hp v2).setCell (p := ⟨B, 3, none⟩) hp v3
theorem IsRn.far {w w' : World} {p : Nat} {b : ByteArray} {a : Int} {bad : Bool} (h : IsRn w p b a bad) (hk : ∀ x, w.heap[p]? = some x → w'.heap[p]? = some x) : IsRn w' p b a bad := by
  obtain ⟨ev, h1, h2⟩ := h
  exact ⟨ev, hk _ h1, h2⟩
set_option maxRecDepth 20000 in
set_option maxHeartbeats 2000000 in
theorem rn_item (p : Nat) (b : ByteArray) (a : Int) (bad : Bool) (hb : b.size ≤ 140737488351232) (ha0 : 0 ≤ a) (ha1 : a ≤ b.size) (w : World) (he : EtIs w) (hp : IsRn w p b a bad) (hpe : p ≠ 1) :
    Calls Tryd.prog 99 #[.pointer (some ⟨p, 0, none⟩)] w fun e w' => e = .returned (.agg (rdI b a bad).1.cells) ∧ IsRn w' p b (rdI b a bad).2.1 (rdI b a bad).2.2 ∧ Fr (· = p) w w' ∧ EtIs w' := by
  have hk := rdR_bd (b := b) (a := a) (bad := bad) (n := 4) (.inr (.inr rfl)) ha0 ha1
  obtain ⟨k, a1, b1, h1⟩ : ∃ k a1 b1, rdR b a bad 4 = (k, a1, b1) := ⟨_, _, _, rfl⟩
  have N1 := Lib.hid (rn_num p b a bad 4 hb (by decide)); rw [h1] at N1
  rw [h1] at hk
  have hz := rdR_bd (b := b) (a := a1) (bad := b1) (n := 2) (.inr (.inl rfl)) hk.1 hk.2.1
  obtain ⟨z, a2, b2, h2⟩ : ∃ z a2 b2, rdR b a1 b1 2 = (z, a2, b2) := ⟨_, _, _, rfl⟩
  have N2 := Lib.hid (rn_num p b a1 b1 2 hb (by decide)); rw [h2] at N2
  rw [h2] at hz
  simp only at hk hz
  have hk3 : k < 4294967296 := by have := hk.2.2.2; simpa using this
  have hz3 : z < 65536 := by have := hz.2.2.2; simpa using this
  obtain ⟨hk0, hk1, hk2, _⟩ := hk
  obtain ⟨hz0, hz1, hz2, _⟩ := hz
  have hpl : p < w.heap.size := hp.lt
  have hw1 : IntKind.u32.wrap k = k := by rw [IntKind.wrap_u32, Int.emod_eq_of_lt hk2 hk3]
  have hpw : p ≠ w.heap.size := by omega
  by_cases h40 : z ≤ 40
  · obtain ⟨t, a3, b3, h3⟩ : ∃ t a3 b3, rdT b a2 b2 z = (t, a3, b3) := ⟨_, _, _, rfl⟩
    have e1 : rdI b a bad = (⟨k, z, t, 0⟩, a3, b3) := by unfold rdI; simp only [h1, h2, if_pos h40, h3]
    rw [e1]
    have N3 := Lib.hid (rn_text p b a2 b2 z hb hz0 hz1 hz2 h40); rw [h3] at N3
    clear h1 h2 h3 e1
    go_enter Tryd.func99, Tryd.ntmps99
    go_wp2_with fail
    obtain ⟨w0, hw0⟩ : ∃ w0, w0 = w.alloc (.cells #[.int .u32 0, .int .i64 0, .string ⟨#[]⟩, .int .i64 0] 97) := ⟨_, rfl⟩
    rw [← hw0]
    have hp0 : IsRn w0 p b a bad := by rw [hw0]; exact hp.alloc _
    have he0 : EtIs w0 := by rw [hw0]; exact he.alloc _
    have br0 : Hid (w0.heap[w.heap.size]? = some (.cells #[.int .u32 0, .int .i64 0, .string ⟨#[]⟩, .int .i64 0] 97 (0, 0))) := by show _ = _; rw [hw0]; exact blk_new _ _
    have F0 : Hid (Fr (· = p) w w0) := by show Fr _ _ _; rw [hw0]; exact (Fr.refl _ _).alloc _
    clear hw0 hp
    refine (N1.out _ he0 hp0 hpe).mono ?_; rintro e w1 ⟨rfl, hp1, hf1, he1⟩
    have br1 := Lib.hid (blk_fr br0.out hf1 (Ne.symm hpw))
    have F1 := Lib.hid (F0.out.trans hf1)
    clear hf1 hp0 he0
    go_wp2_with fail
    try rw [hw1]
    refine (N2.out _ he1 hp1 hpe).mono ?_; rintro e w2 ⟨rfl, hp2, hf2, he2⟩
    have br2 := Lib.hid (blk_fr br1.out hf2 (Ne.symm hpw))
    have F2 := Lib.hid (F1.out.trans hf2)
    have hrq : w.heap.size < w2.heap.size := blk_lt br2.out
    have hpq : p < w2.heap.size := hp2.lt
    obtain ⟨q, hq⟩ : ∃ q, q = w2.heap.size := ⟨_, rfl⟩
    obtain ⟨w3, hw3⟩ : ∃ w3, w3 = w2.alloc (.cells #[.int .u32 k, .int .i64 z, .string ⟨#[]⟩, .int .i64 0] 97) := ⟨_, rfl⟩
    have bq3 : Hid (w3.heap[q]? = some (.cells #[.int .u32 k, .int .i64 z, .string ⟨#[]⟩, .int .i64 0] 97 (0, 0))) := by show _ = _; rw [hw3, hq]; exact blk_new _ _
    have br3 : Hid (w3.heap[w.heap.size]? = some (.cells #[.int .u32 0, .int .i64 0, .string ⟨#[]⟩, .int .i64 0] 97 (0, 0))) := by show _ = _; rw [hw3]; exact blk_alloc br2.out
    have hp3 : Hid (IsRn w3 p b a2 b2) := by show IsRn _ _ _ _ _; rw [hw3]; exact hp2.alloc _
    have he3 : Hid (EtIs w3) := by show EtIs _; rw [hw3]; exact he2.alloc _
    have F3 : Hid (Fr (· = p) w w3) := by show Fr _ _ _; rw [hw3]; exact F2.out.alloc _
    have hrq' : w.heap.size ≠ q := by omega
    have hpq' : p ≠ q := by omega
    have hwq : w.heap.size ≤ q := by omega
    have hc3 := blk_cell bq3.out
    clear hf2 hp1 he1 hp2 he2 hrq hpq
    go_wp2_with fail
    try rw [hw1]
    rw [← hw3, ← hq]
    clear hw3 hq
    have hc3 := blk_cell bq3.out
    go_wp2_with fail
    refine (N3.out _ he3.out hp3.out hpe).mono ?_; rintro e w4 ⟨rfl, hp4, hf4, he4⟩
    have br4 := Lib.hid (blk_fr br3.out hf4 (Ne.symm hpw))
    have bq4 := Lib.hid (blk_fr bq3.out hf4 (Ne.symm hpq'))
    have F4 := Lib.hid (F3.out.trans hf4)
    have hc4 := blk_cell bq4.out
    have hz4 := blk_frozen bq4.out
    have hd4 := blk_cell br4.out
    have hy4 := blk_frozen br4.out
    have HP4 := Lib.hid hp4
    have HE4 := Lib.hid he4
    clear hf4 hc3 hp4 he4
    go_wp2_with fail
    have F5 := F4.out.setCell (p := ⟨q, 2, none⟩) (.inr (by show w.heap.size ≤ q; omega)) (.string t)
    have hp5 : IsRn (w4.setCell ⟨q, 2, none⟩ (.string t)) p b a3 b3 := HP4.out.far fun x h => blk_set_far h hpq' _
    have br5 := blk_set_far (a := ⟨q, 2, none⟩) br4.out hrq' (.string t)
    have F6 := set4_fr F5 (B := w.heap.size) (.inr (Nat.le_refl _)) (.int .u32 k) (.int .i64 z) (.string t) (.int .i64 0)
    have hp6 := hp5.far (w' := set4 (w4.setCell ⟨q, 2, none⟩ (.string t)) w.heap.size (.int .u32 k) (.int .i64 z) (.string t) (.int .i64 0)) fun x h => set4_far h hpw _ _ _ _
    have br6 := set4_blk br5 (.int .u32 k) (.int .i64 z) (.string t) (.int .i64 0)
    have he6 := et_fr he F6 (Ne.symm hpe)
    unfold set4 at F6 hp6 br6 he6
    have s0 := blk_cell br6 0
    have s1 := blk_cell br6 1
    have s2 := blk_cell br6 2
    have s3 := blk_cell br6 3
    simp only [List.getElem?_toArray, List.getElem?_cons_zero, List.getElem?_cons_succ] at s0 s1 s2 s3
    exact bodyPost_ret (v := .agg #[.int .u32 k, .int .i64 z, .string t, .int .i64 0]) (by simp only [results, Tryd.results99]; simp [go_sem, s0, s1, s2, s3]) rfl ⟨rfl, hp6, F6, he6⟩
  · obtain ⟨t, a3, b3, h3⟩ : ∃ t a3 b3, rdR b a2 b2 2 = (t, a3, b3) := ⟨_, _, _, rfl⟩
    have e1 : rdI b a bad = (⟨k, z, ⟨#[]⟩, t⟩, a3, b3) := by unfold rdI; simp only [h1, h2, if_neg h40, h3]
    rw [e1]
    have N3 := Lib.hid (rn_num p b a2 b2 2 hb (by decide)); rw [h3] at N3
    clear h1 h2 h3 e1
    go_enter Tryd.func99, Tryd.ntmps99
    go_wp2_with fail
    obtain ⟨w0, hw0⟩ : ∃ w0, w0 = w.alloc (.cells #[.int .u32 0, .int .i64 0, .string ⟨#[]⟩, .int .i64 0] 97) := ⟨_, rfl⟩
    rw [← hw0]
    have hp0 : IsRn w0 p b a bad := by rw [hw0]; exact hp.alloc _
    have he0 : EtIs w0 := by rw [hw0]; exact he.alloc _
    have br0 : Hid (w0.heap[w.heap.size]? = some (.cells #[.int .u32 0, .int .i64 0, .string ⟨#[]⟩, .int .i64 0] 97 (0, 0))) := by show _ = _; rw [hw0]; exact blk_new _ _
    have F0 : Hid (Fr (· = p) w w0) := by show Fr _ _ _; rw [hw0]; exact (Fr.refl _ _).alloc _
    clear hw0 hp
    refine (N1.out _ he0 hp0 hpe).mono ?_; rintro e w1 ⟨rfl, hp1, hf1, he1⟩
    have br1 := Lib.hid (blk_fr br0.out hf1 (Ne.symm hpw))
    have F1 := Lib.hid (F0.out.trans hf1)
    clear hf1 hp0 he0
    go_wp2_with fail
    try rw [hw1]
    refine (N2.out _ he1 hp1 hpe).mono ?_; rintro e w2 ⟨rfl, hp2, hf2, he2⟩
    have br2 := Lib.hid (blk_fr br1.out hf2 (Ne.symm hpw))
    have F2 := Lib.hid (F1.out.trans hf2)
    have hrq : w.heap.size < w2.heap.size := blk_lt br2.out
    have hpq : p < w2.heap.size := hp2.lt
    obtain ⟨q, hq⟩ : ∃ q, q = w2.heap.size := ⟨_, rfl⟩
    obtain ⟨w3, hw3⟩ : ∃ w3, w3 = w2.alloc (.cells #[.int .u32 k, .int .i64 z, .string ⟨#[]⟩, .int .i64 0] 97) := ⟨_, rfl⟩
    have bq3 : Hid (w3.heap[q]? = some (.cells #[.int .u32 k, .int .i64 z, .string ⟨#[]⟩, .int .i64 0] 97 (0, 0))) := by show _ = _; rw [hw3, hq]; exact blk_new _ _
    have br3 : Hid (w3.heap[w.heap.size]? = some (.cells #[.int .u32 0, .int .i64 0, .string ⟨#[]⟩, .int .i64 0] 97 (0, 0))) := by show _ = _; rw [hw3]; exact blk_alloc br2.out
    have hp3 : Hid (IsRn w3 p b a2 b2) := by show IsRn _ _ _ _ _; rw [hw3]; exact hp2.alloc _
    have he3 : Hid (EtIs w3) := by show EtIs _; rw [hw3]; exact he2.alloc _
    have F3 : Hid (Fr (· = p) w w3) := by show Fr _ _ _; rw [hw3]; exact F2.out.alloc _
    have hrq' : w.heap.size ≠ q := by omega
    have hpq' : p ≠ q := by omega
    have hwq : w.heap.size ≤ q := by omega
    have hc3 := blk_cell bq3.out
    clear hf2 hp1 he1 hp2 he2 hrq hpq
    go_wp2_with fail
    try rw [hw1]
    rw [← hw3, ← hq]
    clear hw3 hq
    have hc3 := blk_cell bq3.out
    go_wp2_with fail
    refine (N3.out _ he3.out hp3.out hpe).mono ?_; rintro e w4 ⟨rfl, hp4, hf4, he4⟩
    have br4 := Lib.hid (blk_fr br3.out hf4 (Ne.symm hpw))
    have bq4 := Lib.hid (blk_fr bq3.out hf4 (Ne.symm hpq'))
    have F4 := Lib.hid (F3.out.trans hf4)
    have hc4 := blk_cell bq4.out
    have hz4 := blk_frozen bq4.out
    have hd4 := blk_cell br4.out
    have hy4 := blk_frozen br4.out
    have HP4 := Lib.hid hp4
    have HE4 := Lib.hid he4
    clear hf4 hc3 hp4 he4
    go_wp2_with fail
    have F5 := F4.out.setCell (p := ⟨q, 3, none⟩) (.inr (by show w.heap.size ≤ q; omega)) (.int .i64 t)
    have hp5 : IsRn (w4.setCell ⟨q, 3, none⟩ (.int .i64 t)) p b a3 b3 := HP4.out.far fun x h => blk_set_far h hpq' _
    have br5 := blk_set_far (a := ⟨q, 3, none⟩) br4.out hrq' (.int .i64 t)
    have F6 := set4_fr F5 (B := w.heap.size) (.inr (Nat.le_refl _)) (.int .u32 k) (.int .i64 z) (.string ⟨#[]⟩) (.int .i64 t)
    have hp6 := hp5.far (w' := set4 (w4.setCell ⟨q, 3, none⟩ (.int .i64 t)) w.heap.size (.int .u32 k) (.int .i64 z) (.string ⟨#[]⟩) (.int .i64 t)) fun x h => set4_far h hpw _ _ _ _
    have br6 := set4_blk br5 (.int .u32 k) (.int .i64 z) (.string ⟨#[]⟩) (.int .i64 t)
    have he6 := et_fr he F6 (Ne.symm hpe)
    unfold set4 at F6 hp6 br6 he6
    have s0 := blk_cell br6 0
    have s1 := blk_cell br6 1
    have s2 := blk_cell br6 2
    have s3 := blk_cell br6 3
    simp only [List.getElem?_toArray, List.getElem?_cons_zero, List.getElem?_cons_succ] at s0 s1 s2 s3
    exact bodyPost_ret (v := .agg #[.int .u32 k, .int .i64 z, .string ⟨#[]⟩, .int .i64 t]) (by simp only [results, Tryd.results99]; simp [go_sem, s0, s1, s2, s3]) rfl ⟨rfl, hp6, F6, he6⟩
end Go.Proofs.YtlpdanghcdajmaaDoor
