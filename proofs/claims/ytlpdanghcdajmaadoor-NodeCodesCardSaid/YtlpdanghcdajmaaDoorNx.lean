/- Nodes (layer 23): the reader's numbers and texts. -/
import Derived.Test.YtlpdanghcdajmaaDoorNw
import Derived.Test.YtlpdanghcdajmaaDoorEr
namespace Go.Proofs.YtlpdanghcdajmaaDoor
open Go.RowKit
/-- What the reader holds as its error. -/
def ErrN (bad : Bool) (ev : Value) : Prop := (bad = false ∧ ev = .nilIface) ∨ (bad = true ∧ ∃ q, ev = .iface 137 (.pointer (some ⟨q, 0, none⟩)))
/-- The reader at block p: its bytes, where it stands, its error. -/
def RnE (w : World) (p : Nat) (b : ByteArray) (a : Int) (ev : Value) : Prop := w.heap[p]? = some (.cells #[.string b, .int .i64 a, ev] 135 (0, 0))
def IsRn (w : World) (p : Nat) (b : ByteArray) (a : Int) (bad : Bool) : Prop := ∃ ev, RnE w p b a ev ∧ ErrN bad ev
theorem IsRn.below {w w' : World} {p : Nat} {b : ByteArray} {a : Int} {bad : Bool} (h : IsRn w p b a bad) (hb : Below w.heap.size w w') : IsRn w' p b a bad := by
  obtain ⟨ev, h1, h2⟩ := h
  exact ⟨ev, blk_below h1 hb, h2⟩
theorem IsRn.alloc {w : World} {p : Nat} {b : ByteArray} {a : Int} {bad : Bool} (h : IsRn w p b a bad) (o : Obj) : IsRn (w.alloc o) p b a bad := h.below (below_a1 _ _)
theorem IsRn.lt {w : World} {p : Nat} {b : ByteArray} {a : Int} {bad : Bool} (h : IsRn w p b a bad) : p < w.heap.size := by
  obtain ⟨ev, h1, _⟩ := h
  exact blk_lt h1
set_option maxHeartbeats 1000000 in
theorem rn_num_t (p : Nat) (b : ByteArray) (a : Int) (n v t c : Int) (q : Nat) (ht : takeR b a n = (v, t, c)) (hb : b.size ≤ 140737488351232) (w : World) (he : EtIs w) (hp : RnE w p b a (.iface 137 (.pointer (some ⟨q, 0, none⟩)))) (_hpe : p ≠ 1) :
    Calls Tryd.prog 98 #[.pointer (some ⟨p, 0, none⟩), .int .i64 n] w fun e w' => e = .returned (.int .i64 0) ∧ RnE w' p b a (.iface 137 (.pointer (some ⟨q, 0, none⟩))) ∧ Fr (· = p) w w' ∧ EtIs w' := by
  have Hp := Lib.hid hp; clear hp
  have hq := blk_cell Hp.out
  have hpl := blk_lt Hp.out
  have q0 : w.cell? ⟨p, 0, none⟩ = some (.string b) := hq 0
  have q1 : w.cell? ⟨p, 1, none⟩ = some (.int .i64 a) := hq 1
  clear hq
  have Ht := Lib.hid ht; clear ht
  go_enter Tryd.func98, Tryd.ntmps98
  go_wp2_with fail
  go_region_held3 (fun w' => w'.cell? ⟨p, 0, none⟩ = some (.string b) ∧ w'.cell? ⟨p, 1, none⟩ = some (.int .i64 a)) (go_keep)
    (first | (go_at_call 29; refine (pack_Take_eq Ht.out hb _ ?_).mono ?_; (exact he); rintro e w1 ⟨rfl, hb1⟩; have k0 := hb1.cell (p := ⟨p, 0, none⟩) hpl; have k1 := hb1.cell (p := ⟨p, 1, none⟩) hpl))
  have Hq := Lib.hid (blk_below (w := w) Hp.out ⟨hb1.os, hb1.tape, hb1.output, hb1.size, hb1.block⟩)
  have hf1 : Fr (· = p) w w1 := Fr.of_below ⟨hb1.os, hb1.tape, hb1.output, hb1.size, hb1.block⟩
  have he1 : EtIs w1 := he.below ⟨hb1.os, hb1.tape, hb1.output, hb1.size, hb1.block⟩
  have k2 : w1.cell? ⟨p, 2, none⟩ = some (.iface 137 (.pointer (some ⟨q, 0, none⟩))) := (blk_cell Hq.out) 2
  clear hb1
  by_cases hc : c = 0
  · subst hc
    go_wp2_with fail
    go_ret
    exact ⟨rfl, Hq.out, hf1, he1⟩
  · have hc1 : (c != 0) = true := by rw [bne_iff_ne]; exact hc
    have hc2 : (c == 0) = false := by rw [beq_eq_false_iff_ne]; exact hc
    go_wp2_with fail
    go_ret
    exact ⟨rfl, Hq.out, hf1, he1⟩
set_option maxHeartbeats 1000000 in
theorem rn_num_fo (p : Nat) (b : ByteArray) (a : Int) (n v t : Int) (ht : takeR b a n = (v, t, 0)) (hv0 : 0 ≤ v) (hv1 : v < 4294967296) (hb : b.size ≤ 140737488351232) (w : World) (he : EtIs w) (hp : RnE w p b a .nilIface) (hpe : p ≠ 1) :
    Calls Tryd.prog 98 #[.pointer (some ⟨p, 0, none⟩), .int .i64 n] w fun e w' => e = .returned (.int .i64 v) ∧ RnE w' p b t .nilIface ∧ Fr (· = p) w w' ∧ EtIs w' := by
  have Hp := Lib.hid hp; clear hp
  have hq := blk_cell Hp.out
  have hpl := blk_lt Hp.out
  have q0 : w.cell? ⟨p, 0, none⟩ = some (.string b) := hq 0
  have q1 : w.cell? ⟨p, 1, none⟩ = some (.int .i64 a) := hq 1
  clear hq
  have Ht := Lib.hid ht; clear ht
  go_enter Tryd.func98, Tryd.ntmps98
  go_wp2_with fail
  go_region_held3 (fun w' => w'.cell? ⟨p, 0, none⟩ = some (.string b) ∧ w'.cell? ⟨p, 1, none⟩ = some (.int .i64 a)) (go_keep)
    (first | (go_at_call 29; refine (pack_Take_eq Ht.out hb _ ?_).mono ?_; (exact he); rintro e w1 ⟨rfl, hb1⟩; have k0 := hb1.cell (p := ⟨p, 0, none⟩) hpl; have k1 := hb1.cell (p := ⟨p, 1, none⟩) hpl))
  have Hq := Lib.hid (blk_below (w := w) Hp.out ⟨hb1.os, hb1.tape, hb1.output, hb1.size, hb1.block⟩)
  have hf1 : Fr (· = p) w w1 := Fr.of_below ⟨hb1.os, hb1.tape, hb1.output, hb1.size, hb1.block⟩
  have he1 : EtIs w1 := he.below ⟨hb1.os, hb1.tape, hb1.output, hb1.size, hb1.block⟩
  have k2 : w1.cell? ⟨p, 2, none⟩ = some .nilIface := (blk_cell Hq.out) 2
  have kf := blk_frozen Hq.out
  clear hb1
  go_wp2_with fail
  go_ret
  have hF := hf1.setCell (p := ⟨p, 1, none⟩) (.inl rfl) (.int .i64 t)
  refine ⟨rfl, ?_, hF, et_fr he hF (Ne.symm hpe)⟩
  have := blk_set Hq.out 1 (.int .i64 t)
  simpa [RnE] using this
set_option maxHeartbeats 1000000 in
theorem rn_num_fn (p : Nat) (b : ByteArray) (a : Int) (n v t c : Int) (ht : takeR b a n = (v, t, c)) (hc : c ≠ 0) (hb : b.size ≤ 140737488351232) (w : World) (he : EtIs w) (hp : RnE w p b a .nilIface) (hpe : p ≠ 1) :
    Calls Tryd.prog 98 #[.pointer (some ⟨p, 0, none⟩), .int .i64 n] w fun e w' => e = .returned (.int .i64 0) ∧ IsRn w' p b a true ∧ Fr (· = p) w w' ∧ EtIs w' := by
  have Hp := Lib.hid hp; clear hp
  have hq := blk_cell Hp.out
  have hpl := blk_lt Hp.out
  have q0 : w.cell? ⟨p, 0, none⟩ = some (.string b) := hq 0
  have q1 : w.cell? ⟨p, 1, none⟩ = some (.int .i64 a) := hq 1
  clear hq
  have Ht := Lib.hid ht; clear ht
  have hc1 : (c != 0) = true := by rw [bne_iff_ne]; exact hc
  have hc2 : (c == 0) = false := by rw [beq_eq_false_iff_ne]; exact hc
  clear hc
  go_enter Tryd.func98, Tryd.ntmps98
  go_wp2_with fail
  go_region_held3 (fun w' => w'.cell? ⟨p, 0, none⟩ = some (.string b) ∧ w'.cell? ⟨p, 1, none⟩ = some (.int .i64 a)) (go_keep)
    (first | (go_at_call 29; refine (pack_Take_eq Ht.out hb _ ?_).mono ?_; (exact he); rintro e w1 ⟨rfl, hb1⟩; have k0 := hb1.cell (p := ⟨p, 0, none⟩) hpl; have k1 := hb1.cell (p := ⟨p, 1, none⟩) hpl))
  have Hq := Lib.hid (blk_below (w := w) Hp.out ⟨hb1.os, hb1.tape, hb1.output, hb1.size, hb1.block⟩)
  have hf1 : Fr (· = p) w w1 := Fr.of_below ⟨hb1.os, hb1.tape, hb1.output, hb1.size, hb1.block⟩
  have he1 : EtIs w1 := he.below ⟨hb1.os, hb1.tape, hb1.output, hb1.size, hb1.block⟩
  have k1' : w1.cell? ⟨p, 1, none⟩ = some (.int .i64 a) := (blk_cell Hq.out) 1
  have k2 : w1.cell? ⟨p, 2, none⟩ = some .nilIface := (blk_cell Hq.out) 2
  have kf := blk_frozen Hq.out
  have hpl1 : p < w1.heap.size := blk_lt Hq.out
  clear hb1
  go_wp2_with fail
  go_ret
  have hF := (hf1.setCell (p := ⟨p, 2, none⟩) (.inl rfl) (.iface 137 (.pointer (some ⟨w1.heap.size, 0, none⟩)))).alloc (.cells #[.int .i64 a] 139)
  refine ⟨rfl, ⟨.iface 137 (.pointer (some ⟨w1.heap.size, 0, none⟩)), ?_, .inr ⟨rfl, _, rfl⟩⟩, hF, et_fr he hF (Ne.symm hpe)⟩
  have := blk_alloc (o := .cells #[.int .i64 a] 139) (blk_set Hq.out 2 (.iface 137 (.pointer (some ⟨w1.heap.size, 0, none⟩))))
  simpa [RnE] using this
theorem rn_num (p : Nat) (b : ByteArray) (a : Int) (bad : Bool) (n : Int) (hb : b.size ≤ 140737488351232) (hn : n ≤ 4) (w : World) (he : EtIs w) (hp : IsRn w p b a bad) (hpe : p ≠ 1) :
    Calls Tryd.prog 98 #[.pointer (some ⟨p, 0, none⟩), .int .i64 n] w fun e w' => e = .returned (.int .i64 (rdR b a bad n).1) ∧ IsRn w' p b (rdR b a bad n).2.1 (rdR b a bad n).2.2 ∧ Fr (· = p) w w' ∧ EtIs w' := by
  have hbd := takeR_bd (b := b) (a := a) hn
  obtain ⟨v, t, c, ht⟩ : ∃ v t c, takeR b a n = (v, t, c) := ⟨_, _, _, rfl⟩
  rw [ht] at hbd
  unfold rdR
  rw [ht]
  obtain ⟨ev, h1, h2⟩ := hp
  rcases h2 with ⟨rfl, rfl⟩ | ⟨rfl, q, rfl⟩
  · by_cases hc : c = 0
    · subst hc
      exact (rn_num_fo p b a n v t ht hbd.1 hbd.2 hb w he h1 hpe).mono fun e w' ⟨h1, h2, h3, h4⟩ => ⟨h1, ⟨_, h2, .inl ⟨rfl, rfl⟩⟩, h3, h4⟩
    · have e1 : (false || c != 0) = true := by simp [hc]
      simp only [e1, if_true]
      exact rn_num_fn p b a n v t c ht hc hb w he h1 hpe
  · exact (rn_num_t p b a n v t c q ht hb w he h1 hpe).mono fun e w' ⟨h1, h2, h3, h4⟩ => ⟨h1, ⟨_, h2, .inr ⟨rfl, q, rfl⟩⟩, h3, h4⟩
end Go.Proofs.YtlpdanghcdajmaaDoor
