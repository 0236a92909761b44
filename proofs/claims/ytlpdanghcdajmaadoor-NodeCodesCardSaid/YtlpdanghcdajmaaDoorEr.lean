/- The walks of edit's reader and of edit.Decode. -/
import Derived.Test.YtlpdanghcdajmaaDoorEw
import Derived.Deep.RegionHeld3
namespace Go.Proofs.YtlpdanghcdajmaaDoor
open Go.RowKit

/-- The reader at block p: its bytes, where it stands, whether they are bad. -/
def IsRd (w : World) (p : Nat) (b : ByteArray) (a : Int) (bad : Bool) : Prop := w.heap[p]? = some (.cells #[.string b, .int .i64 a, .bool bad] 122 (0, 0))
/-- A number that is taken: it, where the reader stands behind it, whether it is bad. -/
def rdR (b : ByteArray) (a : Int) (bad : Bool) (n : Int) : Int × Int × Bool :=
  let t := takeR b a n
  if bad || t.2.2 != 0 then (0, a, true) else (t.1, t.2.1, false)
theorem takeR_bd {b : ByteArray} {a n : Int} (hn : n ≤ 4) : 0 ≤ (takeR b a n).1 ∧ (takeR b a n).1 < 4294967296 := by
  unfold takeR
  split
  · exact ⟨by decide, by decide⟩
  · split
    · exact ⟨by decide, by decide⟩
    · rename_i h1 h2
      have hs : sizeB n = true := by cases hx : sizeB n <;> simp_all
      have hc := sizeB_cases hs
      have := valBE_bd n.toNat ((b.data.toList.drop a.toNat).take n.toNat) (by rw [List.length_take, List.length_drop, size_list]; omega)
      refine ⟨this.1, Int.lt_of_lt_of_le this.2 ?_⟩
      have h4 : (256 : Nat) ^ n.toNat ≤ 256 ^ 4 := Nat.pow_le_pow_right (by decide) (by omega)
      have e : ((256 ^ n.toNat : Nat) : Int) = (256 : Int) ^ n.toNat := by simp
      omega
theorem setCell_block_other {w : World} {a : Addr} {v : Value} {k : Nat} (h : k ≠ a.block) : (w.setCell a v).heap[k]? = w.heap[k]? := Below.heap_setCell _ _ _ _ h

theorem et_fr {S : Nat → Prop} {w w' : World} (he : EtIs w) (hf : Fr S w w') (hp : ¬ S 1) : EtIs w' := by
  have hl := he.lt
  unfold EtIs at he ⊢
  rw [hf.cell hl hp]; exact he
theorem u64_i64 {v : Int} (h0 : 0 ≤ v) (h1 : v < 4294967296) : IntKind.i64.wrap v = v := by rw [IntKind.wrap_i64]; omega
set_option maxHeartbeats 1000000 in
theorem rd_num_t (p : Nat) (b : ByteArray) (a : Int) (n v t c : Int) (ht : takeR b a n = (v, t, c)) (hb : b.size ≤ 140737488351232) (w : World) (he : EtIs w) (hp : IsRd w p b a true) (hpe : p ≠ 1) :
    Calls Tryd.prog 68 #[.pointer (some ⟨p, 0, none⟩), .int .i64 n] w fun e w' => e = .returned (.int .i64 0) ∧ IsRd w' p b a true ∧ Fr (· = p) w w' ∧ EtIs w' := by
  have Hp := Lib.hid hp; clear hp
  have hq := blk_cell Hp.out
  have hpl := blk_lt Hp.out
  have q0 : w.cell? ⟨p, 0, none⟩ = some (.string b) := hq 0
  have q1 : w.cell? ⟨p, 1, none⟩ = some (.int .i64 a) := hq 1
  clear hq
  have Ht := Lib.hid ht; clear ht
  go_enter Tryd.func68, Tryd.ntmps68
  go_wp2_with fail
  go_region_held3 (fun w' => w'.cell? ⟨p, 0, none⟩ = some (.string b) ∧ w'.cell? ⟨p, 1, none⟩ = some (.int .i64 a)) (go_keep)
    (first | (go_at_call 29; refine (pack_Take_eq Ht.out hb _ ?_).mono ?_; (exact he); rintro e w1 ⟨rfl, hb1⟩; have k0 := hb1.cell (p := ⟨p, 0, none⟩) hpl; have k1 := hb1.cell (p := ⟨p, 1, none⟩) hpl))
  have Hq := Lib.hid (blk_below (w := w) Hp.out ⟨hb1.os, hb1.tape, hb1.output, hb1.size, hb1.block⟩)
  have hf1 : Fr (· = p) w w1 := Fr.of_below ⟨hb1.os, hb1.tape, hb1.output, hb1.size, hb1.block⟩
  have he1 : EtIs w1 := he.below ⟨hb1.os, hb1.tape, hb1.output, hb1.size, hb1.block⟩
  have k2 : w1.cell? ⟨p, 2, none⟩ = some (.bool true) := (blk_cell Hq.out) 2
  have kf := blk_frozen Hq.out
  clear hb1
  go_wp2_with fail
  go_ret
  have hF := hf1.setCell (p := ⟨p, 2, none⟩) (.inl rfl) (.bool true)
  refine ⟨rfl, ?_, hF, et_fr he hF (Ne.symm hpe)⟩
  have := blk_set Hq.out 2 (.bool true)
  simpa [IsRd] using this
set_option maxHeartbeats 1000000 in
theorem rd_num_fo (p : Nat) (b : ByteArray) (a : Int) (n v t c : Int) (ht : takeR b a n = (v, t, c)) (hc : c = 0) (hv0 : 0 ≤ v) (hv1 : v < 4294967296) (hb : b.size ≤ 140737488351232) (w : World) (he : EtIs w) (hp : IsRd w p b a false) (hpe : p ≠ 1) :
    Calls Tryd.prog 68 #[.pointer (some ⟨p, 0, none⟩), .int .i64 n] w fun e w' => e = .returned (.int .i64 v) ∧ IsRd w' p b t false ∧ Fr (· = p) w w' ∧ EtIs w' := by
  have Hp := Lib.hid hp; clear hp
  have hq := blk_cell Hp.out
  have hpl := blk_lt Hp.out
  have q0 : w.cell? ⟨p, 0, none⟩ = some (.string b) := hq 0
  have q1 : w.cell? ⟨p, 1, none⟩ = some (.int .i64 a) := hq 1
  clear hq
  have Ht := Lib.hid ht; clear ht
  subst hc
  go_enter Tryd.func68, Tryd.ntmps68
  go_wp2_with fail
  go_region_held3 (fun w' => w'.cell? ⟨p, 0, none⟩ = some (.string b) ∧ w'.cell? ⟨p, 1, none⟩ = some (.int .i64 a)) (go_keep)
    (first | (go_at_call 29; refine (pack_Take_eq Ht.out hb _ ?_).mono ?_; (exact he); rintro e w1 ⟨rfl, hb1⟩; have k0 := hb1.cell (p := ⟨p, 0, none⟩) hpl; have k1 := hb1.cell (p := ⟨p, 1, none⟩) hpl))
  have Hq := Lib.hid (blk_below (w := w) Hp.out ⟨hb1.os, hb1.tape, hb1.output, hb1.size, hb1.block⟩)
  have hf1 : Fr (· = p) w w1 := Fr.of_below ⟨hb1.os, hb1.tape, hb1.output, hb1.size, hb1.block⟩
  have he1 : EtIs w1 := he.below ⟨hb1.os, hb1.tape, hb1.output, hb1.size, hb1.block⟩
  have k2 : w1.cell? ⟨p, 2, none⟩ = some (.bool false) := (blk_cell Hq.out) 2
  have kf := blk_frozen Hq.out
  clear hb1
  go_wp2_with fail
  go_ret
  have hF := (hf1.setCell (p := ⟨p, 2, none⟩) (.inl rfl) (.bool false)).setCell (p := ⟨p, 1, none⟩) (.inl rfl) (.int .i64 t)
  refine ⟨rfl, ?_, hF, et_fr he hF (Ne.symm hpe)⟩
  have := blk_set (blk_set Hq.out 2 (.bool false)) 1 (.int .i64 t)
  simpa [IsRd] using this
set_option maxHeartbeats 1000000 in
theorem rd_num_fn (p : Nat) (b : ByteArray) (a : Int) (n v t c : Int) (ht : takeR b a n = (v, t, c)) (hc : c ≠ 0) (hb : b.size ≤ 140737488351232) (w : World) (he : EtIs w) (hp : IsRd w p b a false) (hpe : p ≠ 1) :
    Calls Tryd.prog 68 #[.pointer (some ⟨p, 0, none⟩), .int .i64 n] w fun e w' => e = .returned (.int .i64 0) ∧ IsRd w' p b a true ∧ Fr (· = p) w w' ∧ EtIs w' := by
  have Hp := Lib.hid hp; clear hp
  have hq := blk_cell Hp.out
  have hpl := blk_lt Hp.out
  have q0 : w.cell? ⟨p, 0, none⟩ = some (.string b) := hq 0
  have q1 : w.cell? ⟨p, 1, none⟩ = some (.int .i64 a) := hq 1
  clear hq
  have Ht := Lib.hid ht; clear ht
  have hc1 : (c != 0) = true := by rw [bne_iff_ne]; exact hc
  have hc2 : (c == 0) = false := by rw [beq_eq_false_iff_ne]; exact hc
  clear hc
  go_enter Tryd.func68, Tryd.ntmps68
  go_wp2_with fail
  go_region_held3 (fun w' => w'.cell? ⟨p, 0, none⟩ = some (.string b) ∧ w'.cell? ⟨p, 1, none⟩ = some (.int .i64 a)) (go_keep)
    (first | (go_at_call 29; refine (pack_Take_eq Ht.out hb _ ?_).mono ?_; (exact he); rintro e w1 ⟨rfl, hb1⟩; have k0 := hb1.cell (p := ⟨p, 0, none⟩) hpl; have k1 := hb1.cell (p := ⟨p, 1, none⟩) hpl))
  have Hq := Lib.hid (blk_below (w := w) Hp.out ⟨hb1.os, hb1.tape, hb1.output, hb1.size, hb1.block⟩)
  have hf1 : Fr (· = p) w w1 := Fr.of_below ⟨hb1.os, hb1.tape, hb1.output, hb1.size, hb1.block⟩
  have he1 : EtIs w1 := he.below ⟨hb1.os, hb1.tape, hb1.output, hb1.size, hb1.block⟩
  have k2 : w1.cell? ⟨p, 2, none⟩ = some (.bool false) := (blk_cell Hq.out) 2
  have kf := blk_frozen Hq.out
  clear hb1
  go_wp2_with fail
  go_ret
  have hF := hf1.setCell (p := ⟨p, 2, none⟩) (.inl rfl) (.bool true)
  refine ⟨rfl, ?_, hF, et_fr he hF (Ne.symm hpe)⟩
  have := blk_set Hq.out 2 (.bool true)
  simpa [IsRd] using this
theorem rd_num (p : Nat) (b : ByteArray) (a : Int) (bad : Bool) (n : Int) (hb : b.size ≤ 140737488351232) (hn : n ≤ 4) (w : World) (he : EtIs w) (hp : IsRd w p b a bad) (hpe : p ≠ 1) :
    Calls Tryd.prog 68 #[.pointer (some ⟨p, 0, none⟩), .int .i64 n] w fun e w' => e = .returned (.int .i64 (rdR b a bad n).1) ∧ IsRd w' p b (rdR b a bad n).2.1 (rdR b a bad n).2.2 ∧ Fr (· = p) w w' ∧ EtIs w' := by
  have hbd := takeR_bd (b := b) (a := a) hn
  obtain ⟨v, t, c, ht⟩ : ∃ v t c, takeR b a n = (v, t, c) := ⟨_, _, _, rfl⟩
  rw [ht] at hbd
  unfold rdR
  rw [ht]
  cases bad with
  | true => exact rd_num_t p b a n v t c ht hb w he hp hpe
  | false =>
    by_cases hc : c = 0
    · subst hc; exact rd_num_fo p b a n v t 0 ht rfl hbd.1 hbd.2 hb w he hp hpe
    · have e1 : (false || c != 0) = true := by simp [hc]
      simp only [e1, if_true]
      exact rd_num_fn p b a n v t c ht hc hb w he hp hpe
/-- A cell that is taken. -/
def rdCell (b : ByteArray) (a : Int) (bad : Bool) : Int × Int × Int × Bool :=
  let r := rdR b a bad 2
  let c := rdR b r.2.1 r.2.2 1
  (r.1, c.1, c.2.1, c.2.2)
theorem rd_cell (p : Nat) (b : ByteArray) (a : Int) (bad : Bool) (hb : b.size ≤ 140737488351232) (w : World) (he : EtIs w) (hp : IsRd w p b a bad) (hpe : p ≠ 1) :
    Calls Tryd.prog 69 #[.pointer (some ⟨p, 0, none⟩)] w fun e w' => e = .returned (.agg #[.int .i64 (rdCell b a bad).1, .int .i64 (rdCell b a bad).2.1]) ∧ IsRd w' p b (rdCell b a bad).2.2.1 (rdCell b a bad).2.2.2 ∧ Fr (· = p) w w' ∧ EtIs w' := by
  obtain ⟨r, a1, bad1, h1⟩ : ∃ r a1 bad1, rdR b a bad 2 = (r, a1, bad1) := ⟨_, _, _, rfl⟩
  obtain ⟨c, a2, bad2, h2⟩ : ∃ c a2 bad2, rdR b a1 bad1 1 = (c, a2, bad2) := ⟨_, _, _, rfl⟩
  have e1 : rdCell b a bad = (r, c, a2, bad2) := by simp [rdCell, h1, h2]
  rw [e1]
  clear e1
  have N1 := Lib.hid (rd_num p b a bad 2 hb (by decide)); rw [h1] at N1
  have N2 := Lib.hid (rd_num p b a1 bad1 1 hb (by decide)); rw [h2] at N2
  clear h1 h2
  go_enter Tryd.func69, Tryd.ntmps69
  go_wp2_with fail
  have hpl : p ≠ w.heap.size := Nat.ne_of_lt (blk_lt hp)
  have hp0 : IsRd (w.alloc (.cells #[.int .i64 0, .int .i64 0] 55)) p b a bad := blk_alloc hp
  have hb0 := blk_new w (.cells #[.int .i64 0, .int .i64 0] 55)
  have he0 := he.alloc (.cells #[.int .i64 0, .int .i64 0] 55)
  have hF0 := (Fr.refl (· = p) w).alloc (.cells #[.int .i64 0, .int .i64 0] 55)
  generalize hw0 : w.alloc (.cells #[.int .i64 0, .int .i64 0] 55) = w0 at hp0 hb0 he0 hF0 ⊢
  clear hw0 hp
  refine (N1.out _ he0 hp0 hpe).mono ?_; rintro e w1 ⟨rfl, hp1, hf1, he1⟩
  have hb1 := blk_fr hb0 hf1 (Ne.symm hpl)
  have hF1 := hF0.trans hf1
  clear hb0 hf1 he0 hF0 hp0
  go_wp2_with fail
  refine (N2.out _ he1 hp1 hpe).mono ?_; rintro e w2 ⟨rfl, hp2, hf2, he2⟩
  have hb2 := blk_fr hb1 hf2 (Ne.symm hpl)
  have hF2 := hF1.trans hf2
  have HB2 := Lib.hid hb2
  have q0 := (blk_cell hb2) 0
  have q1 := (blk_cell hb2) 1
  have qf := blk_frozen hb2
  simp only [List.getElem?_toArray, List.getElem?_cons_zero, List.getElem?_cons_succ] at q0 q1
  clear hb1 hf2 he1 hF1 hp1 hb2
  go_wp2_with fail
  have hF3 := (hF2.setCell (p := ⟨w.heap.size, 0, none⟩) (.inr (Nat.le_refl _)) (.int .i64 r)).setCell (p := ⟨w.heap.size, 1, none⟩) (.inr (Nat.le_refl _)) (.int .i64 c)
  have hp3 : IsRd _ p b a2 bad2 := blk_set_far (blk_set_far hp2 (a := ⟨w.heap.size, 0, none⟩) hpl (.int .i64 r)) (a := ⟨w.heap.size, 1, none⟩) hpl (.int .i64 c)
  have hb3 := blk_set (blk_set HB2.out 0 (.int .i64 r)) 1 (.int .i64 c)
  have he3 := et_fr he hF3 (Ne.symm hpe)
  generalize hw3 : (w2.setCell ⟨w.heap.size, 0, none⟩ (.int .i64 r)).setCell ⟨w.heap.size, 1, none⟩ (.int .i64 c) = w3 at hF3 hp3 hb3 he3 ⊢
  have s0 : w3.cell? ⟨w.heap.size, 0, none⟩ = some (.int .i64 r) := (blk_cell hb3) 0
  have s1 : w3.cell? ⟨w.heap.size, 1, none⟩ = some (.int .i64 c) := (blk_cell hb3) 1
  exact bodyPost_ret (v := .agg #[.int .i64 r, .int .i64 c]) (by simp [results, Tryd.results69, go_sem, s0, s1]) rfl ⟨rfl, hp3, hF3, he3⟩
end Go.Proofs.YtlpdanghcdajmaaDoor
