/- Nodes (layer 23): node.Encode. -/
import Derived.Test.YtlpdanghcdajmaaDoorNu
import Derived.Test.YtlpdanghcdajmaaDoorEw
import Derived.Deep.RegionHeld3
namespace Go.Proofs.YtlpdanghcdajmaaDoor
open Go.RowKit
/-- A call that changed block p alone, p among the new ones. -/
theorem Below.fr {B p : Nat} {w a w' : World} (h : Below B w a) (hf : Fr (· = p) a w') (hp : B ≤ p) (hB : B ≤ a.heap.size) : Below B w w' :=
  ⟨hf.os.trans h.os, hf.tape.trans h.tape, hf.output.trans h.output, Nat.le_trans h.size hf.size, fun k hk => (hf.block k (by omega) (by omega)).trans (h.block k hk)⟩
/-- The writer at block p holds s. -/
def IsWn (w : World) (p : Nat) (s : ByteArray) : Prop := w.heap[p]? = some (.cells #[.string s] 131 (0, 0))
theorem wn_num (p : Nat) (s : ByteArray) (v n : Int) (h0 : 0 ≤ v) (h1 : v < 9223372036854775808) (hs : s.size ≤ 1000000) (w : World) (he : EtIs w) (hp : IsWn w p s) (hpe : p ≠ 1) :
    Calls Tryd.prog 75 #[.pointer (some ⟨p, 0, none⟩), .int .i64 v, .int .i64 n] w fun e w' => e = .returned (.tuple #[]) ∧ IsWn w' p (s ++ (numR v n).1) ∧ Fr (· = p) w w' ∧ EtIs w' := by
  have hw : IntKind.u64.wrap v = v := by rw [IntKind.wrap_u64, Int.emod_eq_of_lt h0 (by omega)]
  have Hw := Lib.hid hw; clear hw
  have Hp := Lib.hid hp; clear hp
  have hz := numR_size v n
  obtain ⟨x, c, hx⟩ : ∃ x c, numR v n = (x, c) := ⟨_, _, rfl⟩
  rw [hx] at hz ⊢
  have Hx := Lib.hid hx; clear hx
  have hxs : s.size + x.size ≤ 9223372036854775807 := by simp only at hz; omega
  clear hz
  go_enter Tryd.func75, Tryd.ntmps75
  go_wp2_with fail
  try rw [Hw.out]
  refine (pack_Num_eq Hx.out h0 (by omega) _ he).mono ?_; rintro e w1 ⟨rfl, hb1⟩
  have Hq := Lib.hid (blk_below Hp.out hb1)
  have he1 := he.below hb1
  have hc1 := blk_cell Hq.out 0
  have hf1 := blk_frozen Hq.out 0
  simp only [List.getElem?_toArray, List.getElem?_cons_zero] at hc1
  go_wp2_with fail
  go_end0
  have hfr : Fr (· = p) w (w1.setCell ⟨p, 0, none⟩ (.string (s ++ x))) := (Fr.of_below (S := (· = p)) hb1).setCell (p := ⟨p, 0, none⟩) (.inl rfl) _
  refine ⟨rfl, ?_, hfr, ?_⟩
  · have := blk_set Hq.out 0 (.string (s ++ x))
    simpa [IsWn] using this
  · have hl := he.lt
    unfold EtIs at he ⊢
    rw [hfr.cell hl (Ne.symm hpe)]; exact he
theorem foldl_size {α : Type} (f : α → ByteArray) (c : Nat) : ∀ (l : List α) (s : ByteArray), (∀ x ∈ l, (f x).size ≤ c) → (l.foldl (fun s x => s ++ f x) s).size ≤ s.size + c * l.length
  | [], s, _ => by simp
  | x :: l, s, h => by
    have ih := foldl_size f c l (s ++ f x) fun y hy => h y (List.mem_cons_of_mem _ hy)
    have hx := h x (List.mem_cons_self ..)
    rw [ByteArray.size_append] at ih
    have e : c * (x :: l).length = c * l.length + c := by rw [List.length_cons, Nat.mul_succ]
    rw [List.foldl_cons, e]; omega
theorem foldl_step {α : Type} (f : α → ByteArray) (l : List α) (s : ByteArray) {k : Nat} (h : k < l.length) : (l.take (k + 1)).foldl (fun s x => s ++ f x) s = (l.take k).foldl (fun s x => s ++ f x) s ++ f l[k] := by
  rw [List.take_succ_eq_append_getElem h, List.foldl_append]; rfl
theorem good_text {x : It} (h : goodI x = true) : (x.size ≤ 40 → (x.text.size : Int) = x.size) ∧ (¬ x.size ≤ 40 → x.text = ⟨#[]⟩ ∧ 0 ≤ x.page ∧ x.page ≤ 4096) ∧ 0 ≤ x.size ∧ x.size ≤ 2000 := by
  unfold goodI at h
  split at h
  · rename_i hz
    simp only [Bool.and_eq_true, decide_eq_true_eq, beq_iff_eq] at h
    exact ⟨fun _ => h.1.2, fun hn => absurd hz hn, h.1.1, by omega⟩
  · rename_i hz
    simp only [Bool.and_eq_true, decide_eq_true_eq, pageB] at h
    refine ⟨fun hn => absurd hn hz, fun _ => ⟨?_, h.2.1, h.2.2⟩, by omega, h.1.1⟩
    apply bytes_ext; rw [← ByteArray.toList_eq]; simpa using h.1.2
theorem encI_size {x : It} (h : goodI x = true) : (encI x).size ≤ 64 := by
  have h1 := numR_size x.key 4
  have h2 := numR_size x.size 2
  have h3 := numR_size x.page 2
  obtain ⟨g1, g2, g3, _⟩ := good_text h
  unfold encI
  rw [ByteArray.size_append, ByteArray.size_append]
  split
  · rename_i hz; have := g1 hz; omega
  · omega
theorem emp_append (b : ByteArray) : (⟨#[]⟩ : ByteArray) ++ b = b := bytes_ext (by rw [list_append]; rfl)
/-- The leaf's bytes so far. -/
def leafS (n : Nd) (k : Nat) : ByteArray := (n.I.take k).foldl (fun s x => s ++ encI x) ((⟨#[]⟩ : ByteArray) ++ (numR 1 1).1 ++ (numR n.I.length 1).1)
theorem leafS_size {n : Nd} (hg : n.good = true) (k : Nat) : (leafS n k).size ≤ 20000 := by
  obtain ⟨g1, g2, _⟩ := good_items hg
  have h := foldl_size encI 64 (n.I.take k) ((⟨#[]⟩ : ByteArray) ++ (numR 1 1).1 ++ (numR n.I.length 1).1) fun x hx => encI_size (g1 x (List.mem_of_mem_take hx))
  have h1 := numR_size 1 1
  have h2 := numR_size n.I.length 1
  have h0 : (⟨#[]⟩ : ByteArray).size = 0 := rfl
  rw [ByteArray.size_append, ByteArray.size_append] at h
  rw [List.length_take] at h
  unfold leafS; omega
theorem leafS_bytes {n : Nd} (hl : n.lf = true) : leafS n n.I.length = n.bytes := by
  unfold leafS Nd.bytes
  rw [List.take_length, if_pos hl, emp_append]
set_option maxRecDepth 100000 in
set_option maxHeartbeats 4000000 in
theorem node_Encode_leaf (I : List It) (v1 v2 v3 : Value) (w : World) (hn : NdAt w v1 v2 v3 ⟨true, I, [], []⟩) (ht : Nd.typed ⟨true, I, [], []⟩) (hg : Nd.good ⟨true, I, [], []⟩ = true) (hs : Nd.size ⟨true, I, [], []⟩ ≤ 236) (he : EtIs w) :
    Calls Tryd.prog 44 #[.agg #[.bool true, v1, v2, v3]] w fun e w' => e = .returned (.tuple #[.string (Nd.bytes ⟨true, I, [], []⟩), .int .i64 0]) ∧ Below w.heap.size w w' := by
  obtain ⟨p1, c1, p2, c2, p3, c3, rfl, rfl, rfl⟩ := hn.form
  simp only [List.length_nil] at *
  have hlt := he.lt
  have hS := Lib.hid (fun W h => node_Size ⟨true, I, [], []⟩ (.slice p1 I.length c1) (.slice p2 0 c2) (.slice p3 0 c3) W h)
  have hz2 := size_pos ht hg
  have hLS := Lib.hid (leafS_size hg)
  have hLB := Lib.hid (leafS_bytes (n := ⟨true, I, [], []⟩) rfl)
  have hI := Lib.hid (good_items hg).1
  have hT := Lib.hid ht.I
  have hl : I.length ≤ 255 := (good_items hg).2.1
  obtain ⟨z, hz⟩ : ∃ z, z = Nd.size ⟨true, I, [], []⟩ := ⟨_, rfl⟩
  simp only [← hz] at hS hz2 hs
  clear hz hg ht
  have hz0 : (z == 0) = false := by rw [beq_eq_false_iff_ne]; omega
  have hz1 : ¬ z = 0 := by omega
  have hz3 : ¬ 236 < z := by omega
  obtain ⟨w0, hw0⟩ : ∃ w0, w0 = w.alloc (.cells #[.bool true, .slice p1 I.length c1, .slice p2 0 c2, .slice p3 0 c3] 73) := ⟨_, rfl⟩
  have B0 : Hid (Below w.heap.size w w0) := by show Below _ _ _; rw [hw0]; exact below_a1 _ _
  have H0 : Hid (NdAt w0 (.slice p1 I.length c1) (.slice p2 0 c2) (.slice p3 0 c3) ⟨true, I, [], []⟩) := by show NdAt _ _ _ _ _; exact hn.below B0.out
  have bx : Hid (w0.heap[w.heap.size]? = some (.cells #[.bool true, .slice p1 I.length c1, .slice p2 0 c2, .slice p3 0 c3] 73 (0, 0))) := by show _ = _; rw [hw0]; exact blk_new _ _
  have HN := Lib.hid hn
  have HE := Lib.hid he
  clear hn he
  go_enter Tryd.func44, Tryd.ntmps44
  have hc := blk_cell bx.out
  go_wp2_with fail
  rw [← hw0]
  refine (hS.out _ H0.out).mono ?_; rintro e w1 ⟨rfl, hb1⟩
  have B1 := Lib.hid (bstep B0.out hb1)
  have bx1 := Lib.hid (blk_below bx.out hb1)
  have he1 := Lib.hid (HE.out.below B1.out)
  have hz4 : w.heap.size < w1.heap.size := blk_lt bx1.out
  have hc1 := blk_cell bx1.out
  clear hc hb1
  go_wp2_with fail
  obtain ⟨p, hpd⟩ : ∃ p, p = w1.heap.size := ⟨_, rfl⟩
  have hpb : w.heap.size ≠ p := by omega
  have hpe : p ≠ 1 := by omega
  obtain ⟨w2, hw2⟩ : ∃ w2, w2 = w1.alloc (.cells #[.string ⟨#[]⟩] 131) := ⟨_, rfl⟩
  have hp2 : IsWn w2 p ⟨#[]⟩ := by rw [hw2, hpd]; exact blk_new _ _
  have bx2 : Hid (w2.heap[w.heap.size]? = some (.cells #[.bool true, .slice p1 I.length c1, .slice p2 0 c2, .slice p3 0 c3] 73 (0, 0))) := by show _ = _; rw [hw2]; exact blk_alloc bx1.out
  have he2 : EtIs w2 := by rw [hw2]; exact he1.out.alloc _
  have B2 : Hid (Below w.heap.size w w2) := by show Below _ _ _; rw [hw2]; exact B1.out.alloc (by omega) _
  rw [← hw2, ← hpd]
  have hpw : w.heap.size < p := by omega
  clear hw2 hpd hc1 hz4
  refine (wn_num p _ 1 1 (by omega) (by omega) (by decide) _ he2 hp2 hpe).mono ?_; rintro e w3 ⟨rfl, hp3, hf3, he3⟩
  have bx3 := Lib.hid (blk_fr bx2.out hf3 hpb)
  have B3 := Lib.hid (Below.fr B2.out hf3 (by omega) B2.out.size)
  have hc3 := blk_cell bx3.out
  have hy3 := numR_size 1 1
  clear hf3
  go_wp2_with fail
  refine (wn_num p _ I.length 1 (by omega) (by omega) (by rw [ByteArray.size_append]; have h0 : (⟨#[]⟩ : ByteArray).size = 0 := rfl; omega) _ he3 hp3 hpe).mono ?_; rintro e w4 ⟨rfl, hp4, hf4, he4⟩
  have bx4 := Lib.hid (blk_fr bx3.out hf4 hpb)
  have B4 := Lib.hid (Below.fr B3.out hf4 (by omega) B3.out.size)
  have hc4 := blk_cell bx4.out
  have hp4' : Hid (IsWn w4 p (leafS ⟨true, I, [], []⟩ 0)) := hp4
  have he4' := Lib.hid he4
  clear hf4 hp4 he4 hc3
  go_wp2_with fail
  go_loopw [32] (fun iv wr => ∃ k : Nat, k ≤ I.length ∧ iv = .int .i64 k ∧ IsWn wr p (leafS ⟨true, I, [], []⟩ k) ∧ EtIs wr ∧ Below w.heap.size w wr) (fun iv _ => I.length - (intOf iv).toNat)
  case atStart => exact ⟨0, Nat.zero_le _, rfl, hp4'.out, he4'.out, B4.out⟩
  case round =>
    obtain ⟨k, hk, rfl, hp, he, hB⟩ := hrel
    have HB := Lib.hid hB
    have HP := Lib.hid hp
    have HE := Lib.hid he
    have hzr := hB.size
    have hpl : p < wr.heap.size := blk_lt hp
    clear hB hp he hc4
    by_cases hltk : k < I.length
    · have hi : (k : Int) < (I.length : Int) := by omega
      obtain ⟨b, off, rfl, hIt⟩ := (HN.out.below HB.out).I.at hltk
      have c0 := hIt.key k hltk
      have c1 := hIt.size k hltk
      have c2 := hIt.text k hltk
      have c3 := hIt.page k hltk
      have hgx : goodI I[k] = true := hI.out _ (List.getElem_mem hltk)
      have hkx : 0 ≤ I[k].key ∧ I[k].key < 4294967296 := hT.out _ (List.getElem_mem hltk)
      have hst := foldl_step encI I ((⟨#[]⟩ : ByteArray) ++ (numR 1 1).1 ++ (numR I.length 1).1) hltk
      have hst' : leafS ⟨true, I, [], []⟩ (k + 1) = leafS ⟨true, I, [], []⟩ k ++ encI I[k] := hst
      have hls := hLS.out k
      obtain ⟨x, hx⟩ : ∃ x, x = I[k] := ⟨_, rfl⟩
      rw [← hx] at c0 c1 c2 c3 hgx hkx hst'
      obtain ⟨g1, g2, g3, g4⟩ := good_text hgx
      have HST := Lib.hid hst'
      clear hx hIt hst hst' hgx
      obtain ⟨S, hS⟩ : ∃ S, S = leafS ⟨true, I, [], []⟩ k := ⟨_, rfl⟩
      rw [← hS] at hls HP HST
      clear hS
      obtain ⟨xk, xs, xt, xp⟩ := x
      simp only at c0 c1 c2 c3 g1 g2 g3 g4 hkx
      have hw1 : IntKind.i64.wrap xk = xk := IntWalk.i64_in _ (by omega)
      obtain ⟨q, hq⟩ : ∃ q, q = wr.heap.size := ⟨_, rfl⟩
      obtain ⟨wa, hwa⟩ : ∃ wa, wa = wr.alloc (.cells #[.int .u32 xk, .int .i64 xs, .string xt, .int .i64 xp] 97) := ⟨_, rfl⟩
      have bqa : Hid (wa.heap[q]? = some (.cells #[.int .u32 xk, .int .i64 xs, .string xt, .int .i64 xp] 97 (0, 0))) := by show _ = _; rw [hwa, hq]; exact blk_new _ _
      have hpa : IsWn wa p S := by rw [hwa]; exact blk_alloc HP.out
      have hea : EtIs wa := by rw [hwa]; exact HE.out.alloc _
      have BA : Hid (Below w.heap.size w wa) := by show Below _ _ _; rw [hwa]; exact HB.out.alloc hzr _
      have hqp : q ≠ p := by omega
      have hqw : w.heap.size ≤ q := by omega
      have hca := blk_cell bqa.out
      have hy1 := numR_size xk 4
      have hy2 := numR_size xs 2
      have hy3 := numR_size xp 2
      go_wp2_with fail
      rw [← hwa, ← hq]
      clear hwa hpl hq c0 c1 c2 c3
      refine (wn_num p _ xk 4 (by omega) (by omega) (by omega) _ hea hpa hpe).mono ?_; rintro e wb ⟨rfl, hpB, hfB, heB⟩
      have bqb := Lib.hid (blk_fr bqa.out hfB hqp)
      have BB := Lib.hid (Below.fr BA.out hfB (by omega) BA.out.size)
      have hcb := blk_cell bqb.out
      clear hfB hca hpa hea
      go_wp2_with fail
      refine (wn_num p _ xs 2 (by omega) (by omega) (by rw [ByteArray.size_append]; omega) _ heB hpB hpe).mono ?_; rintro e wc ⟨rfl, hpC, hfC, heC⟩
      have bqc := Lib.hid (blk_fr bqb.out hfC hqp)
      have BC := Lib.hid (Below.fr BB.out hfC (by omega) BB.out.size)
      have hcc := blk_cell bqc.out
      have hpc := blk_cell hpC
      have hpf := blk_frozen hpC
      have HPC := Lib.hid hpC
      have HEC := Lib.hid heC
      clear hfC hcb hpB heB hpC heC
      obtain ⟨T, hT2⟩ : ∃ T, T = S ++ (numR xk 4).1 ++ (numR xs 2).1 := ⟨_, rfl⟩
      have hTs : T.size ≤ 20016 := by rw [hT2, ByteArray.size_append, ByteArray.size_append]; omega
      rw [← hT2] at hpc HPC
      have HT2 := Lib.hid hT2
      clear hT2
      have htx : xt.size ≤ 40 := by
        by_cases hz : xs ≤ 40
        · have := g1 hz; omega
        · rw [(g2 (by omega)).1]; decide
      have hsum : ¬ 9223372036854775807 < T.size + xt.size := by omega
      go_wp2_with fail
      go_region
      obtain ⟨wd, hwd⟩ : ∃ wd, wd = (wc.setCell ⟨p, 0, none⟩ (.string (T ++ xt))).drew := ⟨_, rfl⟩
      rw [← hwd]
      have BD0 := BC.out.setCell (p := ⟨p, 0, none⟩) (by show w.heap.size ≤ p; omega) (.string (T ++ xt))
      have BD : Hid (Below w.heap.size w wd) := by show Below _ _ _; rw [hwd]; exact ⟨BD0.os, BD0.tape, BD0.output, BD0.size, BD0.block⟩
      have bqd : Hid (wd.heap[q]? = some (.cells #[.int .u32 xk, .int .i64 xs, .string xt, .int .i64 xp] 97 (0, 0))) := by show _ = _; rw [hwd]; exact blk_set_far bqc.out hqp _
      have hpD0 : IsWn (wc.setCell ⟨p, 0, none⟩ (.string (T ++ xt))) p (T ++ xt) := by have := blk_set HPC.out 0 (.string (T ++ xt)); simpa [IsWn] using this
      have hpD : Hid (IsWn wd p (T ++ xt)) := by show IsWn _ _ _; rw [hwd]; exact hpD0
      have heD : Hid (EtIs wd) := by show EtIs _; exact (‹Hid (EtIs w)›).out.below BD.out
      have hcd := blk_cell bqd.out
      clear hwd BD0 hpD0 hcc hpc hpf
      by_cases hz : xs ≤ 40
      · have e1 : leafS ⟨true, I, [], []⟩ (k + 1) = T ++ xt := by
          rw [HST.out, HT2.out]; unfold encI; simp only [if_pos hz]; simp only [ByteArray.append_assoc]
        go_wp2_with fail
        go_roundw
        case rel => exact ⟨k + 1, by omega, by go_num, by rw [e1]; exact hpD.out, heD.out, BD.out⟩
        case measure => simp [intOf]; omega
      · obtain ⟨t1, t2, t3⟩ := g2 (by omega)
        have e1 : leafS ⟨true, I, [], []⟩ (k + 1) = T ++ xt ++ (numR xp 2).1 := by
          rw [HST.out, HT2.out, t1]; unfold encI; simp only [if_neg hz]; simp only [ByteArray.append_assoc, emp_append]
        have E1 := Lib.hid e1
        have hz' : 40 < xs := by omega
        clear e1
        go_wp2_with fail
        refine (wn_num p _ xp 2 (by omega) (by omega) (by rw [ByteArray.size_append]; omega) _ heD.out hpD.out hpe).mono ?_; rintro e wf ⟨rfl, hpF, hfF, heF⟩
        have BF := Lib.hid (Below.fr BD.out hfF (by omega) BD.out.size)
        go_wp2_with fail
        go_roundw
        case rel => exact ⟨k + 1, by omega, by go_num, by rw [E1.out]; exact hpF, heF, BF.out⟩
        case measure => simp [intOf]; omega
    · have hi : ¬ (k : Int) < (I.length : Int) := by omega
      obtain rfl : k = I.length := by omega
      rw [hLB.out] at HP
      have hpc := blk_cell HP.out
      go_wp2_with fail
      go_ret2
      exact ⟨rfl, HB.out⟩
end Go.Proofs.YtlpdanghcdajmaaDoor
