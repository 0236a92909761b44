/- Nodes (layer 23): the reader of a node: a leaf. -/
import Derived.Test.YtlpdanghcdajmaaDoorNz
import Derived.Deep.RegionLaw
namespace Go.Proofs.YtlpdanghcdajmaaDoor
open Go.RowKit
theorem Tryd.info97 : (Tryd.prog.info? 97).map (fun i => (i.zero, i.size, i.bytes)) = some (some (.agg #[.int .u32 0, .int .i64 0, .string ⟨#[]⟩, .int .i64 0]), 4, 40) := by kernel_rfl
theorem rdIs_stay {b : ByteArray} {s : List It × Int × Bool} {k : Nat} (h : (rdIs b s k).2.2 = true) : ∀ j, rdIs b s (k + j) = rdIs b s k
  | 0 => rfl
  | j + 1 => by
    show itStep b (rdIs b s (k + j)) = _
    rw [rdIs_stay h j]; unfold itStep; rw [if_pos h]
theorem rdIs_len {b : ByteArray} {s : List It × Int × Bool} : ∀ k, (rdIs b s k).1.length ≤ s.1.length + k
  | 0 => Nat.le_refl _
  | k + 1 => by
    have ih := rdIs_len (b := b) (s := s) k
    show (itStep b (rdIs b s k)).1.length ≤ _
    unfold itStep
    split
    · omega
    · simp only [List.length_append, List.length_cons, List.length_nil]; omega
theorem rdT_bd {b : ByteArray} {a n : Int} {bad : Bool} (h0 : 0 ≤ a) (h1 : a ≤ b.size) (hn : 0 ≤ n) : 0 ≤ (rdT b a bad n).2.1 ∧ (rdT b a bad n).2.1 ≤ b.size := by
  unfold rdT
  split
  · exact ⟨h0, h1⟩
  · rename_i hc
    simp only [Bool.or_eq_true, not_or, decide_eq_true_eq] at hc
    simp only; omega
theorem rdI_bd {b : ByteArray} {a : Int} {bad : Bool} (h0 : 0 ≤ a) (h1 : a ≤ b.size) : 0 ≤ (rdI b a bad).2.1 ∧ (rdI b a bad).2.1 ≤ b.size := by
  have hk := rdR_bd (b := b) (a := a) (bad := bad) (n := 4) (.inr (.inr rfl)) h0 h1
  have hz := rdR_bd (b := b) (a := (rdR b a bad 4).2.1) (bad := (rdR b a bad 4).2.2) (n := 2) (.inr (.inl rfl)) hk.1 hk.2.1
  unfold rdI
  simp only
  split
  · exact rdT_bd hz.1 hz.2.1 hz.2.2.1
  · have := rdR_bd (b := b) (bad := (rdR b (rdR b a bad 4).2.1 (rdR b a bad 4).2.2 2).2.2) (n := 2) (.inr (.inl rfl)) hz.1 hz.2.1
    exact ⟨this.1, this.2.1⟩
theorem rdIs_bd {b : ByteArray} {s : List It × Int × Bool} (h0 : 0 ≤ s.2.1) (h1 : s.2.1 ≤ b.size) : ∀ k, 0 ≤ (rdIs b s k).2.1 ∧ (rdIs b s k).2.1 ≤ b.size
  | 0 => ⟨h0, h1⟩
  | k + 1 => by
    have ih := rdIs_bd h0 h1 k
    show 0 ≤ (itStep b (rdIs b s k)).2.1 ∧ (itStep b (rdIs b s k)).2.1 ≤ b.size
    unfold itStep
    split
    · exact ih
    · exact rdI_bd ih.1 ih.2
section
variable {w w1 w2 : World} {p : Nat} {b : ByteArray} {a a' : Int} {bad bad' lf : Bool} {vI vK vD : Value} {n : Nd}
theorem set_et {q o : Nat} {u : Value} (h : EtIs w1) (hq : 1 ≠ q) : EtIs (w1.setCell ⟨q, o, none⟩ u) := by
  unfold EtIs at h ⊢
  rw [World.cell?_setCell_other _ _ _ _ (by first | (simp; done) | (simp; omega))]; exact h
theorem row_above {W' : World} {B : Nat} {e : TypeId} {s m : Nat} {v : Value} {xs : List Value} (h : w1.ownsRow B e s v m xs) (hW : ∀ k, B ≤ k → k < w1.heap.size → W'.heap[k]? = w1.heap[k]?) : W'.ownsRow B e s v m xs := by
  refine ⟨h.1, ?_⟩
  rcases h.2 with h2 | ⟨g, cap, cur, hv, hb, hg, hr⟩
  · exact .inl h2
  · exact .inr ⟨g, cap, cur, hv, hb, (hW g hb (blk_lt hg)).trans hg, hr⟩
/-- The node lies in blocks from B on: whoever has these has the node. -/
def NdUp (B : Nat) (w' : World) (v1 v2 v3 : Value) (n : Nd) : Prop := ∀ W' : World, (∀ k, B ≤ k → k < w'.heap.size → W'.heap[k]? = w'.heap[k]?) → NdAt W' v1 v2 v3 n
theorem NdUp.at {B : Nat} {w' : World} {v1 v2 v3 : Value} {n : Nd} (h : NdUp B w' v1 v2 v3 n) : NdAt w' v1 v2 v3 n := h w' fun _ _ _ => rfl
theorem NodeW.done (h : NodeW w w1 p b a bad lf vI vK vD n) (hpw : p < w.heap.size) (hw0 : 1 < w.heap.size) (hpe : p ≠ 1) (hlf : n.lf = lf) (l1 : n.I.length ≤ 255) (l2 : n.K.length ≤ 255) (l3 : n.D.length ≤ 256) :
    (set4 w1 w.heap.size (.bool lf) vI vK vD).heap[w.heap.size]? = some (.cells #[.bool n.lf, vI, vK, vD] 73 (0, 0)) ∧ NdUp w.heap.size (set4 w1 w.heap.size (.bool lf) vI vK vD) vI vK vD n ∧ IsRn (set4 w1 w.heap.size (.bool lf) vI vK vD) p b a bad ∧ Fr (· = p) w (set4 w1 w.heap.size (.bool lf) vI vK vD) ∧ EtIs (set4 w1 w.heap.size (.bool lf) vI vK vD) := by
  have hF := set4_fr h.fr (B := w.heap.size) (.inr (Nat.le_refl _)) (.bool lf) vI vK vD
  have hrow : ∀ {e : TypeId} {s m : Nat} {v : Value} {xs : List Value}, w1.ownsRow (w.heap.size + 2) e s v m xs → (set4 w1 w.heap.size (.bool lf) vI vK vD).ownsRow (w.heap.size + 2) e s v m xs := by
    intro e s m v xs ho
    unfold set4
    exact row_set (row_set (row_set (row_set ho (by omega) 0 _) (by omega) 1 _) (by omega) 2 _) (by omega) 3 _
  subst hlf
  exact ⟨set4_blk h.res _ _ _ _, fun W' hW => ⟨SlItems.of_own (row_above (hrow h.oI) fun k hk h2 => hW k (by omega) h2), SlInts.of_own (row_above (hrow h.oK) fun k hk h2 => hW k (by omega) h2), SlInts.of_own (row_above (hrow h.oD) fun k hk h2 => hW k (by omega) h2), by omega, by omega, by omega⟩, h.rd.far fun x hx => set4_far hx (by omega) _ _ _ _, hF, set_et (set_et (set_et (set_et h.et (by omega)) (by omega)) (by omega)) (by omega)⟩
/-- The node's block is written to. -/
theorem NodeW.leaf (h : NodeW w w1 p b a bad false vI vK vD n) (hpw : p < w.heap.size) (hpe : p ≠ 1) (hw0 : 1 < w.heap.size) : NodeW w (w1.setCell ⟨w.heap.size + 1, 0, none⟩ (.bool true)) p b a bad true vI vK vD ⟨true, n.I, n.K, n.D⟩ := by
  have hF := h.fr.setCell (p := ⟨w.heap.size + 1, 0, none⟩) (.inr (Nat.le_succ _)) (.bool true)
  refine ⟨h.rd.far fun x hx => blk_set_far hx (by first | (simp; done) | (simp; omega)) _, ?_, blk_set_far h.res (by simp) _, row_set h.oI (by omega) _ _, row_set h.oK (by omega) _ _, row_set h.oD (by omega) _ _, ?_, hF, by simpa [World.setCell] using h.sz⟩
  · have := blk_set h.nb 0 (.bool true); simpa using this
  · have hl := h.et
    unfold EtIs at hl ⊢
    rw [World.cell?_setCell_other _ _ _ _ (by first | (simp; done) | (simp; omega))]; exact hl
/-- An item is appended. -/
theorem NodeW.app (h : NodeW w w1 p b a bad lf vI vK vD n) {v : Value} {x : It} (hpw : p < w.heap.size) (hw0 : 1 < w.heap.size)
    (hown : w2.ownsRow (w.heap.size + 2) 97 4 v (n.I.length + 1) (itCells n.I ++ itCells [x])) (hg : w1.grownBy w2 vI.ownBlock) :
    NodeW w (w2.setCell ⟨w.heap.size + 1, 1, none⟩ v) p b a bad lf v vK vD ⟨n.lf, n.I ++ [x], n.K, n.D⟩ := by
  have k := h.kept hg (fun k hk => (h.oI.lt k hk).1) hpw hw0
  have hF := k.fr.setCell (p := ⟨w.heap.size + 1, 1, none⟩) (.inr (Nat.le_succ _)) v
  refine ⟨k.rd.far fun x hx => blk_set_far hx (by first | (simp; done) | (simp; omega)) _, ?_, blk_set_far k.res (by simp) _, ?_, row_set (h.oK.kept hg ?_) (by omega) _ _, row_set (h.oD.kept hg ?_) (by omega) _ _, set_et k.et (by omega), hF, by simpa [World.setCell] using k.sz⟩
  · have := blk_set k.nb 1 v; simpa using this
  · have := row_set hown (q := w.heap.size + 1) (by omega) 1 v
    simpa [itCells_append] using this
  · exact row_ne h.oK h.oI (by decide)
  · exact row_ne h.oD h.oI (by decide)
end
theorem row_form {w : World} {B : Nat} {e : TypeId} {s n : Nat} {v : Value} {xs : List Value} (h : w.ownsRow B e s v n xs) : ∃ p c, v = .slice p n c := by
  rcases h.2 with ⟨h1, h2⟩ | ⟨g, cap, cur, hv, _⟩
  · subst h2; exact ⟨none, 0, h1⟩
  · exact ⟨_, cap, hv⟩
theorem rd_w0 (w : World) (p : Nat) (b : ByteArray) (he : EtIs w) (hp : IsRn w p b 0 false) : ∃ w0, (w.alloc (.cells #[.bool false, .slice none 0 0, .slice none 0 0, .slice none 0 0] 73)).alloc (.cells #[.bool false, .slice none 0 0, .slice none 0 0, .slice none 0 0] 73) = w0 ∧ NodeW w w0 p b 0 false false (.slice none 0 0) (.slice none 0 0) (.slice none 0 0) Nd.nil :=
  ⟨_, rfl, (hp.alloc _).alloc _, by
    have h := blk_new (w.alloc (.cells #[.bool false, .slice none 0 0, .slice none 0 0, .slice none 0 0] 73)) (.cells #[.bool false, .slice none 0 0, .slice none 0 0, .slice none 0 0] 73)
    simpa using h, blk_alloc (blk_new _ _), World.ownsRow_nil _ _ _ _, World.ownsRow_nil _ _ _ _, World.ownsRow_nil _ _ _ _, (he.alloc _).alloc _, ((Fr.refl _ _).alloc _).alloc _, by simp⟩
set_option maxRecDepth 100000 in
set_option maxHeartbeats 4000000 in
theorem rn_node_leaf (p : Nat) (b : ByteArray) (hb : b.size ≤ 140737488351232) (a1 a2 c : Int) (b1 b2 : Bool) (h1 : rdR b 0 false 1 = (1, a1, b1)) (h2 : rdR b a1 b1 1 = (c, a2, b2)) (w : World) (he : EtIs w) (hp : IsRn w p b 0 false) (hpe : p ≠ 1) :
    Calls Tryd.prog 77 #[.pointer (some ⟨p, 0, none⟩)] w fun e w' => ∃ v1 v2 v3, e = .returned (.agg #[.bool true, v1, v2, v3]) ∧ NdUp w.heap.size w' v1 v2 v3 ⟨true, (rdIs b ([], a2, b2) c.toNat).1, [], []⟩ ∧ IsRn w' p b (rdIs b ([], a2, b2) c.toNat).2.1 (rdIs b ([], a2, b2) c.toNat).2.2 ∧ Fr (· = p) w w' ∧ EtIs w' := by
  have hk := rdR_bd (b := b) (a := 0) (bad := false) (n := 1) (.inl rfl) (by decide) (by omega)
  have N1 := Lib.hid (rn_num p b 0 false 1 hb (by decide)); rw [h1] at N1
  rw [h1] at hk
  have hz := rdR_bd (b := b) (a := a1) (bad := b1) (n := 1) (.inl rfl) hk.1 hk.2.1
  have N2 := Lib.hid (rn_num p b a1 b1 1 hb (by decide)); rw [h2] at N2
  rw [h2] at hz
  have hz3 : c < 256 := by have := hz.2.2.2; simpa using this
  have hc0 : 0 ≤ c := hz.2.2.1
  have hBD := Lib.hid (rdIs_bd (b := b) (s := ([], a2, b2)) hz.1 hz.2.1)
  have hLN := Lib.hid (rdIs_len (b := b) (s := ([], a2, b2)))
  have hSt := Lib.hid (fun k h j => rdIs_stay (b := b) (s := ([], a2, b2)) (k := k) h j)
  obtain ⟨C, rfl⟩ := Int.eq_ofNat_of_zero_le hc0
  simp only [Int.toNat_natCast]
  have hw0 := he.lt
  have hpw := hp.lt
  have hC : C < 256 := by omega
  clear hk hz hz3 hc0 h1 h2
  obtain ⟨i0, hi0, hi1, hi2, hi3⟩ := info_parts Tryd.info97
  go_enter Tryd.func77, Tryd.ntmps77
  go_wp2_with fail
  obtain ⟨w0, hw0e, W0⟩ := rd_w0 w p b he hp
  rw [hw0e]; clear hw0e hp he
  refine (N1.out _ W0.et W0.rd hpe).mono ?_; rintro e w1 ⟨rfl, hp1, hf1, he1⟩
  have W1 := Lib.hid (W0.call hp1 hf1 he1 hpw)
  clear hp1 hf1 he1 W0
  go_wp2_with fail
  refine (N2.out _ W1.out.et W1.out.rd hpe).mono ?_; rintro e w2 ⟨rfl, hp2, hf2, he2⟩
  have W2 := Lib.hid (W1.out.call hp2 hf2 he2 hpw)
  have hc2 := blk_cell W2.out.nb
  have hf2' := blk_frozen W2.out.nb
  clear hp2 hf2 he2
  go_wp2_with fail
  have W3 := Lib.hid (W2.out.leaf hpw hpe hw0)
  go_loopw [6] (fun iv wr => ∃ k : Nat, k ≤ C ∧ iv = .int .i64 k ∧ ∃ vI, NodeW w wr p b (rdIs b ([], a2, b2) k).2.1 (rdIs b ([], a2, b2) k).2.2 true vI (.slice none 0 0) (.slice none 0 0) ⟨true, (rdIs b ([], a2, b2) k).1, [], []⟩) (fun iv _ => C - (intOf iv).toNat)
  case atStart => exact ⟨0, Nat.zero_le _, rfl, .slice none 0 0, W3.out⟩
  case round =>
    obtain ⟨k, hk, rfl, vI, hW⟩ := hrel
    clear W1 W2 W3 hc2 hf2'
    obtain ⟨pI, cI, rfl⟩ := row_form hW.oI
    have hbd := hBD.out k
    have hln := hLN.out k
    have hstay := hSt.out k
    have hstep : rdIs b ([], a2, b2) (k + 1) = itStep b (rdIs b ([], a2, b2) k) := rfl
    obtain ⟨L, a, bad, hs⟩ : ∃ L a bad, rdIs b ([], a2, b2) k = (L, a, bad) := ⟨_, _, _, rfl⟩
    rw [hs] at hbd hln hstay hW hstep
    simp only [List.length_nil, Nat.zero_add] at hbd hln hstay hW
    have HW := Lib.hid hW
    have HS := Lib.hid hs
    have Hstep := Lib.hid hstep
    obtain ⟨ev, hrd, hev⟩ := hW.rd
    have hcr := blk_cell hrd
    have hcn := blk_cell hW.nb
    have hcf := blk_frozen hW.res
    have hcs := blk_cell hW.res
    clear hrd hs hstep hW
    by_cases hkC : k < C
    · have hi : (k : Int) < (C : Int) := by omega
      rcases hev with ⟨rfl, rfl⟩ | ⟨rfl, q, rfl⟩
      · obtain ⟨⟨xk, xs, xt, xp⟩, a', bad', hx⟩ : ∃ (x : It) (a' : Int) (bad' : Bool), rdI b a false = (x, a', bad') := ⟨_, _, _, rfl⟩
        have NI := Lib.hid (rn_item p b a false hb hbd.1 hbd.2)
        rw [hx] at NI
        simp only [It.cells] at NI
        have e1 : rdIs b ([], a2, b2) (k + 1) = (L ++ [⟨xk, xs, xt, xp⟩], a', bad') := by rw [Hstep.out]; simp [itStep, hx]
        have E1 := Lib.hid e1
        have q1 : wr.cell? ⟨w.heap.size + 1, 1, none⟩ = some (.slice pI L.length cI) := hcn 1
        clear hx e1 hcf hcs
        have hsz := HW.out.sz
        go_wp2_with fail
        clear hcr hcn
        have q1d : wr.drew.cell? ⟨w.heap.size + 1, 1, none⟩ = some (.slice pI L.length cI) := q1
        go_region_law
          (first
            | (go_simp; go_at_call 99; refine (NI.out _ HW.out.drew.et HW.out.drew.rd hpe).mono ?_; rintro e x1 ⟨rfl, hp1, hf1, he1⟩; have X1 := Lib.hid (HW.out.drew.call hp1 hf1 he1 hpw); have k1 := (blk_cell X1.out.nb) 1; simp only [List.getElem?_toArray, List.getElem?_cons_zero, List.getElem?_cons_succ] at k1; have k1a := (blk_cell (blk_alloc (o := .cells #[.int .u32 xk, .int .i64 xs, .string xt, .int .i64 xp] 97) X1.out.nb)) 1; simp only [List.getElem?_toArray, List.getElem?_cons_zero, List.getElem?_cons_succ] at k1a)
            | (refine step_append_lies _ (by rfl) _ _ _ (by rfl) (w.heap.size + 2) 97 i0 _ 4 40 Tryd.underlying69 hi0 hi1 hi2 hi3 rfl (by decide) (.slice pI L.length cI) L.length (itCells L) (by rfl) (X1.out.oI.alloc _) ⟨x1.heap.size, 0, none⟩ 1 1 [.int .u32 xk, .int .i64 xs, .string xt, .int .i64 xp] (by rfl) (by rfl) (World.news_of_block (cs := #[.int .u32 xk, .int .i64 xs, .string xt, .int .i64 xp]) (t := 97) (fr := (0, 0)) (heap_alloc_new x1 _)) (by simp [Value.oneCell']) (by decide) (by simp only [maxLen]; omega) (by omega) (by have := X1.out.sz; simp; omega) (x1.heap.size + 1) (by simp) ?_; intro g cap x2 hown hgrow hat hlt; have K2 := (X1.out.alloc (.cells #[.int .u32 xk, .int .i64 xs, .string xt, .int .i64 xp] 97)).kept hgrow (fun k hk => (X1.out.oI.lt k hk).1) hpw hw0; have k2 := (blk_cell K2.nb) 1; have k3 := blk_frozen K2.nb; simp only [List.getElem?_toArray, List.getElem?_cons_zero, List.getElem?_cons_succ] at k2))
        all_goals
          have W2 := Lib.hid (X1.out.alloc (.cells #[.int .u32 xk, .int .i64 xs, .string xt, .int .i64 xp] 97))
          have W4 := W2.out.app (x := ⟨xk, xs, xt, xp⟩) hpw hw0 (by rw [itCells_one]; exact hown) hgrow
          clear W2 K2 k2 k3 q1d q1
          go_wp2_with fail
          go_roundw
          case rel =>
            refine ⟨k + 1, by omega, by go_num, .slice (some ⟨g, 0, none⟩) (L.length + 1) cap, ?_⟩
            rw [E1.out]
            exact W4
          case measure => simp [intOf]; omega
      · -- it is bad
        have hfin : Hid (rdIs b ([], a2, b2) C = (L, a, true)) := by
          show _ = _
          obtain ⟨j, rfl⟩ : ∃ j, C = k + j := ⟨C - k, by omega⟩
          exact (hstay rfl j)
        have D := HW.out.done hpw hw0 hpe rfl (by simp only; omega) (by simp) (by simp)
        have s0 := blk_cell D.1 0
        have s1 := blk_cell D.1 1
        have s2 := blk_cell D.1 2
        have s3 := blk_cell D.1 3
        simp only [List.getElem?_toArray, List.getElem?_cons_zero, List.getElem?_cons_succ] at s0 s1 s2 s3
        have D2 := Lib.hid D.2
        clear D
        unfold set4 at s0 s1 s2 s3 D2
        go_wp2_with fail
        refine bodyPost_ret (v := .agg #[.bool true, .slice pI L.length cI, .slice none 0 0, .slice none 0 0]) (by simp only [results, Tryd.results77]; simp [go_sem, s0, s1, s2, s3]) rfl ⟨_, _, _, rfl, ?_⟩
        rw [hfin.out]
        exact D2.out
    · have hi : ¬ (k : Int) < (C : Int) := by omega
      obtain rfl : k = C := by omega
      have D := HW.out.done hpw hw0 hpe rfl (by simp only; omega) (by simp) (by simp)
      have s0 := blk_cell D.1 0
      have s1 := blk_cell D.1 1
      have s2 := blk_cell D.1 2
      have s3 := blk_cell D.1 3
      simp only [List.getElem?_toArray, List.getElem?_cons_zero, List.getElem?_cons_succ] at s0 s1 s2 s3
      have D2 := Lib.hid D.2
      clear D
      unfold set4 at s0 s1 s2 s3 D2
      go_wp2_with fail
      refine bodyPost_ret (v := .agg #[.bool true, .slice pI L.length cI, .slice none 0 0, .slice none 0 0]) (by simp only [results, Tryd.results77]; simp [go_sem, s0, s1, s2, s3]) rfl ⟨_, _, _, rfl, ?_⟩
      rw [HS.out]
      exact D2.out
end Go.Proofs.YtlpdanghcdajmaaDoor
