/- Frames (layer 18): FrameSizes. -/
import Derived.Test.YtdbiebnnogjccaaGreatDoorDa
import Derived.Test.YtdbiebnnogjccaaGreatDoorFf
import Derived.Test.YtdbiebnnogjccaaGreatDoorDb
import Derived.Test.YtdbiebnnogjccaaGreatDoorSl
import Derived.Maps.AppendAt
namespace Go.Proofs.YtdbiebnnogjccaaGreatDoor
open Go.RowKit
set_option maxHeartbeats 1000000 in
theorem keep_Zeros (m : Nat) (hm : m ≤ 16777216) (w : World) : Calls Tryz.prog 94 #[.int .i64 (m : Int)] w fun e w' => e = .returned (.string (ofL (List.replicate m 0))) ∧ Below w.heap.size w w' := by
  obtain ⟨MC, hmk, hcv⟩ := make_zeros m hm
  have hZ : strOfNums (List.replicate m 0) = ofL (List.replicate m 0) := bytes_ext (by rw [strOfNums_data, ofL_list]; simp)
  rw [hZ] at hcv
  have h0 : ¬ (m : Int) < 0 := by omega
  clear hZ
  go_enter Tryz.func94, Tryz.ntmps94
  go_wp2_with fail
  go_ret
  exact ⟨rfl, below_a1 _ _⟩
theorem be2_small : ∀ i < 10, beBytes (i : Nat) 2 = [0, UInt8.ofNat i] := by decide
theorem sec_bytes {n : Int} {all : List UInt8} {k i : Nat} (hi : i < k) (hk : k ≤ 9) : ∃ a b c d r, secF n all k i = a :: b :: c :: d :: 0 :: UInt8.ofNat i :: 0 :: UInt8.ofNat k :: r := by
  have h := mkL_length n
  match hm : mkL n, h with
  | [a, b, c, d], _ => exact ⟨a, b, c, d, (all.drop (i * 244)).take 244 ++ [a, b, c, d], by unfold secF; rw [hm, be2_small i (by omega), be2_small k (by omega)]; rfl⟩
theorem toNat_small {i : Nat} (h : i < 256) : (UInt8.ofNat i).toNat = i := by simp; omega
end Go.Proofs.YtdbiebnnogjccaaGreatDoor

/- Frames (layer 18): a beginning of a new sector over an elder one: plain words. -/
namespace Go.Proofs.YtdbiebnnogjccaaGreatDoor
def tornL (a b : List UInt8) (i : Nat) : List UInt8 := b.take i ++ a.drop i
section
variable {a b : List UInt8} {o n : Int}
theorem tornL_length (ha : a.length = 256) (hb : b.length = 256) {i : Nat} (hi : i ≤ 256) : (tornL a b i).length = 256 := by
  simp [tornL, ha, hb]; omega
theorem torn_low (_ha : a.length = 256) (hb : b.length = 256) {i : Nat} (hi : i ≤ 252) : (tornL a b i).drop 252 = a.drop 252 := by
  unfold tornL
  have l : (b.take i).length = i := by rw [List.length_take, hb]; omega
  rw [List.drop_append, l, List.drop_eq_nil_of_le (by rw [l]; exact hi), List.nil_append, List.drop_drop]
  congr 1; omega
theorem torn_high (_ha : a.length = 256) (hb : b.length = 256) {i : Nat} (hi : 252 ≤ i) (h2 : i ≤ 256) : (tornL a b i).drop 252 = (b.drop 252).take (i - 252) ++ (a.drop 252).drop (i - 252) := by
  unfold tornL
  have l : (b.take i).length = i := by rw [List.length_take, hb]; omega
  have e1 : i + (i - 252) ≠ 0 := by omega
  obtain ⟨j, rfl⟩ : ∃ j, i = 252 + j := ⟨i - 252, by omega⟩
  have e2 : 252 + j - 252 = j := by omega
  have e3 : 252 - (252 + j) = 0 := by omega
  rw [List.drop_append, l, e2, e3, List.drop_zero, List.drop_take, e2, List.drop_drop]
theorem torn_head (_ha : a.length = 256) (hb : b.length = 256) {i : Nat} (hi : 252 ≤ i) (h2 : i ≤ 256) : (tornL a b i).take 252 = b.take 252 := by
  unfold tornL
  rw [List.take_append_of_le_length (by rw [List.length_take, hb]; omega), List.take_take]
  congr 1; omega
theorem torn_take4 (ha : a.length = 256) (hb : b.length = 256) {i : Nat} (hi : 252 ≤ i) (h2 : i ≤ 256) : (tornL a b i).take 4 = b.take 4 := by
  have h := congrArg (List.take 4) (torn_head ha hb hi h2)
  rwa [List.take_take, List.take_take] at h
theorem torn_zero : tornL a b 0 = a := by simp [tornL]
theorem torn_say (ho : a.length = 256) (hb : b.length = 256) (o0 : 0 < o) (o1 : o < 4294967296) (n0 : 0 < n) (n1 : n < 4294967296) (hne : o ≠ n)
    (a4 : a.take 4 = mkL o) (a5 : a.drop 252 = mkL o) (b4 : b.take 4 = mkL n) (b5 : b.drop 252 = mkL n) {i : Nat} (hi : i ≤ 256) :
    (numF (tornL a b i) = 0 ∧ tornL a b i ≠ b ∧ i ≠ 0) ∨ (numF (tornL a b i) = o ∧ tornL a b i ≠ b) ∨ (numF (tornL a b i) = n ∧ tornL a b i = b ∧ i ≠ 0) := by
  have hl := tornL_length ho hb hi
  have hmk : mkL o ≠ mkL n := fun h => hne (mkL_inj (by omega) n1 (by omega) o1 h)
  by_cases c : i ≤ 252
  · have h5 := torn_low ho hb c
    rw [a5] at h5
    have hx : tornL a b i ≠ b := fun h => by rw [h, b5] at h5; exact hmk h5.symm
    by_cases q : (tornL a b i).take 4 = (tornL a b i).drop 252
    · refine .inr (.inl ⟨?_, hx⟩)
      unfold numF
      rw [if_pos ⟨hl, q⟩, q, h5, valLE_mk (by omega) o1]
    · refine .inl ⟨?_, hx, fun h => ?_⟩
      · unfold numF; rw [if_neg (fun h => q h.2)]
      · subst h; rw [torn_zero, a4, a5] at q; exact q rfl
  · have h4 := torn_take4 ho hb (by omega : 252 ≤ i) hi
    have hh := torn_head ho hb (by omega : 252 ≤ i) hi
    rw [b4] at h4
    by_cases q : (tornL a b i).take 4 = (tornL a b i).drop 252
    · refine .inr (.inr ⟨?_, ?_, by omega⟩)
      · unfold numF
        rw [if_pos ⟨hl, q⟩, h4, valLE_mk (by omega) n1]
      · rw [← List.take_append_drop 252 (tornL a b i), hh, ← q, h4, ← b5, List.take_append_drop]
    · refine .inl ⟨?_, fun h => ?_, by omega⟩
      · unfold numF; rw [if_neg (fun h => q h.2)]
      · rw [h, b4, b5] at q; exact q rfl
theorem mk4 (n : Int) : ∃ c0 c1 c2 c3, mkL n = [c0, c1, c2, c3] := by
  have h := mkL_length n
  match hm : mkL n, h with
  | [a, b, c, d], _ => exact ⟨a, b, c, d, rfl⟩
theorem torn_end (ho : a.length = 256) (hb : b.length = 256) (o0 : 0 < o) (o1 : o < 4294967296) (n0 : 0 < n) (n1 : n < 4294967296) (hlt : o < n)
    (a5 : a.drop 252 = mkL o) (b5 : b.drop 252 = mkL n) {i : Nat} (hi : i ≤ 256) : valLE ((tornL a b i).drop 252) ≤ n := by
  by_cases c : i ≤ 252
  · rw [torn_low ho hb c, a5, valLE_mk (by omega) o1]; omega
  · rw [torn_high ho hb (by omega) hi, a5, b5]
    have vo := valLE_mk (n := o) (by omega) o1
    have vn := valLE_mk (n := n) (by omega) n1
    obtain ⟨c0, c1, c2, c3, hc⟩ := mk4 o
    obtain ⟨d0, d1, d2, d3, hd⟩ := mk4 n
    rw [hc] at vo
    rw [hd] at vn
    rw [hc, hd]
    rw [valLE4] at vo vn
    have e0 := c0.toNat_lt; have e1 := c1.toNat_lt; have e2 := c2.toNat_lt; have e3 := c3.toNat_lt
    have f0 := d0.toNat_lt; have f1 := d1.toNat_lt; have f2 := d2.toNat_lt; have f3 := d3.toNat_lt
    obtain ⟨j, hj⟩ : ∃ j, j = i - 252 := ⟨_, rfl⟩
    rw [← hj]
    rcases (show j = 1 ∨ j = 2 ∨ j = 3 ∨ j = 4 by omega) with rfl | rfl | rfl | rfl
    all_goals
      simp only [List.take_succ_cons, List.take_zero, List.drop_succ_cons, List.drop_zero, List.cons_append, List.nil_append, List.append_nil]
      rw [valLE4]
      omega
end
end Go.Proofs.YtdbiebnnogjccaaGreatDoor

/- The laid variables of frames and disks together. -/
namespace Go.Proofs.YtdbiebnnogjccaaGreatDoor
open Go.RowKit
/-- The laid variables of both packages. -/
structure HwW (w : World) (a0 a1 a2 aD aA : Addr) : Prop where
  f : FrW w a0 a1 a2
  d : DkW w aD aA
theorem HwW.below {w w' : World} {a0 a1 a2 aD aA : Addr} (h : HwW w a0 a1 a2 aD aA) (hb : Below w.heap.size w w') : HwW w' a0 a1 a2 aD aA := ⟨h.f.below hb, h.d.below hb⟩
end Go.Proofs.YtdbiebnnogjccaaGreatDoor

/- Append of strings onto a row that the call owns: a step of a region that draws its order. -/
namespace Go.Proofs.YtdbiebnnogjccaaGreatDoor
open Go.RowKit
theorem bal {B : Nat} {a W : World} (h : Below B a W ∧ B ≤ W.heap.size) (o : Obj) : Below B a (W.alloc o) ∧ B ≤ (W.alloc o).heap.size := ⟨h.1.alloc h.2 o, by simp; omega⟩
theorem bdr {B : Nat} {a W : World} (h : Below B a W ∧ B ≤ W.heap.size) : Below B a W.drew ∧ B ≤ W.drew.heap.size := ⟨⟨h.1.os, h.1.tape, h.1.output, h.1.size, h.1.block⟩, h.2⟩
theorem bbl {B : Nat} {a W X : World} (h : Below B a W ∧ B ≤ W.heap.size) (k : Below W.heap.size W X) : Below B a X ∧ B ≤ X.heap.size := ⟨h.1.trans (k.mono h.2), Nat.le_trans h.2 k.size⟩
theorem kA {W : World} {k : Nat} {v : Option Obj} (h : W.heap[k]? = v) (hk : k < W.heap.size) (o : Obj) : (W.alloc o).heap[k]? = v := by rw [Below.heap_alloc _ _ _ hk]; exact h
theorem kD {W : World} {k : Nat} {v : Option Obj} (h : W.heap[k]? = v) : W.drew.heap[k]? = v := h
theorem kN {W : World} {k : Nat} (o : Obj) (hk : k = W.heap.size) : (W.alloc o).heap[k]? = some o := by rw [hk]; exact blk_new _ _
theorem kG {W X : World} {k : Nat} {v : Option Obj} {row : Option Nat} (hg : W.grownBy X row) (h : W.heap[k]? = v) (hk : k < W.heap.size) (hne : some k ≠ row) : X.heap[k]? = v := (hg.block k hk hne).trans h
theorem kG1 {W X : World} {k r : Nat} {v : Option Obj} (hg : W.grownBy X (some r)) (h : W.heap[k]? = v) (hk : k < W.heap.size) (hne : k ≠ r) : X.heap[k]? = v := kG hg h hk (fun e => hne (by injection e))
theorem bgr {B : Nat} {a W X : World} {G : Nat} (h : Below B a W ∧ B ≤ W.heap.size) (hg : W.grownBy X (some G)) (hG : B ≤ G) : Below B a X ∧ B ≤ X.heap.size :=
  ⟨⟨hg.os.trans h.1.os, hg.tape.trans h.1.tape, hg.output.trans h.1.output, Nat.le_trans h.1.size hg.size, fun k hk => (hg.block k (by omega) (fun e => by simp at e; omega)).trans (h.1.block k hk)⟩, Nat.le_trans h.2 hg.size⟩
theorem bel2 (a : World) {W : World} {B : Nat} (h : Below B a W ∧ B ≤ W.heap.size) : B ≤ W.heap.size := h.2
theorem row_kA {W : World} {B : Nat} {e : TypeId} {s n : Nat} {v : Value} {xs : List Value} (h : W.ownsRow B e s v n xs) (o : Obj) : (W.alloc o).ownsRow B e s v n xs := h.alloc o
theorem row_s0 {W : World} {B G : Nat} {e : TypeId} (hB : B ≤ G) (h : W.heap[G]? = some (.cells #[] e (0, 0))) : W.ownsRow B e 1 (.slice (some ⟨G, 0, none⟩) 0 0) 0 (([] : List ByteArray).map Value.string) :=
  ⟨rfl, .inr ⟨G, 0, #[], rfl, hB, h, Nat.le_refl _, Nat.zero_le _, rfl, rfl⟩⟩
theorem strs_two {W : World} {D : Nat} {x y : ByteArray} {e : TypeId} (h : W.heap[D]? = some (.cells #[.string x, .string y] e (0, 0))) : SlStrs W (.slice (some ⟨D, 0, none⟩) 2 2) [x, y] := by
  refine .inr ⟨D, 0, 2, rfl, Nat.le_refl _, ⟨fun _ => blk_lt h, fun i hi => ?_⟩⟩
  have h0 : i = 0 ∨ i = 1 := by simp at hi; omega
  rcases h0 with rfl | rfl <;> (rw [blk_cell h]; simp)
theorem strs_news {w : World} {b off : Nat} {l : List ByteArray} (h : StrsAt w b off l) : ∀ j u, (l.map Value.string)[j]? = some u → w.cell? ((⟨b, off, none⟩ : Addr).add j) = some u := by
  intro j u hu
  have hadd : (⟨b, off, none⟩ : Addr).add j = ⟨b, off + j, none⟩ := by unfold Addr.add; split <;> simp_all
  rw [hadd]
  rw [List.getElem?_map] at hu
  have hj : j < l.length := by
    have := (List.getElem?_eq_some_iff.1 (by rw [← List.getElem?_map] at hu; exact hu)).1
    simpa using this
  rw [List.getElem?_eq_getElem hj] at hu
  simp at hu; subst hu
  exact h.at' j hj
theorem run_append_strs {P : Program} (w : World) (t ty e : TypeId) (i : TypeInfo) (z : Value) (ht : P.underlying t = some (.slice e)) (hi : P.info? e = some i) (hz : i.zero = some z) (hsize : i.size = 1) (hby : i.bytes = 16) (hzs : z.cells.size = 1)
    (base G n c0 : Nat) (l0 : List ByteArray) (hown : w.ownsRow base e 1 (.slice (some ⟨G, 0, none⟩) n c0) n (l0.map Value.string)) (sv : Value) (l1 : List ByteArray) (hsrc : SlStrs w sv l1) (b1 : n ≤ 65536) (b2 : l1.length ≤ 65536) (hbase : base ≤ w.heap.size) :
    ∃ g c w', (Builtin.append_ #[t, t] ty #[.slice (some ⟨G, 0, none⟩) n c0, sv]).run P w = .ok (.slice (some ⟨g, 0, none⟩) (n + l1.length) c) w' ∧ w'.ownsRow base e 1 (.slice (some ⟨g, 0, none⟩) (n + l1.length) c) (n + l1.length) ((l0 ++ l1).map Value.string) ∧ w.grownBy w' (some G) ∧ (g = G ∨ g = w.heap.size) := by
  rcases hsrc with ⟨rfl, rfl⟩ | ⟨b, off, cap, rfl, _, hat⟩
  · refine ⟨G, c0, w, ?_, by simpa using hown, ⟨rfl, rfl, rfl, Nat.le_refl _, fun _ _ _ => rfl⟩, .inl rfl⟩
    simpa using run_append_owned_none (P := P) w base t ty e i 1 ht hi _ n (l0.map Value.string) hown
  · obtain ⟨v', w', hr, h2, h3, h4, h5⟩ := run_append_own_at (P := P) w base t ty e i z 1 16 ht hi hz hsize hby hzs (by decide) _ n (l0.map Value.string) hown ⟨b, off, none⟩ l1.length cap (l1.map Value.string) (by simp) (strs_news hat)
      (fun u hu => by rw [List.mem_map] at hu; obtain ⟨x, _, rfl⟩ := hu; rfl) (by simp only [maxLen]; omega) (by omega) hbase
    rcases h2.2 with ⟨h6, _⟩ | ⟨g, c, cur, h6, _⟩
    · rw [h4] at h6; exact absurd h6.1 (by simp)
    · subst h6
      refine ⟨g, c, w', hr, ?_, h3, ?_⟩
      · rw [List.map_append]; exact h2
      · rcases h5 with h5 | h5
        · left; simpa [Value.ownBlock] using h5
        · right; simpa [Value.ownBlock] using h5
theorem step_append_strs {P : Program} {w : World} {ops : Array Oper} {o : Oper} {a : Act} {K : Act → World → Prop} {Q : Exit → Act → World → Prop} {E : Prop} (hgd : o.guard = none) (s x : Operand) (t : TypeId)
    (ho : o.op = .call { callee := .builtin .append, args := #[s, x], argTypes := #[t, t] })
    (e : TypeId) (i : TypeInfo) (z : Value) (ht : P.underlying t = some (.slice e)) (hi : P.info? e = some i) (hz : i.zero = some z) (hsize : i.size = 1) (hby : i.bytes = 16) (hzs : z.cells.size = 1)
    (base G n c0 : Nat) (l0 : List ByteArray) (hs : a.eval s = .slice (some ⟨G, 0, none⟩) n c0) (hown : w.ownsRow base e 1 (.slice (some ⟨G, 0, none⟩) n c0) n (l0.map Value.string)) (sv : Value) (hx : a.eval x = sv) (l1 : List ByteArray) (hsrc : SlStrs w sv l1) (b1 : n ≤ 65536) (b2 : l1.length ≤ 65536) (hbase : base ≤ w.heap.size)
    (m : Nat) (hm : m = n + l1.length) (l : List ByteArray) (hl : l = l0 ++ l1)
    (h : ∀ g c w', w'.ownsRow base e 1 (.slice (some ⟨g, 0, none⟩) m c) m (l.map Value.string) → w.grownBy w' (some G) → (g = G ∨ g = w.heap.size) → K (a.put o.dst (.slice (some ⟨g, 0, none⟩) m c)) w') :
    if Region.wanted o (yielded ops a.tmps) = true then Oper.wp P o a w K Q else E := by
  have hw : Region.wanted o (yielded ops a.tmps) = true := by simp [Region.wanted, hgd]
  rw [if_pos hw]
  obtain ⟨g, c, w', hr, h2, h3, h4⟩ := run_append_strs (P := P) w t o.type e i z ht hi hz hsize hby hzs base G n c0 l0 hown sv l1 hsrc b1 b2 hbase
  subst hm hl
  unfold Oper.wp execOp
  simp only [ho, resolve, invoke, builtin, Sem.run_bind, Sem.run_pure, Result.andThen_ok, List.map_toArray, List.map_cons, List.map_nil, hs, hx, hr]
  exact h g c w' h2 h3 h4
theorem wpList_append_strs {P : Program} {w : World} {ops : Array Oper} {rest : List Oper} {o : Oper} {a : Act} {Q : Exit → Act → World → Prop} (hgd : o.guard = none) (s x : Operand) (t : TypeId)
    (ho : o.op = .call { callee := .builtin .append, args := #[s, x], argTypes := #[t, t] })
    (e : TypeId) (i : TypeInfo) (z : Value) (ht : P.underlying t = some (.slice e)) (hi : P.info? e = some i) (hz : i.zero = some z) (hsize : i.size = 1) (hby : i.bytes = 16) (hzs : z.cells.size = 1)
    (base G n c0 : Nat) (l0 : List ByteArray) (hs : a.eval s = .slice (some ⟨G, 0, none⟩) n c0) (hown : w.ownsRow base e 1 (.slice (some ⟨G, 0, none⟩) n c0) n (l0.map Value.string)) (sv : Value) (hx : a.eval x = sv) (l1 : List ByteArray) (hsrc : SlStrs w sv l1) (b1 : n ≤ 65536) (b2 : l1.length ≤ 65536) (hbase : base ≤ w.heap.size)
    (m : Nat) (hm : m = n + l1.length) (l : List ByteArray) (hl : l = l0 ++ l1)
    (h : ∀ g c w', w'.ownsRow base e 1 (.slice (some ⟨g, 0, none⟩) m c) m (l.map Value.string) → w.grownBy w' (some G) → (g = G ∨ g = w.heap.size) → wpList P ops Q rest (a.put o.dst (.slice (some ⟨g, 0, none⟩) m c)) w') :
    wpList P ops Q (o :: rest) a w := by
  refine wpList_plain hgd fun K hK => ?_
  obtain ⟨g, c, w', hr, h2, h3, h4⟩ := run_append_strs (P := P) w t o.type e i z ht hi hz hsize hby hzs base G n c0 l0 hown sv l1 hsrc b1 b2 hbase
  subst hm hl
  unfold Oper.wp execOp
  simp only [ho, resolve, invoke, builtin, Sem.run_bind, Sem.run_pure, Result.andThen_ok, List.map_toArray, List.map_cons, List.map_nil, hs, hx, hr]
  exact hK _ _ (h g c w' h2 h3 h4)
end Go.Proofs.YtdbiebnnogjccaaGreatDoor
