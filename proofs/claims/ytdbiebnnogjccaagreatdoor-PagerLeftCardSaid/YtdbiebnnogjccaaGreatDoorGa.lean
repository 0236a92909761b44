/- Pages (layer 22): maps of whole numbers by whole numbers: what a block holds, key by key (nought: no such key). -/
import Derived.Test.YtdbiebnnogjccaaGreatDoorGp
import Derived.Test.YtdbiebnnogjccaaGreatDoorDi
import Derived.Maps.OwnOps
import Derived.Lib.SlMapFilter
import Derived.Maps.OwnSet
import Derived.Maps.RangeWalk
namespace Go.Proofs.YtdbiebnnogjccaaGreatDoor
open Go.RowKit Go.Maps Go.Sort Go.Shelf
noncomputable abbrev intE : Value → Option (DataW Unit × List MemPlace) := plainElem Tryz.prog 3
theorem intE_mk {c : Int} (h : wf64 c) : intE (.int .i64 c) = some (.lit (.int .i64 c), []) := plainElem_int Tryz.underlying3 h
theorem intE_inv {v : Value} {z : DataW Unit × List MemPlace} (h : intE v = some z) : ∃ c, v = .int .i64 c ∧ z = (.lit (.int .i64 c), []) ∧ wf64 c := by
  obtain ⟨c, rfl, hz, hw⟩ := plainElem_int_inv Tryz.underlying3 h
  exact ⟨c, rfl, hz, hw⟩
theorem zeroI (w : World) : (zeroValue 3).run Tryz.prog w = .ok (.int .i64 0) w := by kernel_rfl
/-- How D answers to f. -/
def ReadsI (D : DataW Unit) (f : Int → Int) : Prop := ∀ i, wf64 i → Maps.has D (.int .i64 i) = (f i != 0) ∧ (f i ≠ 0 → ∀ z, D.atKey (.int .i64 i) z = .lit (.int .i64 (f i)))
/-- The block holds a map: key by key f. -/
def MapI (w : World) (b n : Nat) (f : Int → Int) : Prop := ∃ D, w.ownsMap Tryz.prog 3 intE b n D ∧ ReadsI D f
theorem MapI.lt {w : World} {b n : Nat} {f : Int → Int} (h : MapI w b n f) : b < w.heap.size := h.choose_spec.1.lt
theorem MapI.kept {w w' : World} {b n : Nat} {f : Int → Int} {row : Option Nat} (h : MapI w b n f) (hg : w.grownBy w' row) (hne : some b ≠ row) : MapI w' b n f := by
  obtain ⟨D, h1, h2⟩ := h; exact ⟨D, h1.kept hg hne, h2⟩
theorem MapI.below {w w' : World} {b n : Nat} {f : Int → Int} (h : MapI w b n f) (hb : Below w.heap.size w w') : MapI w' b n f := h.kept (grown_bel hb) (by simp)
theorem MapI.fr {S : Nat → Prop} {w w' : World} {b n : Nat} {f : Int → Int} (h : MapI w b n f) (hf : Fr S w w') (hs : ¬ S b) : MapI w' b n f := by
  have hlt := h.lt
  obtain ⟨D, ⟨es, clock, hb, r⟩, h2⟩ := h
  exact ⟨D, ⟨es, clock, (hf.block b hlt hs).trans hb, r⟩, h2⟩
theorem MapI.mono {w : World} {b n m : Nat} {f : Int → Int} (h : MapI w b n f) (hm : n ≤ m) : MapI w b m f := by
  obtain ⟨D, h1, h2⟩ := h; exact ⟨D, h1.mono hm, h2⟩
theorem MapI.made (w : World) : MapI (w.alloc (.map #[] 0)) w.heap.size 0 (fun _ => 0) :=
  ⟨_, World.ownsMap_made w _ _ _, fun i _ => ⟨rfl, fun h => absurd rfl h⟩⟩
theorem MapI.congr {w : World} {b n : Nat} {f g : Int → Int} (h : MapI w b n f) (hfg : ∀ i, f i = g i) : MapI w b n g := by
  rwa [show g = f from (funext hfg).symm]
def setI (f : Int → Int) (i c : Int) : Int → Int := fun j => if j = i then c else f j
theorem readsI_put {D : DataW Unit} {f : Int → Int} (hm : IsMap D) (h : ReadsI D f) {i c : Int} (hc : c ≠ 0) : ReadsI (D.put (.int .i64 i) (.lit (.int .i64 c))) (setI f i c) := fun j hj => by
  unfold setI
  by_cases e : j = i
  · subst e
    rw [if_pos rfl]
    have ik : WideAt.IsKeyLit (.int .i64 j) := trivial
    exact ⟨by rw [has_put_same hm ik]; exact (bne_iff_ne.2 hc).symm, fun _ z => atKey_put_same hm ik _ _⟩
  · rw [if_neg e]
    have hne : (Lit.int .i64 j) ≠ .int .i64 i := fun h => e (by injection h)
    exact ⟨by rw [has_put_other hne]; exact (h j hj).1, fun hf z => by rw [atKey_put_other hne]; exact (h j hj).2 hf z⟩
theorem readsI_del {D : DataW Unit} {f : Int → Int} (h : ReadsI D f) (i : Int) : ReadsI (D.del (.int .i64 i)) (setI f i 0) := fun j hj => by
  unfold setI
  by_cases e : j = i
  · subst e
    rw [if_pos rfl]
    exact ⟨by rw [has_del_same]; rfl, fun h => absurd rfl h⟩
  · rw [if_neg e]
    have hne : (Lit.int .i64 j) ≠ .int .i64 i := fun h => e (by injection h)
    exact ⟨by rw [has_del_other hne]; exact (h j hj).1, fun hf z => by rw [atKey_del_other hne]; exact (h j hj).2 hf z⟩
/-- Is an element the number c? -/
def isC (c : Int) (_ : Lit) : DataW Unit → Bool
  | .lit (.int _ v) => decide (v = c)
  | _ => false
theorem readsI_drop {D : DataW Unit} {f : Int → Int} {w : World} {b n : Nat} (hown : w.ownsMap Tryz.prog 3 intE b n D) (h : ReadsI D f) (c : Int) : ReadsI (Lib.deleteFuncD (isC c) D) (fun i => if f i = c then 0 else f i) := fun i hi => by
  obtain ⟨es, rfl, hap, hkeys⟩ := hown.entries lawI
  obtain ⟨h1, h2⟩ := h i hi
  have ik : WideAt.IsKeyLit (.int .i64 i) := trivial
  rw [has_eq] at h1
  show Maps.has (.map (es.filter fun p => !isC c p.1 p.2)) (.int .i64 i) = ((if f i = c then 0 else f i) != 0) ∧ ((if f i = c then 0 else f i) ≠ 0 → ∀ z, (DataW.map (es.filter fun p => !isC c p.1 p.2)).atKey (.int .i64 i) z = .lit (.int .i64 (if f i = c then 0 else f i)))
  by_cases h0 : f i = 0
  · rw [h0] at h1
    have hn : ∀ p ∈ es, ¬ p.1.sameKey (.int .i64 i) = true := by simpa using List.any_eq_false.1 h1
    have e : (if f i = c then 0 else f i) = 0 := by rw [h0]; split <;> rfl
    rw [e]
    refine ⟨?_, fun h => absurd rfl h⟩
    rw [has_eq]
    exact List.any_eq_false.2 fun p hp => hn p (List.mem_filter.1 hp).1
  · rw [bne_iff_ne.2 h0] at h1
    obtain ⟨p, hp, hs⟩ := List.any_eq_true.1 h1
    have hpk := WideAt.sameKey_eq hs
    have hmem : ((Lit.int .i64 i), p.2) ∈ es := by rw [← hpk]; exact hp
    have hv : p.2 = .lit (.int .i64 (f i)) := (WideAt.atKey_mem .nil ik hap hmem).symm.trans (h2 h0 _)
    rw [hv] at hmem
    by_cases hc : f i = c
    · rw [if_pos hc]
      refine ⟨?_, fun h => absurd rfl h⟩
      rw [has_eq]
      refine List.any_eq_false.2 fun q hq => ?_
      obtain ⟨hq1, hq2⟩ := List.mem_filter.1 hq
      intro hsq
      have hqk := WideAt.sameKey_eq hsq
      have hmq : ((Lit.int .i64 i), q.2) ∈ es := by rw [← hqk]; exact hq1
      have hvq : q.2 = .lit (.int .i64 (f i)) := (WideAt.atKey_mem .nil ik hap hmq).symm.trans (h2 h0 _)
      rw [hvq] at hq2
      simp [isC, hc] at hq2
    · rw [if_neg hc]
      have hmf : ((Lit.int .i64 i), (DataW.lit (.int .i64 (f i)) : DataW Unit)) ∈ es.filter fun p => !isC c p.1 p.2 := List.mem_filter.2 ⟨hmem, by simp [isC, hc]⟩
      refine ⟨?_, fun _ z => WideAt.atKey_mem z ik (hap.filter _) hmf⟩
      rw [has_eq, bne_iff_ne.2 h0]
      exact List.any_eq_true.2 ⟨_, hmf, WideAt.sameKey_self ik⟩
theorem litI_inj {a c : Int} (h : (DataW.lit (.int .i64 a) : DataW Unit) = .lit (.int .i64 c)) : a = c := by
  injection h with h
  injection h
theorem litI_bool {c : Int} (h : (DataW.lit (.bool true) : DataW Unit) = .lit (.int .i64 c)) : False := by
  injection h with h
  cases h
theorem readsI_look {D : DataW Unit} {f : Int → Int} {i c : Int} (h : ReadsI D f) (hi : wf64 i) (hat : D.atKey (.int .i64 i) (.lit (.int .i64 0)) = .lit (.int .i64 c)) : c = f i := by
  by_cases h0 : f i = 0
  · have hh : Maps.has D (.int .i64 i) = false := by rw [(h i hi).1, h0]; rfl
    rw [atKey_of_not_has hh] at hat
    rw [h0]; exact (litI_inj hat).symm
  · rw [(h i hi).2 h0] at hat
    exact (litI_inj hat).symm
theorem readsI_all {D : DataW Unit} {f : Int → Int} {i c : Int} (h : ReadsI D f) (hi : wf64 i) (hat : ∀ zd, D.atKey (.int .i64 i) zd = .lit (.int .i64 c)) : f i = c ∧ f i ≠ 0 := by
  by_cases h0 : f i = 0
  · have hh : Maps.has D (.int .i64 i) = false := by rw [(h i hi).1, h0]; rfl
    exact (litI_bool ((atKey_of_not_has hh _).symm.trans (hat _))).elim
  · exact ⟨litI_inj (((h i hi).2 h0 (.lit (.bool true))).symm.trans (hat _)), h0⟩
/-- The keys: any row without doubles whose members are those with f ≠ 0. -/
theorem readsI_perm {D : DataW Unit} {f : Int → Int} {w : World} {b n : Nat} (hown : w.ownsMap Tryz.prog 3 intE b n D) (h : ReadsI D f) {ks : List Int} (hd : ks.Nodup) (hk : ∀ x, x ∈ ks ↔ wf64 x ∧ f x ≠ 0) : ks.Perm (intKeys D) := by
  refine CollectedI.perm (left := fun _ => false) ⟨hd, fun x => ?_⟩ hown lawI Tryz.underlying3 (fun _ => rfl)
  rw [hk x]
  constructor
  · rintro ⟨h0, h1⟩
    exact ⟨by rw [(h x h0).1]; exact bne_iff_ne.2 h1, rfl⟩
  · rintro ⟨h1, _⟩
    have hwf : wf64 x := by
      obtain ⟨es, rfl, _⟩ := hown.keysOf
      have hmem : x ∈ intKeys (.map es) := by
        rw [has_eq, List.any_eq_true] at h1
        obtain ⟨p, hp, hs⟩ := h1
        obtain ⟨es', he', hko⟩ := hown.keysOf
        injection he' with he'
        subst he'
        obtain ⟨v, hv⟩ := hko p hp
        obtain ⟨y, _, hy, _⟩ := Maps.keyOf_i64 Tryz.underlying3 hv
        unfold intKeys
        rw [List.mem_map]
        refine ⟨p, hp, ?_⟩
        rw [hy] at hs ⊢
        show y = x
        simpa [Lit.sameKey] using hs
      exact intKeys_wf hown Tryz.underlying3 x hmem
    exact ⟨hwf, by have := (h x hwf).1; rw [this] at h1; exact bne_iff_ne.1 h1⟩
theorem intKeys_length (D : DataW Unit) (h : IsMap D) : (intKeys D).length = Maps.size D := by
  obtain ⟨es, rfl⟩ := h
  show (es.map _).length = es.length
  rw [List.length_map]
theorem readsI_size {D : DataW Unit} {f : Int → Int} {w : World} {b n : Nat} (hown : w.ownsMap Tryz.prog 3 intE b n D) (h : ReadsI D f) {ks : List Int} (hd : ks.Nodup) (hk : ∀ x, x ∈ ks ↔ wf64 x ∧ f x ≠ 0) : Maps.size D = ks.length := by
  rw [← intKeys_length D hown.isMap, (readsI_perm hown h hd hk).length_eq]
/-- A range over the map is under way: 'left' says which keys are still to come. -/
def RangI (w : World) (b r n : Nat) (f : Int → Int) (left : Int → Bool) (cnt : Nat) : Prop :=
  ∃ (D : DataW Unit) (lf : Lit → Bool), w.ranges Tryz.prog 3 intE b r n D lf cnt ∧ ReadsI D f ∧ ∀ i, wf64 i → lf (.int .i64 i) = left i
section
variable {w w' : World} {b r n cnt : Nat} {f : Int → Int} {left : Int → Bool}
theorem RangI.owns (h : RangI w b r n f left cnt) : MapI w b n f := by obtain ⟨D, lf, h1, h2, _⟩ := h; exact ⟨D, h1.owns, h2⟩
theorem RangI.left_eq (h : RangI w b r n f left cnt) : w.rangeLeft b r = cnt := by obtain ⟨D, lf, h1, _, _⟩ := h; exact h1.left_eq
theorem RangI.ne (h : RangI w b r n f left cnt) : r ≠ b := by obtain ⟨D, lf, h1, _, _⟩ := h; exact h1.ne
theorem RangI.lt (h : RangI w b r n f left cnt) : r < w.heap.size := by obtain ⟨D, lf, h1, _, _⟩ := h; exact h1.lt
theorem RangI.kept {row : Option Nat} (h : RangI w b r n f left cnt) (hg : w.grownBy w' row) (hb : some b ≠ row) (hr : some r ≠ row) : RangI w' b r n f left cnt := by
  obtain ⟨D, lf, h1, h2, h3⟩ := h; exact ⟨D, lf, h1.kept hg hb hr, h2, h3⟩
theorem RangI.below (h : RangI w b r n f left cnt) (hb : Below w.heap.size w w') : RangI w' b r n f left cnt := h.kept (grown_bel hb) (by simp) (by simp)
end
section
variable {ops : Array Oper} {rest : List Oper} {o : Oper} {a : Act} {Q : Exit → Act → World → Prop}
theorem wpList_look_int (w : World) (hg : o.guard = none) (m x : Operand) (hop : o.op = Op.lookup 154 m x false) (b n : Nat) (f : Int → Int) (hm : a.eval m = .map (some b)) (hown : MapI w b n f) (i : Int) (hx : a.eval x = .int .i64 i) (hi : wf64 i)
    (hK : wpList Tryz.prog ops Q rest (a.put o.dst (.int .i64 (f i))) w) : wpList Tryz.prog ops Q (o :: rest) a w := by
  obtain ⟨D, h1, h2⟩ := hown
  refine wpList_lookup_own_int w hg m x 154 hop 3 3 .i64 lawI Tryz.underlying154 Tryz.underlying3 (zeroI w) b n D hm h1 (.int .i64 i) (.int .i64 i) hx (keyOf_int_mk Tryz.underlying3 hi) fun c hat _ => ?_
  rw [readsI_look h2 hi hat]; exact hK
theorem wpList_put_int (w : World) (hg : o.guard = none) (m x v : Operand) (hop : o.op = Op.mapUpdate 154 m x v) (b n : Nat) (f : Int → Int) (hm : a.eval m = .map (some b)) (hown : MapI w b n f) (hn : n < maxLen) (i : Int) (hx : a.eval x = .int .i64 i) (hi : wf64 i) (c : Int) (hc : wf64 c) (hc0 : c ≠ 0) (hv : a.eval v = .int .i64 c)
    (hK : ∀ w', MapI w' b (n + 1) (setI f i c) → w.grownBy w' (some b) → wpList Tryz.prog ops Q rest (a.put o.dst undef) w') : wpList Tryz.prog ops Q (o :: rest) a w := by
  obtain ⟨D, h1, h2⟩ := hown
  exact wpList_mapUpdate_own w hg m x v 154 hop 3 3 lawI Tryz.underlying154 intE b n D hm h1 hn (.int .i64 i) (.int .i64 c) (.int .i64 i) hx hv (keyOf_int_mk Tryz.underlying3 hi) _ _ (intE_mk hc) fun w' h3 h4 => hK w' ⟨_, h3, readsI_put h1.isMap h2 hc0⟩ h4
theorem wpList_del_int (w : World) (hg : o.guard = none) (m x : Operand) (hop : o.op = Op.call { callee := Callee.builtin Builtin.delete, args := #[m, x], argTypes := #[154, 3] }) (b n : Nat) (f : Int → Int) (hm : a.eval m = .map (some b)) (hown : MapI w b n f) (i : Int) (hx : a.eval x = .int .i64 i) (hi : wf64 i)
    (hK : ∀ w', MapI w' b n (setI f i 0) → w.grownBy w' (some b) → wpList Tryz.prog ops Q rest (a.put o.dst (.tuple #[])) w') : wpList Tryz.prog ops Q (o :: rest) a w := by
  obtain ⟨D, h1, h2⟩ := hown
  exact wpList_delete_own (w := w) hg m x 154 3 hop 3 lawI Tryz.underlying154 intE b n D hm h1 (.int .i64 i) (.int .i64 i) hx (keyOf_int_mk Tryz.underlying3 hi) fun w' h3 h4 => hK w' ⟨_, h3, readsI_del h2 i⟩ h4.grown
theorem wpList_len_int (w : World) (hg : o.guard = none) (m : Operand) (hop : o.op = Op.call { callee := Callee.builtin Builtin.len, args := #[m], argTypes := #[154] }) (b n : Nat) (f : Int → Int) (hm : a.eval m = .map (some b)) (hown : MapI w b n f) {ks : List Int} (hd : ks.Nodup) (hk : ∀ x, x ∈ ks ↔ wf64 x ∧ f x ≠ 0)
    (hK : wpList Tryz.prog ops Q rest (a.put o.dst (.int .i64 ks.length)) w) : wpList Tryz.prog ops Q (o :: rest) a w := by
  obtain ⟨D, h1, h2⟩ := hown
  refine wpList_len_own (w := w) hg m 154 hop 3 3 Tryz.underlying154 intE b n D hm h1 ?_
  rw [readsI_size h1 h2 hd hk]; exact hK
theorem wpList_range_int (w : World) (hg : o.guard = none) (m : Operand) (hop : o.op = Op.range 154 m) (b n : Nat) (f : Int → Int) (hm : a.eval m = .map (some b)) (hown : MapI w b n f)
    (hK : ∀ w' cnt, RangI w' b w.heap.size n f (fun i => f i != 0) cnt → w.grownBy w' none → w'.heap.size = w.heap.size + 1 → wpList Tryz.prog ops Q rest (a.put o.dst (.pointer (some ⟨w.heap.size, 0, none⟩))) w') : wpList Tryz.prog ops Q (o :: rest) a w := by
  obtain ⟨D, h1, h2⟩ := hown
  exact wpList_range_own w hg m 154 hop 3 3 lawI Tryz.underlying154 intE b n D hm h1 fun w' h3 h4 h5 => hK w' _ ⟨D, _, h3, h2, fun i hi => (h2 i hi).1⟩ h4 h5
theorem wpList_next_int (w : World) (hg : o.guard = none) (it : Operand) (hop : o.op = Op.next it false) (b r n : Nat) (f : Int → Int) (left : Int → Bool) (cnt : Nat) (hit : a.eval it = .pointer (some ⟨r, 0, none⟩)) (h : RangI w b r n f left cnt)
    (hDone : (∀ i, wf64 i → left i = false) → wpList Tryz.prog ops Q rest (a.put o.dst (.tuple #[.bool false])) w)
    (hMore : ∀ (i : Int) (w' : World) (cnt' : Nat), wf64 i → left i = true → f i ≠ 0 → RangI w' b r n f (fun j => left j && !(j == i)) cnt' → cnt' < cnt → w.grownBy w' (some r) → w'.heap.size = w.heap.size →
      (Instr.entry (.pointer (some ⟨r, 0, none⟩))).run Tryz.prog w' = .ok (.tuple #[.int .i64 i, .int .i64 (f i)]) w' → wpList Tryz.prog ops Q rest (a.put o.dst (.tuple #[.bool true, .int .i64 i, .int .i64 (f i)])) w') : wpList Tryz.prog ops Q (o :: rest) a w := by
  obtain ⟨D, lf, h1, h2, h3⟩ := h
  refine wpList_next_ranges_ii w hg it hop 3 3 .i64 .i64 lawI Tryz.underlying3 Tryz.underlying3 b r n D lf cnt hit h1 (fun _ hl => hDone fun i hi => by rw [← h3 i hi]; exact hl _) fun i c w' cnt' hwi hwc hlk hat hrg hlt hgr hsz hen => ?_
  obtain ⟨e, e0⟩ := readsI_all h2 hwi hat
  subst e
  exact hMore i w' cnt' hwi (by rw [← h3 i hwi]; exact hlk) e0 ⟨D, _, hrg, h2, fun j hj => by show (lf _ && !(Lit.int .i64 j).sameKey (.int .i64 i)) = _; rw [h3 j hj, same_int]⟩ hlt hgr hsz hen
end
theorem MapI.look {w : World} {b n : Nat} {f : Int → Int} (h : MapI w b n f) {i : Int} (hi : wf64 i) : (Instr.lookup 154 (.map (some b)) (.int .i64 i) false).run Tryz.prog w = .ok (.int .i64 (f i)) w := by
  obtain ⟨D, h1, h2⟩ := h
  obtain ⟨c, hrun, hat, hwc⟩ := h1.lookup_int lawI Tryz.underlying154 Tryz.underlying3 (zeroI w) (keyOf_int_mk Tryz.underlying3 hi)
  rw [hrun, readsI_look h2 hi hat]
theorem MapI.tight {w : World} {b n N : Nat} {f : Int → Int} (h : MapI w b n f) {ks : List Int} (hd : ks.Nodup) (hk : ∀ x, x ∈ ks ↔ wf64 x ∧ f x ≠ 0) (hN : ks.length ≤ N) : MapI w b N f := by
  obtain ⟨D, h1, h2⟩ := h
  have hsz := readsI_size h1 h2 hd hk
  obtain ⟨es, clock, hb, F, hs, rfl⟩ := h1
  refine ⟨_, ⟨es, clock, hb, F, ?_, rfl⟩, h2⟩
  have e : Maps.size (DataW.map ((es.toList.map (WideElems.rg Tryz.prog 3 intE)).foldr DataW.insert [])) = es.size := by simp [Maps.size, length_sorted]
  rw [← e]; exact Nat.le_trans (Nat.le_of_eq hsz) hN
end Go.Proofs.YtdbiebnnogjccaaGreatDoor
