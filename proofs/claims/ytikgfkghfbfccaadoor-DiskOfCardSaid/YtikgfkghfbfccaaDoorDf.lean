/- Disks (layer 19): ranging over a map of sectors. -/
import Derived.Test.YtikgfkghfbfccaaDoorDe
namespace Go.Proofs.YtikgfkghfbfccaaDoor
open Go.RowKit Go.Maps
/-- A range over the map is under way: 'left' says which keys are still to come. -/
def RangS (w : World) (b r n : Nat) (f : Int → Option ByteArray) (left : Int → Bool) (cnt : Nat) : Prop :=
  ∃ (D : DataW Unit) (lf : Lit → Bool), w.ranges Tryd.prog 3 secE b r n D lf cnt ∧ (∀ i, wf64 i → Maps.has D (.int .i64 i) = (f i).isSome ∧ ∀ s, f i = some s → ∀ z, D.atKey (.int .i64 i) z = .lit (.string s.data.toList)) ∧ ∀ i, wf64 i → lf (.int .i64 i) = left i
theorem RangS.owns {w : World} {b r n : Nat} {f : Int → Option ByteArray} {left : Int → Bool} {cnt : Nat} (h : RangS w b r n f left cnt) : MapS w b n f := by
  obtain ⟨D, lf, h1, h2, _⟩ := h; exact ⟨D, h1.owns, h2⟩
theorem RangS.left_eq {w : World} {b r n : Nat} {f : Int → Option ByteArray} {left : Int → Bool} {cnt : Nat} (h : RangS w b r n f left cnt) : w.rangeLeft b r = cnt := by
  obtain ⟨D, lf, h1, _, _⟩ := h; exact h1.left_eq
theorem RangS.ne {w : World} {b r n : Nat} {f : Int → Option ByteArray} {left : Int → Bool} {cnt : Nat} (h : RangS w b r n f left cnt) : r ≠ b := by
  obtain ⟨D, lf, h1, _, _⟩ := h; exact h1.ne
theorem RangS.lt {w : World} {b r n : Nat} {f : Int → Option ByteArray} {left : Int → Bool} {cnt : Nat} (h : RangS w b r n f left cnt) : r < w.heap.size := by
  obtain ⟨D, lf, h1, _, _⟩ := h; exact h1.lt
theorem RangS.kept {w w' : World} {b r n : Nat} {f : Int → Option ByteArray} {left : Int → Bool} {cnt : Nat} {row : Option Nat} (h : RangS w b r n f left cnt) (hg : w.grownBy w' row) (hb : some b ≠ row) (hr : some r ≠ row) : RangS w' b r n f left cnt := by
  obtain ⟨D, lf, h1, h2, h3⟩ := h; exact ⟨D, lf, h1.kept hg hb hr, h2, h3⟩
theorem RangS.below {w w' : World} {b r n : Nat} {f : Int → Option ByteArray} {left : Int → Bool} {cnt : Nat} (h : RangS w b r n f left cnt) (hb : Below w.heap.size w w') : RangS w' b r n f left cnt := h.kept (grown_bel hb) (by simp) (by simp)
theorem same_int (i j : Int) : (Lit.int .i64 j).sameKey (.int .i64 i) = (j == i) := by
  by_cases h : j = i
  · subst h; simp [Lit.sameKey]
  · simp [Lit.sameKey, h]
theorem lit_str {s t : ByteArray} (h : (DataW.lit (.string s.data.toList) : DataW Unit) = .lit (.string t.data.toList)) : s = t := by
  injection h with h
  injection h with h
  exact bytes_ext h
theorem lit_bool {l : List UInt8} (h : (DataW.lit (.bool true) : DataW Unit) = .lit (.string l)) : False := by
  injection h with h
  cases h
theorem look_some {D : DataW Unit} {f : Int → Option ByteArray} {i : Int} {s : ByteArray} (_hi : wf64 i) (h : Maps.has D (.int .i64 i) = (f i).isSome ∧ ∀ s, f i = some s → ∀ z, D.atKey (.int .i64 i) z = .lit (.string s.data.toList))
    (hat : ∀ zd, D.atKey (.int .i64 i) zd = .lit (.string s.data.toList)) : f i = some s := by
  cases hfi : f i with
  | none =>
    have hh : Maps.has D (.int .i64 i) = false := by rw [h.1, hfi]; rfl
    exact (lit_bool ((atKey_of_not_has hh _).symm.trans (hat _))).elim
  | some s' => rw [lit_str ((h.2 s' hfi (.lit (.bool true))).symm.trans (hat _))]
section
variable {ops : Array Oper} {rest : List Oper} {o : Oper} {a : Act} {Q : Exit → Act → World → Prop}
theorem wpList_range_sec (w : World) (hg : o.guard = none) (m : Operand) (hop : o.op = Op.range 99 m) (b n : Nat) (f : Int → Option ByteArray) (hm : a.eval m = .map (some b)) (hown : MapS w b n f)
    (hK : ∀ w' cnt, RangS w' b w.heap.size n f (fun i => (f i).isSome) cnt → w.grownBy w' none → w'.heap.size = w.heap.size + 1 → wpList Tryd.prog ops Q rest (a.put o.dst (.pointer (some ⟨w.heap.size, 0, none⟩))) w') :
    wpList Tryd.prog ops Q (o :: rest) a w := by
  obtain ⟨D, h1, h2⟩ := hown
  exact wpList_range_own w hg m 99 hop 3 110 lawI Tryd.underlying99 secE b n D hm h1 fun w' h3 h4 h5 => hK w' _ ⟨D, _, h3, h2, fun i hi => (h2 i hi).1⟩ h4 h5
theorem wpList_next_sec (w : World) (hg : o.guard = none) (it : Operand) (hop : o.op = Op.next it false) (b r n : Nat) (f : Int → Option ByteArray) (left : Int → Bool) (cnt : Nat) (hit : a.eval it = .pointer (some ⟨r, 0, none⟩)) (h : RangS w b r n f left cnt)
    (hDone : (∀ i, wf64 i → left i = false) → wpList Tryd.prog ops Q rest (a.put o.dst (.tuple #[.bool false])) w)
    (hMore : ∀ (i : Int) (s : ByteArray) (w' : World) (cnt' : Nat), wf64 i → left i = true → f i = some s → RangS w' b r n f (fun j => left j && !(j == i)) cnt' → cnt' < cnt → w.grownBy w' (some r) → w'.heap.size = w.heap.size →
      (Instr.entry (.pointer (some ⟨r, 0, none⟩))).run Tryd.prog w' = .ok (.tuple #[.int .i64 i, .agg #[.string s]]) w' → wpList Tryd.prog ops Q rest (a.put o.dst (.tuple #[.bool true, .int .i64 i, .agg #[.string s]])) w') :
    wpList Tryd.prog ops Q (o :: rest) a w := by
  obtain ⟨D, lf, h1, h2, h3⟩ := h
  refine wpList_next_ranges w hg it hop 3 lawI secE (Value.int .i64) (fun s => .agg #[.string s]) (fun key kl hkey => by obtain ⟨x, rfl, _⟩ := Maps.keyOf_int_inv Tryd.underlying3 hkey; exact ⟨x, rfl⟩) (fun v y hv => by obtain ⟨s, rfl, _⟩ := secE_inv hv; exact ⟨s, rfl⟩)
    b r n D lf cnt hit h1 (fun _ hl => hDone fun i hi => by rw [← h3 i hi]; exact hl _) fun i s kl y w' cnt' hkey hlk hv hat hrg hlt hgr hsz hen => ?_
  obtain ⟨i', ei, rfl, hwi⟩ := Maps.keyOf_int_inv Tryd.underlying3 hkey
  cases ei
  have hy : y = (.lit (.string s.data.toList), []) := Option.some.inj (hv.symm.trans (secE_mk s))
  subst hy
  have hf : f i = some s := look_some hwi (h2 i hwi) hat
  exact hMore i s w' cnt' hwi (by rw [← h3 i hwi]; exact hlk) hf ⟨D, _, hrg, h2, fun j hj => by show (lf _ && !(Lit.int .i64 j).sameKey (.int .i64 i)) = _; rw [h3 j hj, same_int]⟩ hlt hgr hsz hen
end
end Go.Proofs.YtikgfkghfbfccaaDoor
