/- Disks (layer 19): clear of a map; IndexFunc over what is kept, by the closure of Crash. -/
import Derived.Test.YtdbiebnnogjccaaGreatDoorDc
namespace Go.Proofs.YtdbiebnnogjccaaGreatDoor
open Go.RowKit Go.ChangeMaps Go.MapKept
theorem run_clear_map {w : World} {b n : Nat} {f : Int → Option ByteArray} (h : MapS w b n f) (ty : TypeId) :
    ∃ w', (Builtin.clear_ #[107] ty #[.map (some b)]).run Tryz.prog w = .ok (.tuple #[]) w' ∧ MapS w' b 0 (fun _ => none) ∧ w.grownBy w' (some b) := by
  obtain ⟨D, ⟨es, clock, hb, F, _, _⟩, _⟩ := h
  refine ⟨setBlock w b (.map #[] clock), ?_, ⟨.map [], ⟨#[], clock, heap_setBlock_same hb _, ⟨by simp, MapKept.stamped_empty clock, by simp⟩, Nat.le_refl _, rfl⟩, fun i _ => ⟨rfl, fun s h => by cases h⟩⟩, ⟨rfl, rfl, rfl, by simp [setBlock], fun i _ hi => heap_setBlock_other hb _ (fun e => hi (by rw [e]))⟩⟩
  simp [Builtin.clear_, run_underlying Tryz.underlying107, MapKept.run_getObj_map hb, MapKept.run_setObj_map _ hb, Result.andThen, setBlock]
end Go.Proofs.YtdbiebnnogjccaaGreatDoor

/- Disks (layer 19): IndexFunc over what is kept, by the closure of Crash. -/
namespace Go.Proofs.YtdbiebnnogjccaaGreatDoor
open Go.RowKit
/-- The place of the first item of which pr holds, or -1. -/
def firstI {α : Type} (pr : α → Bool) (l : List α) : Int := if l.findIdx pr < l.length then (l.findIdx pr : Int) else -1
theorem firstI_hit {α : Type} {pr : α → Bool} {l : List α} {k : Nat} (hk : k < l.length) (hp : pr l[k] = true) (hpre : ∀ j (h : j < l.length), j < k → pr l[j] = false) : firstI pr l = k := by
  have e : l.findIdx pr = k := (List.findIdx_eq hk).2 ⟨hp, fun j hj => hpre j (by omega) hj⟩
  unfold firstI; rw [e, if_pos hk]
theorem firstI_none {α : Type} {pr : α → Bool} {l : List α} (hpre : ∀ j (h : j < l.length), pr l[j] = false) : firstI pr l = -1 := by
  have e : ¬ l.findIdx pr < l.length := fun h => by
    have h1 := List.findIdx_getElem (w := h)
    rw [hpre _ h] at h1
    cases h1
  unfold firstI; rw [if_neg e]
theorem crash_1 (i : Int) (q : Nat) (x y : Int) (w : World) (hq : w.cell? ⟨q, 0, none⟩ = some (.int .i64 i)) : Calls Tryz.prog 78 #[.agg #[.int .i64 x, .int .i64 y], .pointer (some ⟨q, 0, none⟩)] w fun e w' => e = .returned (.bool (x == i)) ∧ Below w.heap.size w w' := by
  have B0 : Hid (∀ o : Obj, Below w.heap.size w (w.alloc o)) := fun o => below_alloc1 w o
  have hq0 : ∀ o : Obj, (w.alloc o).cell? ⟨q, 0, none⟩ = some (.int .i64 i) := fun o => dk_cell hq (B0.out o)
  go_enter Tryz.func78, Tryz.ntmps78
  go_wp2_with fail
  go_ret
  exact ⟨rfl, B0.out _⟩
set_option maxRecDepth 20000 in
set_option maxHeartbeats 1000000 in
theorem idx_kept (i : Int) (q : Nat) (v : Value) (l : List (Int × Int)) (hl : l.length < 4294967296) (w : World) (hI : SlKept w v l) (hq : w.cell? ⟨q, 0, none⟩ = some (.int .i64 i)) :
    Calls Tryz.prog 77 #[v, .func (.func 78) #[] #[.pointer (some ⟨q, 0, none⟩)]] w fun e w' => e = .returned (.int .i64 (firstI (fun x => x.1 == i) l)) ∧ Below w.heap.size w w' := by
  have HQ := Lib.hid (fun W (h : Below w.heap.size w W) => dk_cell hq h)
  clear hq
  rcases hI with ⟨rfl, p0, c0, rfl⟩ | ⟨b, off, cap, rfl, hcap, hI⟩
  · go_enter Tryz.func77, Tryz.ntmps77
    go_wp2_with fail
    refine wp_loop_rounds 1 ?_
    rw [rounds_succ]
    go_wp2_with fail
    go_ret
    exact ⟨rfl, Below.refl _ _⟩
  have HI := Lib.hid hI
  clear hI hcap
  go_enter Tryz.func77, Tryz.ntmps77
  go_wp2_with fail
  go_loopw [8] (fun iv wr => ∃ k : Nat, k ≤ l.length ∧ iv = .int .i64 k ∧ (∀ j (h : j < l.length), j < k → (fun x : Int × Int => x.1 == i) l[j] = false) ∧ Below w.heap.size w wr) (fun iv _ => l.length - (intOf iv).toNat)
  case atStart => exact ⟨0, Nat.zero_le _, rfl, fun j _ h => absurd h (by omega), Below.refl _ _⟩
  case round =>
    obtain ⟨k, hk, rfl, hpre, hB⟩ := hrel
    have HP := Lib.hid hpre
    have HB := Lib.hid hB
    clear hpre hB
    by_cases hlt : k < l.length
    · have hi : (k : Int) < (l.length : Int) := by omega
      have hI2 := HI.out.below HB.out
      have c0 := hI2.sec k hlt
      have c1 := hI2.byt k hlt
      clear hI2
      obtain ⟨x, hx⟩ : ∃ x, x = l[k] := ⟨_, rfl⟩
      rw [← hx] at c0 c1
      have Hx := Lib.hid hx
      clear hx
      obtain ⟨xs, xb⟩ := x
      have HC := Lib.hid (fun W h => crash_1 i q xs xb W h)
      simp only at c0 c1
      cases hpx : (xs == i) with
      | true =>
        have Hpx := Lib.hid hpx
        clear hpx
        go_wp2_with fail
        refine (HC.out _ (HQ.out _ HB.out)).mono ?_; rintro e w1 ⟨rfl, hb1⟩
        rw [Hpx.out]
        go_wp2_with fail
        go_ret
        exact ⟨by rw [firstI_hit hlt (by rw [← Hx.out]; exact Hpx.out) HP.out]; rfl, bstep HB.out (hb1)⟩
      | false =>
        have Hpx := Lib.hid hpx
        clear hpx
        go_wp2_with fail
        refine (HC.out _ (HQ.out _ HB.out)).mono ?_; rintro e w1 ⟨rfl, hb1⟩
        rw [Hpx.out]
        go_wp2_with fail
        go_roundw
        case rel =>
          refine ⟨k + 1, by omega, by go_num, fun j h hj => ?_, bstep HB.out (hb1)⟩
          by_cases hjk : j = k
          · subst hjk; rw [← Hx.out]; exact Hpx.out
          · exact HP.out j h (by omega)
        case measure => simp [intOf]; omega
    · have hi : ¬ (k : Int) < (l.length : Int) := by omega
      go_wp2_with fail
      go_ret
      exact ⟨by rw [firstI_none (fun j h => HP.out j h (by omega))]; rfl, HB.out⟩
end Go.Proofs.YtdbiebnnogjccaaGreatDoor

/- Disks (layer 19): ranging over a map of sectors. -/
namespace Go.Proofs.YtdbiebnnogjccaaGreatDoor
open Go.RowKit Go.Maps
/-- A range over the map is under way: 'left' says which keys are still to come. -/
def RangS (w : World) (b r n : Nat) (f : Int → Option ByteArray) (left : Int → Bool) (cnt : Nat) : Prop :=
  ∃ (D : DataW Unit) (lf : Lit → Bool), w.ranges Tryz.prog 3 secE b r n D lf cnt ∧ (∀ i, wf64 i → Maps.has D (.int .i64 i) = (f i).isSome ∧ ∀ s, f i = some s → ∀ z, D.atKey (.int .i64 i) z = .lit (.string s.data.toList)) ∧ ∀ i, wf64 i → lf (.int .i64 i) = left i
theorem RangS.owns {w : World} {b r n : Nat} {f : Int → Option ByteArray} {left : Int → Bool} {cnt : Nat} (h : RangS w b r n f left cnt) : MapS w b n f := by
  obtain ⟨D, lf, h1, h2, _⟩ := h; exact ⟨D, h1.owns, h2⟩
theorem RangS.left_eq {w : World} {b r n : Nat} {f : Int → Option ByteArray} {left : Int → Bool} {cnt : Nat} (h : RangS w b r n f left cnt) : w.rangeLeft b r = cnt := by
  obtain ⟨D, lf, h1, _, _⟩ := h; exact h1.left_eq
theorem RangS.ne {w : World} {b r n : Nat} {f : Int → Option ByteArray} {left : Int → Bool} {cnt : Nat} (h : RangS w b r n f left cnt) : r ≠ b := by
  obtain ⟨D, lf, h1, _, _⟩ := h; exact h1.ne
theorem RangS.lt {w : World} {b r n : Nat} {f : Int → Option ByteArray} {left : Int → Bool} {cnt : Nat} (h : RangS w b r n f left cnt) : r < w.heap.size := by
  obtain ⟨D, lf, h1, _, _⟩ := h; exact h1.lt
theorem RangS.kept {w w' : World} {b r n : Nat} {f : Int → Option ByteArray} {left : Int → Bool} {cnt : Nat} {row : Option Nat} (h : RangS w b r n f left cnt) (hg : w.grownBy w' row) (hb : some b ≠ row) (hr : some r ≠ row) : RangS w' b r n f left cnt := by
  obtain ⟨D, lf, h1, h2, h3⟩ := h; exact ⟨D, lf, h1.kept hg hb hr, h2, h3⟩
theorem RangS.below {w w' : World} {b r n : Nat} {f : Int → Option ByteArray} {left : Int → Bool} {cnt : Nat} (h : RangS w b r n f left cnt) (hb : Below w.heap.size w w') : RangS w' b r n f left cnt := h.kept (grown_bel hb) (by simp) (by simp)
theorem same_int (i j : Int) : (Lit.int .i64 j).sameKey (.int .i64 i) = (j == i) := by
  by_cases h : j = i
  · subst h; simp [Lit.sameKey]
  · simp [Lit.sameKey, h]
theorem lit_str {s t : ByteArray} (h : (DataW.lit (.string s.data.toList) : DataW Unit) = .lit (.string t.data.toList)) : s = t := by
  injection h with h
  injection h with h
  exact bytes_ext h
theorem lit_bool {l : List UInt8} (h : (DataW.lit (.bool true) : DataW Unit) = .lit (.string l)) : False := by
  injection h with h
  cases h
theorem look_some {D : DataW Unit} {f : Int → Option ByteArray} {i : Int} {s : ByteArray} (_hi : wf64 i) (h : Maps.has D (.int .i64 i) = (f i).isSome ∧ ∀ s, f i = some s → ∀ z, D.atKey (.int .i64 i) z = .lit (.string s.data.toList))
    (hat : ∀ zd, D.atKey (.int .i64 i) zd = .lit (.string s.data.toList)) : f i = some s := by
  cases hfi : f i with
  | none =>
    have hh : Maps.has D (.int .i64 i) = false := by rw [h.1, hfi]; rfl
    exact (lit_bool ((atKey_of_not_has hh _).symm.trans (hat _))).elim
  | some s' => rw [lit_str ((h.2 s' hfi (.lit (.bool true))).symm.trans (hat _))]
section
variable {ops : Array Oper} {rest : List Oper} {o : Oper} {a : Act} {Q : Exit → Act → World → Prop}
theorem wpList_range_sec (w : World) (hg : o.guard = none) (m : Operand) (hop : o.op = Op.range 107 m) (b n : Nat) (f : Int → Option ByteArray) (hm : a.eval m = .map (some b)) (hown : MapS w b n f)
    (hK : ∀ w' cnt, RangS w' b w.heap.size n f (fun i => (f i).isSome) cnt → w.grownBy w' none → w'.heap.size = w.heap.size + 1 → wpList Tryz.prog ops Q rest (a.put o.dst (.pointer (some ⟨w.heap.size, 0, none⟩))) w') :
    wpList Tryz.prog ops Q (o :: rest) a w := by
  obtain ⟨D, h1, h2⟩ := hown
  exact wpList_range_own w hg m 107 hop 3 128 lawI Tryz.underlying107 secE b n D hm h1 fun w' h3 h4 h5 => hK w' _ ⟨D, _, h3, h2, fun i hi => (h2 i hi).1⟩ h4 h5
theorem wpList_next_sec (w : World) (hg : o.guard = none) (it : Operand) (hop : o.op = Op.next it false) (b r n : Nat) (f : Int → Option ByteArray) (left : Int → Bool) (cnt : Nat) (hit : a.eval it = .pointer (some ⟨r, 0, none⟩)) (h : RangS w b r n f left cnt)
    (hDone : (∀ i, wf64 i → left i = false) → wpList Tryz.prog ops Q rest (a.put o.dst (.tuple #[.bool false])) w)
    (hMore : ∀ (i : Int) (s : ByteArray) (w' : World) (cnt' : Nat), wf64 i → left i = true → f i = some s → RangS w' b r n f (fun j => left j && !(j == i)) cnt' → cnt' < cnt → w.grownBy w' (some r) → w'.heap.size = w.heap.size →
      (Instr.entry (.pointer (some ⟨r, 0, none⟩))).run Tryz.prog w' = .ok (.tuple #[.int .i64 i, .agg #[.string s]]) w' → wpList Tryz.prog ops Q rest (a.put o.dst (.tuple #[.bool true, .int .i64 i, .agg #[.string s]])) w') :
    wpList Tryz.prog ops Q (o :: rest) a w := by
  obtain ⟨D, lf, h1, h2, h3⟩ := h
  refine wpList_next_ranges w hg it hop 3 lawI secE (Value.int .i64) (fun s => .agg #[.string s]) (fun key kl hkey => by obtain ⟨x, rfl, _⟩ := Maps.keyOf_int_inv Tryz.underlying3 hkey; exact ⟨x, rfl⟩) (fun v y hv => by obtain ⟨s, rfl, _⟩ := secE_inv hv; exact ⟨s, rfl⟩)
    b r n D lf cnt hit h1 (fun _ hl => hDone fun i hi => by rw [← h3 i hi]; exact hl _) fun i s kl y w' cnt' hkey hlk hv hat hrg hlt hgr hsz hen => ?_
  obtain ⟨i', ei, rfl, hwi⟩ := Maps.keyOf_int_inv Tryz.underlying3 hkey
  cases ei
  have hy : y = (.lit (.string s.data.toList), []) := Option.some.inj (hv.symm.trans (secE_mk s))
  subst hy
  have hf : f i = some s := look_some hwi (h2 i hwi) hat
  exact hMore i s w' cnt' hwi (by rw [← h3 i hwi]; exact hlk) hf ⟨D, _, hrg, h2, fun j hj => by show (lf _ && !(Lit.int .i64 j).sameKey (.int .i64 i)) = _; rw [h3 j hj, same_int]⟩ hlt hgr hsz hen
end
end Go.Proofs.YtdbiebnnogjccaaGreatDoor

/- Disks (layer 19): a map whose keys lie below a number has no more entries than that. -/
namespace Go.Proofs.YtdbiebnnogjccaaGreatDoor
open Go.RowKit Go.Maps
theorem nodup_below : ∀ (N : Nat) (l : List Nat), l.Nodup → (∀ x ∈ l, x < N) → l.length ≤ N
  | 0, [], _, _ => Nat.le_refl _
  | 0, x :: _, _, h => absurd (h x List.mem_cons_self) (by omega)
  | N + 1, l, hd, h => by
    by_cases hm : N ∈ l
    · have h1 := nodup_below N (l.erase N) (hd.erase N) fun x hx => by
        have h2 := h x (List.mem_of_mem_erase hx)
        have h3 := (hd.mem_erase_iff.1 hx).1
        omega
      rw [List.length_erase_of_mem hm] at h1
      omega
    · have h1 := nodup_below N l hd fun x hx => by
        have h2 := h x hx
        have h3 : x ≠ N := fun e => hm (e ▸ hx)
        omega
      omega
def litN : Lit → Nat
  | .int _ i => i.toNat
  | _ => 0
theorem MapS.tight {w : World} {b n N : Nat} {f : Int → Option ByteArray} (h : MapS w b n f) (hN : ∀ i, wf64 i → (f i).isSome = true → 0 ≤ i ∧ i < (N : Int)) : MapS w b N f := by
  obtain ⟨D, ⟨es, clock, hb, F, hs, rfl⟩, h2⟩ := h
  refine ⟨_, ⟨es, clock, hb, F, ?_, rfl⟩, h2⟩
  have hap := Maps.fit_apart lawI F
  have hk : ∀ p ∈ es.toList.map (WideElems.rg Tryz.prog 3 secE), ∃ i, p.1 = .int .i64 i ∧ 0 ≤ i ∧ i < (N : Int) := by
    intro p hp
    have hp0 := hp
    obtain ⟨x, hx, rfl⟩ := List.mem_map.1 hp
    obtain ⟨y, hy⟩ := F.reads x hx
    have hkey := WideElems.rd_key hy
    obtain ⟨i, _, hi, hwf⟩ := Maps.keyOf_int_inv Tryz.underlying3 hkey
    have e : (WideElems.rg Tryz.prog 3 secE x).1 = .int .i64 i := by unfold WideElems.rg; rw [hy]; exact hi
    have hh : Maps.has (DataW.map ((es.toList.map (WideElems.rg Tryz.prog 3 secE)).foldr DataW.insert [])) (.int .i64 i) = true := by
      rw [has_eq, List.any_eq_true]
      exact ⟨_, mem_sorted.2 hp0, by rw [e, same_int]; simp⟩
    rw [(h2 i hwf).1] at hh
    exact ⟨i, e, hN i hwf hh⟩
  have hlen : es.size = ((es.toList.map (WideElems.rg Tryz.prog 3 secE)).map fun p => litN p.1).length := by simp
  rw [hlen]
  refine nodup_below N _ ?_ ?_
  · rw [List.Nodup, List.pairwise_map]
    refine hap.imp_of_mem fun {p q} hp hq hne => ?_
    obtain ⟨i, ei, i0, _⟩ := hk p hp
    obtain ⟨j, ej, j0, _⟩ := hk q hq
    rw [ei, ej] at hne ⊢
    intro e
    apply hne
    have : i = j := by simp only [litN] at e; omega
    rw [this]
  · intro x hx
    obtain ⟨p, hp, rfl⟩ := List.mem_map.1 hx
    obtain ⟨i, ei, i0, i1⟩ := hk p hp
    rw [ei]
    simp only [litN]
    omega
end Go.Proofs.YtdbiebnnogjccaaGreatDoor

/- Disks (layer 19): a disk that nobody made. -/
namespace Go.Proofs.YtdbiebnnogjccaaGreatDoor
open Go.RowKit
set_option maxHeartbeats 1000000 in
theorem nil_Start (w : World) : Calls Tryz.prog 18 #[.pointer none] w fun e w' => e = .returned (.tuple #[]) ∧ w = w' := by
  go_enter Tryz.func18, Tryz.ntmps18
  go_wp2_with fail
  refine bodyPost_end (v := .tuple #[]) (by simp [results, Tryz.results18, go_sem]) rfl ?_
  exact ⟨rfl, rfl⟩
set_option maxHeartbeats 1000000 in
theorem nil_Dead (w : World) : Calls Tryz.prog 36 #[.pointer none] w fun e w' => e = .returned (.bool false) ∧ w = w' := by
  go_enter Tryz.func36, Tryz.ntmps36
  go_wp2_with fail
  go_ret
  exact ⟨rfl, rfl⟩
set_option maxHeartbeats 1000000 in
theorem nil_Size (w : World) : Calls Tryz.prog 68 #[.pointer none] w fun e w' => e = .returned (.int .i64 0) ∧ w = w' := by
  go_enter Tryz.func68, Tryz.ntmps68
  go_wp2_with fail
  go_ret
  exact ⟨rfl, rfl⟩
set_option maxHeartbeats 1000000 in
theorem nil_Crash (kv : Value) (w : World) : Calls Tryz.prog 17 #[.pointer none, kv] w fun e w' => e = .returned (.tuple #[]) ∧ w = w' := by
  go_enter Tryz.func17, Tryz.ntmps17
  go_wp2_with fail
  refine bodyPost_ret (v := .tuple #[]) (by simp [results, Tryz.results17, go_sem]) rfl ?_
  exact ⟨rfl, rfl⟩
set_option maxHeartbeats 1000000 in
theorem nil_Arm (n : Int) (kv : Value) (w : World) : Calls Tryz.prog 29 #[.pointer none, .int .i64 n, kv] w fun e w' => e = .returned (.int .i64 1) ∧ w = w' := by
  go_enter Tryz.func29, Tryz.ntmps29
  go_wp2_with fail
  go_ret
  exact ⟨rfl, rfl⟩
set_option maxHeartbeats 1000000 in
theorem nil_Dirty (w : World) : Calls Tryz.prog 96 #[.pointer none] w fun e w' => e = .returned (.slice none 0 0) ∧ w = w' := by
  go_enter Tryz.func96, Tryz.ntmps96
  go_wp2_with fail
  go_ret
  exact ⟨rfl, rfl⟩
set_option maxHeartbeats 1000000 in
theorem nil_Bytes (w : World) : Calls Tryz.prog 98 #[.pointer none] w fun e w' => e = .returned (.string ⟨#[]⟩) ∧ w = w' := by
  go_enter Tryz.func98, Tryz.ntmps98
  go_wp2_with fail
  go_ret
  exact ⟨rfl, rfl⟩
set_option maxHeartbeats 1000000 in
theorem nil_may (i : Int) (aD aA : Addr) (w : World) (hw : DkW w aD aA) : Calls Tryz.prog 91 #[.pointer none, .int .i64 i] w fun e w' => MayP 1 aD aA e w' ∧ Below w.heap.size w w' := by
  have vA := hw.vA
  clear hw
  go_enter Tryz.func91, Tryz.ntmps91
  go_wp2_with fail
  go_ret
  refine ⟨?_, below_alloc1 _ _⟩
  exact ⟨_, rfl, by rw [blk_cell (blk_new _ _)]; rfl⟩
set_option maxHeartbeats 1000000 in
theorem nil_Read (i : Int) (aD aA : Addr) (w : World) (hw : DkW w aD aA) : Calls Tryz.prog 69 #[.pointer none, .int .i64 i] w fun e w' => e = .returned (.tuple #[.string ⟨#[]⟩, .int .i64 1]) ∧ Below w.heap.size w w' := by
  have MY := Lib.hid (nil_may i aD aA w hw)
  have HW := Lib.hid hw
  clear hw
  go_enter Tryz.func69, Tryz.ntmps69
  go_wp2_with fail
  refine MY.out.mono ?_; rintro e w1 ⟨hp, hb1⟩
  unfold MayP at hp
  rw [if_neg (by decide)] at hp
  obtain ⟨p, rfl, hp1⟩ := hp
  have TL := Lib.hid (disk_told 1 (.inl rfl) p aD aA w1 (HW.out.below hb1) hp1)
  have B1 := Lib.hid hb1
  clear hb1 hp1
  go_wp2_with fail
  refine TL.out.mono ?_; rintro e w2 ⟨rfl, rfl⟩
  go_wp2_with fail
  go_ret2
  exact ⟨rfl, B1.out⟩
set_option maxHeartbeats 1000000 in
theorem nil_Flush (aD aA : Addr) (w : World) (hw : DkW w aD aA) : Calls Tryz.prog 76 #[.pointer none] w fun e w' => e = .returned (.int .i64 1) ∧ Below w.heap.size w w' := by
  have MY := Lib.hid (nil_may 0 aD aA w hw)
  have HW := Lib.hid hw
  clear hw
  go_enter Tryz.func76, Tryz.ntmps76
  go_wp2_with fail
  refine MY.out.mono ?_; rintro e w1 ⟨hp, hb1⟩
  unfold MayP at hp
  rw [if_neg (by decide)] at hp
  obtain ⟨p, rfl, hp1⟩ := hp
  have TL := Lib.hid (disk_told 1 (.inl rfl) p aD aA w1 (HW.out.below hb1) hp1)
  have B1 := Lib.hid hb1
  clear hb1 hp1
  go_wp2_with fail
  refine TL.out.mono ?_; rintro e w2 ⟨rfl, rfl⟩
  go_wp2_with fail
  go_ret
  exact ⟨rfl, B1.out⟩
set_option maxHeartbeats 1000000 in
theorem nil_Write (i : Int) (s : ByteArray) (aD aA : Addr) (w : World) (hw : DkW w aD aA) : Calls Tryz.prog 33 #[.pointer none, .int .i64 i, .string s] w fun e w' => e = .returned (.int .i64 1) ∧ Below w.heap.size w w' := by
  have MY := Lib.hid (nil_may i aD aA w hw)
  have HW := Lib.hid hw
  clear hw
  go_enter Tryz.func33, Tryz.ntmps33
  go_wp2_with fail
  refine MY.out.mono ?_; rintro e w1 ⟨hp, hb1⟩
  unfold MayP at hp
  rw [if_neg (by decide)] at hp
  obtain ⟨p, rfl, hp1⟩ := hp
  have TL := Lib.hid (disk_told 1 (.inl rfl) p aD aA w1 (HW.out.below hb1) hp1)
  have B1 := Lib.hid hb1
  clear hb1 hp1
  go_wp2_with fail
  refine TL.out.mono ?_; rintro e w2 ⟨rfl, rfl⟩
  go_wp2_with fail
  go_ret
  exact ⟨rfl, B1.out⟩
end Go.Proofs.YtdbiebnnogjccaaGreatDoor

/- Disks (layer 19): plain words: what a crash, a write, a flush make of a disk; what stays true of it. -/
namespace Go.Proofs.YtdbiebnnogjccaaGreatDoor
/-- What stays true of a disk. -/
structure Dk.Ok (d : Dk) : Prop where
  n0 : 1 ≤ d.n
  n1 : d.n ≤ 4096
  km : ∀ i, (d.m i).isSome = true → 0 ≤ i ∧ i < d.n
  kc : ∀ i, (d.c i).isSome = true → 0 ≤ i ∧ i < d.n
  sm : ∀ i s, d.m i = some s → s.size = 256
  sc : ∀ i s, d.c i = some s → s.size = 256
  lf : d.armed = true → 0 ≤ d.left ∧ d.left ≤ 100000
  kl : d.keep.length ≤ 65536
theorem nil256_size : nil256.size = 256 := by unfold nil256; rw [ofL_size, List.length_replicate]
theorem Dk.Ok.at_size {d : Dk} (h : d.Ok) (i : Int) : (d.at i).size = 256 := by
  unfold Dk.at
  cases hm : d.m i with
  | none => exact nil256_size
  | some s => exact h.sm i s hm
theorem Dk.Ok.tell_size {d : Dk} (h : d.Ok) (i : Int) : (d.tell i).size = 256 := by
  unfold Dk.tell
  cases hc : d.c i with
  | none => exact h.at_size i
  | some s => exact h.sc i s hc
/-- How many bytes are kept there; none: nothing is said. -/
def keptN (l : List (Int × Int)) (i : Int) : Option Nat := (l.find? fun x => x.1 == i).map fun x => (min (max x.2 0) 256).toNat
theorem keptN_le {l : List (Int × Int)} {i : Int} {n : Nat} (h : keptN l i = some n) : n ≤ 256 := by
  unfold keptN at h
  rw [Option.map_eq_some_iff] at h
  obtain ⟨x, _, rfl⟩ := h
  omega
/-- What is durable behind a crash. -/
def Dk.fallen (d : Dk) (l : List (Int × Int)) (i : Int) : Option ByteArray :=
  match d.c i with
  | none => d.m i
  | some s => match keptN l i with
    | none => d.m i
    | some n => some (s.extract 0 n ++ (d.at i).extract n 256)
def Dk.crash (d : Dk) (l : List (Int × Int)) : Dk := if d.dead then d else { d with m := d.fallen l, c := fun _ => none, dead := true, armed := false }
theorem Dk.Ok.crash {d : Dk} (h : d.Ok) (l : List (Int × Int)) : (d.crash l).Ok := by
  unfold Dk.crash
  split
  · exact h
  · refine ⟨h.n0, h.n1, fun i hi => ?_, (fun i hi => by cases hi), fun i s hs => ?_, (fun i s hs => by cases hs), (fun hi => by cases hi), h.kl⟩
    · show 0 ≤ i ∧ i < d.n
      have hi : (d.fallen l i).isSome = true := hi
      unfold Dk.fallen at hi
      cases hc : d.c i with
      | none => rw [hc] at hi; exact h.km i hi
      | some s => exact h.kc i (by rw [hc]; rfl)
    · have hs : d.fallen l i = some s := hs
      unfold Dk.fallen at hs
      cases hc : d.c i with
      | none => rw [hc] at hs; exact h.sm i s hs
      | some t =>
        rw [hc] at hs
        cases hk : keptN l i with
        | none => simp only [hk] at hs; exact h.sm i s hs
        | some n =>
          simp only [hk] at hs
          injection hs with hs
          have h1 := keptN_le hk
          have h2 := h.sc i t hc
          have h3 := h.at_size i
          rw [← hs, ByteArray.size_append, ByteArray.size_extract, ByteArray.size_extract]
          omega
end Go.Proofs.YtdbiebnnogjccaaGreatDoor
