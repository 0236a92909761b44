/- Heads (layer 20): lists of heads in memory; they are sorted. -/
import Derived.Test.YtoebldemcgahnaaGreatDoorHa
import Derived.Test.YtoebldemcgahnaaGreatDoorFr
import Derived.Test.YtoebldemcgahnaaGreatDoorDa
import Derived.Test.YtoebldemcgahnaaGreatDoorSh
import Derived.Test.YtoebldemcgahnaaGreatDoorSf
import Derived.Shelf.SlSortCmp.SmallK
import Derived.Test.YtoebldemcgahnaaGreatDoorSl
import Derived.Shelf.SlSortCmp.NoneTotal
import Derived.Deep.RegionHeld3
namespace Go.Proofs.YtoebldemcgahnaaGreatDoor
open Go.RowKit Go.Sort
instance : Inhabited Hd := ⟨⟨0, 0, 0⟩⟩
def Hd.enc (h : Hd) : List Value := [.int .u32 h.e, .int .i64 h.r, .int .u32 h.f]
theorem Hd.enc_v (h : Hd) : Value.agg h.enc.toArray = h.v := rfl
def cmpI (x y : Int) : Int := if x < y then -1 else if y < x then 1 else 0
theorem isNaN_u32 (x : Int) (w : World) : Calls Tryz.prog 119 #[.int .u32 x] w fun e w' => e = .returned (.bool false) ∧ w' = w := by
  have q : (x != x) = false := by simp
  go_enter Tryz.func119, Tryz.ntmps119
  go_wp2_with fail
  go_ret
  exact ⟨rfl, rfl⟩
theorem cmp_u32 (x y : Int) (w : World) : Calls Tryz.prog 87 #[.int .u32 x, .int .u32 y] w fun e w' => e = .returned (.int .i64 (cmpI x y)) ∧ w' = w := by
  have N := Lib.hid isNaN_u32
  by_cases h1 : x < y
  · rw [show cmpI x y = -1 by unfold cmpI; rw [if_pos h1]]
    go_enter Tryz.func87, Tryz.ntmps87
    go_wp2_with fail
    refine (N.out _ _).mono ?_; rintro e w' ⟨rfl, rfl⟩
    go_wp2_with fail
    refine (N.out _ _).mono ?_; rintro e w' ⟨rfl, rfl⟩
    go_wp2_with fail
    go_ret
    exact ⟨rfl, rfl⟩
  · by_cases h2 : y < x
    · rw [show cmpI x y = 1 by unfold cmpI; rw [if_neg h1, if_pos h2]]
      go_enter Tryz.func87, Tryz.ntmps87
      go_wp2_with fail
      refine (N.out _ _).mono ?_; rintro e w' ⟨rfl, rfl⟩
      go_wp2_with fail
      refine (N.out _ _).mono ?_; rintro e w' ⟨rfl, rfl⟩
      go_wp2_with fail
      go_ret
      exact ⟨rfl, rfl⟩
    · rw [show cmpI x y = 0 by unfold cmpI; rw [if_neg h1, if_neg h2]]
      go_enter Tryz.func87, Tryz.ntmps87
      go_wp2_with fail
      refine (N.out _ _).mono ?_; rintro e w' ⟨rfl, rfl⟩
      go_wp2_with fail
      refine (N.out _ _).mono ?_; rintro e w' ⟨rfl, rfl⟩
      go_wp2_with fail
      go_ret
      exact ⟨rfl, rfl⟩
set_option maxHeartbeats 1000000 in
theorem head_Read_cmp (x y : Hd) (W : World) : Calls Tryz.prog 86 #[.agg x.enc.toArray, .agg y.enc.toArray] W fun e w' => e = .returned (.int .i64 (cmpI y.e x.e)) ∧ ∃ q os', w' = grow (W.drewN q) os' := by
  have hcon := Lib.hid (fun W' => cmp_u32 y.e x.e W')
  obtain ⟨c, hc⟩ : ∃ c, c = cmpI y.e x.e := ⟨_, rfl⟩
  rw [← hc] at hcon ⊢
  clear hc
  show Calls _ _ #[.agg #[.int .u32 x.e, .int .i64 x.r, .int .u32 x.f], .agg #[.int .u32 y.e, .int .i64 y.r, .int .u32 y.f]] _ _
  go_enter Tryz.func86, Tryz.ntmps86
  go_wp2_with fail
  refine (hcon.out _).mono ?_; rintro e w' ⟨rfl, rfl⟩
  go_wp2_with fail
  go_ret
  exact ⟨rfl, 0, _, by rw [alloc_eq_grow, alloc_eq_grow, grow_grow]; rfl⟩
/-- Heads in memory, three cells each. -/
structure HdsAt (w : World) (b off : Nat) (l : List Hd) : Prop where
  lt : l ≠ [] → b < w.heap.size
  ce : ∀ i (h : i < l.length), w.cell? ⟨b, off + i * 3, none⟩ = some (.int .u32 l[i].e)
  cr : ∀ i (h : i < l.length), w.cell? ⟨b, off + i * 3 + 1, none⟩ = some (.int .i64 l[i].r)
  cf : ∀ i (h : i < l.length), w.cell? ⟨b, off + i * 3 + 2, none⟩ = some (.int .u32 l[i].f)
theorem HdsAt.below {w w' : World} {b off : Nat} {l : List Hd} (h : HdsAt w b off l) (hb : Below w.heap.size w w') : HdsAt w' b off l := by
  by_cases hl : l = []
  · subst hl
    exact ⟨fun h => absurd rfl h, fun i h => absurd h (by simp), fun i h => absurd h (by simp), fun i h => absurd h (by simp)⟩
  · have hlt := h.lt hl
    exact ⟨fun _ => Nat.lt_of_lt_of_le hlt hb.size, fun i hi => by rw [hb.cell (p := ⟨b, off + i * 3, none⟩) hlt]; exact h.ce i hi, fun i hi => by rw [hb.cell (p := ⟨b, off + i * 3 + 1, none⟩) hlt]; exact h.cr i hi, fun i hi => by rw [hb.cell (p := ⟨b, off + i * 3 + 2, none⟩) hlt]; exact h.cf i hi⟩
def SlHds (w : World) (v : Value) (l : List Hd) : Prop := (v = .slice none 0 0 ∧ l = []) ∨ ∃ b off cap, v = .slice (some ⟨b, off, none⟩) l.length cap ∧ l.length ≤ cap ∧ HdsAt w b off l
theorem SlHds.below {w w' : World} {v : Value} {l : List Hd} (h : SlHds w v l) (hb : Below w.heap.size w w') : SlHds w' v l := by
  rcases h with h | ⟨b, off, cap, e, hc, h⟩
  · exact .inl h
  · exact .inr ⟨b, off, cap, e, hc, h.below hb⟩
def hdCells (l : List Hd) : List Value := (l.map Hd.enc).flatten
theorem hdCells_len : ∀ l : List Hd, (hdCells l).length = l.length * 3
  | [] => rfl
  | x :: l => by
    have e : hdCells (x :: l) = x.enc ++ hdCells l := by simp [hdCells]
    rw [e, List.length_append, hdCells_len l, List.length_cons]
    simp [Hd.enc]; omega
theorem hdCells_append (a b : List Hd) : hdCells (a ++ b) = hdCells a ++ hdCells b := by simp [hdCells]
theorem hdCells_get : ∀ (l : List Hd) (i j : Nat) (h : i < l.length), j < 3 → (hdCells l)[i * 3 + j]? = l[i].enc[j]?
  | [], i, j, h, _ => absurd h (by simp)
  | x :: l, 0, j, _, hj => by
    have e : hdCells (x :: l) = x.enc ++ hdCells l := by simp [hdCells]
    rw [e, List.getElem?_append_left (by simp [Hd.enc]; omega)]; simp
  | x :: l, i + 1, j, h, hj => by
    have e : hdCells (x :: l) = x.enc ++ hdCells l := by simp [hdCells]
    rw [e, List.getElem?_append_right (by simp [Hd.enc]; omega)]
    have := hdCells_get l i j (by simpa using h) hj
    simp only [Hd.enc, List.length_cons, List.length_nil] at this ⊢
    rw [show (i + 1) * 3 + j - 3 = i * 3 + j by omega]
    simpa using this
end Go.Proofs.YtoebldemcgahnaaGreatDoor

/- Heads (layer 20): two heads at most are sorted. -/
namespace Go.Proofs.YtoebldemcgahnaaGreatDoor
open Go.RowKit Go.Sort
def sortH : List Hd → List Hd
  | [a, b] => if a.e < b.e then [b, a] else [a, b]
  | l => l
theorem cmpI_neg (x y : Int) : decide (cmpI x y < 0) = decide (x < y) := by
  unfold cmpI
  by_cases h : x < y
  · simp [h]
  · by_cases h2 : y < x <;> simp [h, h2]
theorem sort_one (a : Hd) : insertionSort (ltOf fun x y : Hd => cmpI y.e x.e) #[a] 0 1 = #[a] := by
  unfold insertionSort insOuter
  simp
theorem sort_two (a b : Hd) : insertionSort (ltOf fun x y : Hd => cmpI y.e x.e) #[a, b] 0 2 = (sortH [a, b]).toArray := by
  unfold insertionSort insOuter
  simp [insInner, ltOf, cmpI_neg, sortH, insOuter, swp]
  split <;> rfl
theorem holdsK_heads {w : World} {g : Nat} {cur : Array Value} {e : TypeId} {l : List Hd} (hb : w.heap[g]? = some (.cells cur e (0, 0))) (ht : cur.toList.take (l.length * 3) = hdCells l) : HoldsK Hd.enc 3 w g 0 l.toArray := by
  intro j hj
  rw [size_flatK] at hj
  have hj3 : j < l.length * 3 := by simpa using hj
  have h0 : j / 3 < l.length := by omega
  refine ⟨?_, by simp [World.frozen?, hb]⟩
  rw [get_flatK _ _ _ _ hj]
  have h1 : (cur.toList.take (l.length * 3))[j]? = (hdCells l)[j]? := by rw [ht]
  rw [List.getElem?_take_of_lt hj3] at h1
  have h2 := hdCells_get l (j / 3) (j % 3) h0 (by omega)
  rw [show j / 3 * 3 + j % 3 = j by omega] at h2
  rw [h2] at h1
  have e3 : l.toArray[j / 3]! = l[j / 3] := by simp [h0]
  rw [e3]
  simp only [World.cell?, hb, Nat.zero_add, id]
  have hlt : j % 3 < (l[j / 3]).enc.length := by simp [Hd.enc]; omega
  rw [List.getElem?_eq_getElem hlt, Array.getElem?_toList] at h1
  rw [h1]
  simp [hlt]
theorem HdsAt.of_holds {w : World} {b off : Nat} {l : List Hd} (h : HoldsK Hd.enc 3 w b off l.toArray) (hb : b < w.heap.size) : HdsAt w b off l := by
  refine ⟨fun _ => hb, fun i hi => ?_, fun i hi => ?_, fun i hi => ?_⟩
  · have := (h.cell (i := i) (c := 0) (by simpa using hi) (by decide)).1
    simpa [Hd.enc, hi] using this
  · have := (h.cell (i := i) (c := 1) (by simpa using hi) (by decide)).1
    simpa [Hd.enc, hi] using this
  · have := (h.cell (i := i) (c := 2) (by simpa using hi) (by decide)).1
    simpa [Hd.enc, hi] using this
theorem sortH_length (l : List Hd) : (sortH l).length = l.length := by
  unfold sortH
  split
  · split <;> rfl
  · rfl
theorem sort_few : ∀ {l : List Hd}, l.length ≤ 2 → insertionSort (ltOf fun x y : Hd => cmpI y.e x.e) l.toArray 0 l.toArray.size = (sortH l).toArray
  | [], _ => by unfold insertionSort insOuter; simp [sortH]
  | [a], _ => sort_one a
  | [a, b], _ => sort_two a b
  | _ :: _ :: _ :: _, h => absurd h (by simp)
theorem fr_sortWorldK {w : World} {g n B : Nat} {os : Array Obj} (d : Array Hd) (hg : B ≤ g) : Fr (fun x => B ≤ x) w (sortWorldK Hd.enc 3 w g 0 n d os) := by
  refine ⟨rfl, rfl, rfl, by simp [sortWorldK, putRowK, putRow, mapBlock, Sort.ahead, grow], fun k hk hs => ?_⟩
  unfold sortWorldK
  rw [heap_grow_old _ _ (by simpa [putRowK, putRow, mapBlock, Sort.ahead] using hk)]
  have : g ≠ k := fun e => hs (by omega)
  simp [putRowK, putRow, mapBlock, Sort.ahead, Array.getElem?_modify, this]
theorem sort_heads (v : Value) (l : List Hd) (h2 : l.length ≤ 2) (B : Nat) (w : World) (hv : w.ownsRow B 54 3 v l.length (hdCells l)) :
    Calls Tryz.prog 85 #[v, .func (.func 86) #[] #[]] w fun e w' => e = .returned (.tuple #[]) ∧ SlHds w' v (sortH l) ∧ Fr (fun x => B ≤ x) w w' := by
  rcases hv.2 with ⟨hnil, h0⟩ | ⟨g, cap, cur, rfl, hB, hb, h1, h3, h4, h5⟩
  · obtain rfl : l = [] := List.eq_nil_of_length_eq_zero h0
    subst hnil
    refine (AnyF.slices_SortFunc_none Tryz.sortH none 0 (.func (.func 86) #[] #[]) w).mono ?_
    rintro e w' ⟨rfl, rfl⟩
    exact ⟨rfl, .inl ⟨rfl, rfl⟩, Fr.refl _ _⟩
  · have hH := holdsK_heads hb h5
    have eg : ∀ args w, (callFunc 86 args).run Tryz.prog w = .ok (.enter 86 args) w := enters_of Tryz.func86 (by kernel_rfl) rfl
    have hc := AnyQ.slices_SortFunc_small Tryz.sortH 3 Tryz.isAgg54 Tryz.sizeOf54 Hd.enc (fun _ => rfl) (fun x v hv => by simp [Hd.enc] at hv; rcases hv with rfl | rfl | rfl <;> rfl) (fun x y => cmpI y.e x.e) 86 #[] g 0 cap l.toArray w eg
      (fun _ _ _ _ x y => head_Read_cmp x y _) hH (blk_lt hb) (by show l.length ≤ 12; omega) (fun n W hn => (Tryz.bits_Len n W (by omega) (by omega)).mono fun _ _ ⟨he, hw⟩ => ⟨⟨_, he⟩, hw⟩)
    rw [sort_few h2] at hc
    refine hc.mono ?_
    rintro e w' ⟨rfl, n, os, rfl⟩
    have hK := holdsK_sortWorldK_c Hd.enc 3 w g 0 l.toArray (sortH l).toArray n os hH (blk_lt hb) (by simp [sortH_length])
    have hsz := size_sortWorldK_c Hd.enc 3 w g 0 n (sortH l).toArray os
    refine ⟨rfl, .inr ⟨g, 0, cap, by rw [sortH_length], by rw [sortH_length]; exact h1, HdsAt.of_holds hK (by have := blk_lt hb; omega)⟩, fr_sortWorldK _ hB⟩
end Go.Proofs.YtoebldemcgahnaaGreatDoor

/- append([]T{}, xs...) of whatever cells: the run, a plain operation, a step of a region that draws its order. -/
namespace Go.Proofs.YtoebldemcgahnaaGreatDoor
open Go.RowKit
/-- A slice's n elements read as these cells. -/
def SlCells (w : World) (v : Value) (n : Nat) (cs : List Value) : Prop := (n = 0 ∧ cs = [] ∧ ∃ p c, v = .slice p 0 c) ∨ ∃ b off cap, v = .slice (some ⟨b, off, none⟩) n cap ∧ ∀ j u, cs[j]? = some u → w.cell? ⟨b, off + j, none⟩ = some u
theorem run_append_new {P : Program} (w : World) (t ty e : TypeId) (i : TypeInfo) (z : Value) (ht : P.underlying t = some (.slice e)) (hi : P.info? e = some i) (hz : i.zero = some z) (size : Nat) (hsize : i.size = size) (hby : i.bytes ≤ 128)
    (H : Nat) (sv : Value) (n : Nat) (cs : List Value) (hcs : cs.length = n * size) (hsrc : SlCells w sv n cs) (hl : n ≤ 1000000) :
    ∃ g c w', (Builtin.append_ #[t, t] ty #[.slice (some ⟨H, 0, none⟩) 0 0, sv]).run P w = .ok (.slice (some ⟨g, 0, none⟩) n c) w' ∧ n ≤ c ∧ (∀ j u, cs[j]? = some u → w'.cell? ⟨g, j, none⟩ = some u) ∧ Below w.heap.size w w' ∧ (g = H ∨ g = w.heap.size) ∧ (0 < n → g = w.heap.size ∧ g < w'.heap.size) := by
  by_cases h0 : n = 0
  · subst h0
    obtain rfl : cs = [] := List.eq_nil_of_length_eq_zero (by simpa using hcs)
    refine ⟨H, 0, w, ?_, Nat.le_refl _, (fun j u h => by simp at h), Below.refl _ _, .inl rfl, fun h => absurd h (by omega)⟩
    rcases hsrc with ⟨_, _, p, c, rfl⟩ | ⟨b, off, cap, rfl, _⟩
    · cases p <;> simp [Builtin.append_, run_underlying ht, sizeOf, typeInfo, hi, Builtin.lenOf, Builtin.firstCells, loadCells, loadCellsFrom, storeCells]
    · simp [Builtin.append_, run_underlying ht, sizeOf, typeInfo, hi, Builtin.lenOf, Builtin.firstCells, loadCells, loadCellsFrom, storeCells]
  · rcases hsrc with ⟨h1, _⟩ | ⟨b, off, cap, rfl, hat⟩
    · exact absurd h1 h0
    · have hb8 : n * i.bytes ≤ 1000000 * 128 := Nat.mul_le_mul hl hby
      have hr := run_append_grow (P := P) w t ty e i z ht hi hz ⟨H, 0, none⟩ 0 0 [] (by simp) (fun j v h => by simp at h) ⟨b, off, none⟩ n cap cs (by rw [hcs, hsize])
        (fun j v hj => by
          have hadd : (⟨b, off, none⟩ : Addr).add j = ⟨b, off + j, none⟩ := by unfold Addr.add; split <;> simp_all
          rw [hadd]; exact hat j v hj)
        (by omega) (by omega) (growslice_fits (by omega) (by rw [Nat.zero_add]; omega))
      simp only [Nat.zero_add] at hr
      have hge := grownCap_ge w n 0 e
      refine ⟨_, _, _, hr, hge, fun j u hj => ?_, ?_, .inr rfl, fun _ => ⟨rfl, by simp⟩⟩
      · have := blk_cell (blk_new w.drew (.cells ((#[] : Array Value) ++ cs.toArray ++ Builtin.zeroCells z.cells (grownCap w n 0 e - n)) e)) j
        refine this.trans ?_
        have hjl : j < cs.length := (List.getElem?_eq_some_iff.1 hj).1
        rw [Array.getElem?_append_left (by simp; exact hjl), Array.getElem?_append_right (by simp)]
        simp [hj]
      · have hb := (Below.refl w.drew.heap.size w.drew).alloc (Nat.le_refl _) (.cells ((#[] : Array Value) ++ cs.toArray ++ Builtin.zeroCells z.cells (grownCap w n 0 e - n)) e)
        exact ⟨hb.os, hb.tape, hb.output, hb.size, hb.block⟩
theorem wpList_append_new {P : Program} {w : World} {ops : Array Oper} {rest : List Oper} {o : Oper} {a : Act} {Q : Exit → Act → World → Prop} (hgd : o.guard = none) (s x : Operand) (t : TypeId)
    (ho : o.op = .call { callee := .builtin .append, args := #[s, x], argTypes := #[t, t] })
    (e : TypeId) (i : TypeInfo) (z : Value) (ht : P.underlying t = some (.slice e)) (hi : P.info? e = some i) (hz : i.zero = some z) (size : Nat) (hsize : i.size = size) (hby : i.bytes ≤ 128)
    (H : Nat) (hs : a.eval s = .slice (some ⟨H, 0, none⟩) 0 0) (sv : Value) (hx : a.eval x = sv) (n : Nat) (cs : List Value) (hcs : cs.length = n * size) (hsrc : SlCells w sv n cs) (hl : n ≤ 1000000)
    (h : ∀ g c w', n ≤ c → (∀ j u, cs[j]? = some u → w'.cell? ⟨g, j, none⟩ = some u) → Below w.heap.size w w' → (g = H ∨ g = w.heap.size) → (0 < n → g = w.heap.size ∧ g < w'.heap.size) → wpList P ops Q rest (a.put o.dst (.slice (some ⟨g, 0, none⟩) n c)) w') :
    wpList P ops Q (o :: rest) a w := by
  refine wpList_plain hgd fun K hK => ?_
  obtain ⟨g, c, w', hr, h2, h3, h4, h5, h6⟩ := run_append_new (P := P) w t o.type e i z ht hi hz size hsize hby H sv n cs hcs hsrc hl
  unfold Oper.wp execOp
  simp only [ho, resolve, invoke, builtin, Sem.run_bind, Sem.run_pure, Result.andThen_ok, List.map_toArray, List.map_cons, List.map_nil, hs, hx, hr]
  exact hK _ _ (h g c w' h2 h3 h4 h5 h6)
theorem step_append_new {P : Program} {w : World} {ops : Array Oper} {o : Oper} {a : Act} {K : Act → World → Prop} {Q : Exit → Act → World → Prop} {E : Prop} (hgd : o.guard = none) (s x : Operand) (t : TypeId)
    (ho : o.op = .call { callee := .builtin .append, args := #[s, x], argTypes := #[t, t] })
    (e : TypeId) (i : TypeInfo) (z : Value) (ht : P.underlying t = some (.slice e)) (hi : P.info? e = some i) (hz : i.zero = some z) (size : Nat) (hsize : i.size = size) (hby : i.bytes ≤ 128)
    (H : Nat) (hs : a.eval s = .slice (some ⟨H, 0, none⟩) 0 0) (sv : Value) (hx : a.eval x = sv) (n : Nat) (cs : List Value) (hcs : cs.length = n * size) (hsrc : SlCells w sv n cs) (hl : n ≤ 1000000)
    (h : ∀ g c w', n ≤ c → (∀ j u, cs[j]? = some u → w'.cell? ⟨g, j, none⟩ = some u) → Below w.heap.size w w' → (g = H ∨ g = w.heap.size) → (0 < n → g = w.heap.size ∧ g < w'.heap.size) → K (a.put o.dst (.slice (some ⟨g, 0, none⟩) n c)) w') :
    if Region.wanted o (yielded ops a.tmps) = true then Oper.wp P o a w K Q else E := by
  have hw : Region.wanted o (yielded ops a.tmps) = true := by simp [Region.wanted, hgd]
  rw [if_pos hw]
  obtain ⟨g, c, w', hr, h2, h3, h4, h5, h6⟩ := run_append_new (P := P) w t o.type e i z ht hi hz size hsize hby H sv n cs hcs hsrc hl
  unfold Oper.wp execOp
  simp only [ho, resolve, invoke, builtin, Sem.run_bind, Sem.run_pure, Result.andThen_ok, List.map_toArray, List.map_cons, List.map_nil, hs, hx, hr]
  exact h g c w' h2 h3 h4 h5 h6
end Go.Proofs.YtoebldemcgahnaaGreatDoor
