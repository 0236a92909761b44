/- Heads (layer 20): two heads at most are sorted. -/
import Derived.Test.YtndabaadenlhnaaGreatDoorJg
import Derived.Test.YtndabaadenlhnaaGreatDoorSl
import Derived.Shelf.SlSortCmp.NoneTotal
namespace Go.Proofs.YtndabaadenlhnaaGreatDoor
open Go.RowKit Go.Sort
def sortH : List Hd → List Hd
  | [a, b] => if a.e < b.e then [b, a] else [a, b]
  | l => l
theorem cmpI_neg (x y : Int) : decide (cmpI x y < 0) = decide (x < y) := by
  unfold cmpI
  by_cases h : x < y
  · simp [h]
  · by_cases h2 : y < x <;> simp [h, h2]
theorem sort_one (a : Hd) : insertionSort (ltOf fun x y : Hd => cmpI y.e x.e) #[a] 0 1 = #[a] := by
  unfold insertionSort insOuter
  simp
theorem sort_two (a b : Hd) : insertionSort (ltOf fun x y : Hd => cmpI y.e x.e) #[a, b] 0 2 = (sortH [a, b]).toArray := by
  unfold insertionSort insOuter
  simp [insInner, ltOf, cmpI_neg, sortH, insOuter, swp]
  split <;> rfl
theorem holdsK_heads {w : World} {g : Nat} {cur : Array Value} {e : TypeId} {l : List Hd} (hb : w.heap[g]? = some (.cells cur e (0, 0))) (ht : cur.toList.take (l.length * 3) = hdCells l) : HoldsK Hd.enc 3 w g 0 l.toArray := by
  intro j hj
  rw [size_flatK] at hj
  have hj3 : j < l.length * 3 := by simpa using hj
  have h0 : j / 3 < l.length := by omega
  refine ⟨?_, by simp [World.frozen?, hb]⟩
  rw [get_flatK _ _ _ _ hj]
  have h1 : (cur.toList.take (l.length * 3))[j]? = (hdCells l)[j]? := by rw [ht]
  rw [List.getElem?_take_of_lt hj3] at h1
  have h2 := hdCells_get l (j / 3) (j % 3) h0 (by omega)
  rw [show j / 3 * 3 + j % 3 = j by omega] at h2
  rw [h2] at h1
  have e3 : l.toArray[j / 3]! = l[j / 3] := by simp [h0]
  rw [e3]
  simp only [World.cell?, hb, Nat.zero_add, id]
  have hlt : j % 3 < (l[j / 3]).enc.length := by simp [Hd.enc]; omega
  rw [List.getElem?_eq_getElem hlt, Array.getElem?_toList] at h1
  rw [h1]
  simp [hlt]
theorem HdsAt.of_holds {w : World} {b off : Nat} {l : List Hd} (h : HoldsK Hd.enc 3 w b off l.toArray) (hb : b < w.heap.size) : HdsAt w b off l := by
  refine ⟨fun _ => hb, fun i hi => ?_, fun i hi => ?_, fun i hi => ?_⟩
  · have := (h.cell (i := i) (c := 0) (by simpa using hi) (by decide)).1
    simpa [Hd.enc, hi] using this
  · have := (h.cell (i := i) (c := 1) (by simpa using hi) (by decide)).1
    simpa [Hd.enc, hi] using this
  · have := (h.cell (i := i) (c := 2) (by simpa using hi) (by decide)).1
    simpa [Hd.enc, hi] using this
theorem sortH_length (l : List Hd) : (sortH l).length = l.length := by
  unfold sortH
  split
  · split <;> rfl
  · rfl
theorem sort_few : ∀ {l : List Hd}, l.length ≤ 2 → insertionSort (ltOf fun x y : Hd => cmpI y.e x.e) l.toArray 0 l.toArray.size = (sortH l).toArray
  | [], _ => by unfold insertionSort insOuter; simp [sortH]
  | [a], _ => sort_one a
  | [a, b], _ => sort_two a b
  | _ :: _ :: _ :: _, h => absurd h (by simp)
theorem fr_sortWorldK {w : World} {g n B : Nat} {os : Array Obj} (d : Array Hd) (hg : B ≤ g) : Fr (fun x => B ≤ x) w (sortWorldK Hd.enc 3 w g 0 n d os) := by
  refine ⟨rfl, rfl, rfl, by simp [sortWorldK, putRowK, putRow, mapBlock, Sort.ahead, grow], fun k hk hs => ?_⟩
  unfold sortWorldK
  rw [heap_grow_old _ _ (by simpa [putRowK, putRow, mapBlock, Sort.ahead] using hk)]
  have : g ≠ k := fun e => hs (by omega)
  simp [putRowK, putRow, mapBlock, Sort.ahead, Array.getElem?_modify, this]
theorem sort_heads (v : Value) (l : List Hd) (h2 : l.length ≤ 2) (B : Nat) (w : World) (hv : w.ownsRow B 24 3 v l.length (hdCells l)) :
    Calls Tryz.prog 50 #[v, .func (.func 51) #[] #[]] w fun e w' => e = .returned (.tuple #[]) ∧ SlHds w' v (sortH l) ∧ Fr (fun x => B ≤ x) w w' := by
  rcases hv.2 with ⟨hnil, h0⟩ | ⟨g, cap, cur, rfl, hB, hb, h1, h3, h4, h5⟩
  · obtain rfl : l = [] := List.eq_nil_of_length_eq_zero h0
    subst hnil
    refine (AnyF.slices_SortFunc_none Tryz.sortH none 0 (.func (.func 51) #[] #[]) w).mono ?_
    rintro e w' ⟨rfl, rfl⟩
    exact ⟨rfl, .inl ⟨rfl, rfl⟩, Fr.refl _ _⟩
  · have hH := holdsK_heads hb h5
    have eg : ∀ args w, (callFunc 51 args).run Tryz.prog w = .ok (.enter 51 args) w := enters_of Tryz.func51 (by kernel_rfl) rfl
    have hc := AnyQ.slices_SortFunc_small Tryz.sortH 3 Tryz.isAgg24 Tryz.sizeOf24 Hd.enc (fun _ => rfl) (fun x v hv => by simp [Hd.enc] at hv; rcases hv with rfl | rfl | rfl <;> rfl) (fun x y => cmpI y.e x.e) 51 #[] g 0 cap l.toArray w eg
      (fun _ _ _ _ x y => head_Read_cmp x y _) hH (blk_lt hb) (by show l.length ≤ 12; omega) (fun n W hn => (Tryz.bits_Len n W (by omega) (by omega)).mono fun _ _ ⟨he, hw⟩ => ⟨⟨_, he⟩, hw⟩)
    rw [sort_few h2] at hc
    refine hc.mono ?_
    rintro e w' ⟨rfl, n, os, rfl⟩
    have hK := holdsK_sortWorldK_c Hd.enc 3 w g 0 l.toArray (sortH l).toArray n os hH (blk_lt hb) (by simp [sortH_length])
    have hsz := size_sortWorldK_c Hd.enc 3 w g 0 n (sortH l).toArray os
    refine ⟨rfl, .inr ⟨g, 0, cap, by rw [sortH_length], by rw [sortH_length]; exact h1, HdsAt.of_holds hK (by have := blk_lt hb; omega)⟩, fr_sortWorldK _ hB⟩
end Go.Proofs.YtndabaadenlhnaaGreatDoor
