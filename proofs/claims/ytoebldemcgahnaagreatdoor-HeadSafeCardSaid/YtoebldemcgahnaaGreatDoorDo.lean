/- Disks (layer 19): Dirty. -/
import Derived.Test.YtoebldemcgahnaaGreatDoorDn
import Derived.Test.YtoebldemcgahnaaGreatDoorIl
import Derived.Test.YtoebldemcgahnaaGreatDoorSi
import Derived.Shelf.SlIterI.Nil
namespace Go.Proofs.YtoebldemcgahnaaGreatDoor
open Go.RowKit Go.Maps Go.Sort Go.Shelf
/-- The places with cached bytes, rising. -/
def Dk.dirty (d : Dk) : List Int := ((List.range d.n.toNat).map Int.ofNat).filter fun i => (d.c i).isSome
theorem Dk.mem_dirty {d : Dk} (ok : d.Ok0) (x : Int) : x ∈ d.dirty ↔ (d.c x).isSome = true := by
  unfold Dk.dirty
  rw [List.mem_filter, List.mem_map]
  constructor
  · exact fun h => h.2
  · intro h
    have := ok.kc x h
    exact ⟨⟨x.toNat, by rw [List.mem_range]; omega, by show ((x.toNat : Nat) : Int) = x; omega⟩, h⟩
theorem rangeI_lt : ∀ n : Nat, ((List.range n).map Int.ofNat).Pairwise (· < ·) := fun n => by
  rw [List.pairwise_map]
  exact List.pairwise_lt_range.imp (fun h => by show (_ : Int) < _; exact Int.ofNat_lt.2 h)
theorem Dk.dirty_lt (d : Dk) : d.dirty.Pairwise (· < ·) := (rangeI_lt _).filter _
theorem Dk.dirty_nodup (d : Dk) : d.dirty.Nodup := d.dirty_lt.imp (fun h => by intro e; omega)
theorem Dk.dirty_sorted (d : Dk) {ss : List Int} (h : ss.Perm d.dirty) : (ss.mergeSort fun x y => decide (x ≤ y)) = d.dirty := by
  have e := mergeSort_of_perm_i h
  show ss.mergeSort leI = _
  rw [e]
  refine List.mergeSort_of_pairwise ?_
  exact d.dirty_lt.imp (fun h => by simp only [leI, decide_eq_true_eq]; omega)
theorem Dk.dirty_len (d : Dk) : d.dirty.length ≤ d.n.toNat := by
  unfold Dk.dirty
  refine Nat.le_trans (List.length_filter_le _ _) ?_
  simp
theorem dirty_perm {w : World} {b n : Nat} {D : DataW Unit} {d : Dk} (ok : d.Ok0) (hown : w.ownsMap Tryz.prog 3 secE b n D) (hD : ∀ i, wf64 i → Maps.has D (.int .i64 i) = (d.c i).isSome ∧ ∀ s, d.c i = some s → ∀ z, D.atKey (.int .i64 i) z = .lit (.string s.data.toList)) : d.dirty.Perm (intKeys D) := by
  refine CollectedI.perm (left := fun _ => false) ⟨d.dirty_nodup, fun x => ?_⟩ hown lawI Tryz.underlying3 (fun _ => rfl)
  rw [Dk.mem_dirty ok]
  constructor
  · intro h
    have := ok.kc x h
    exact ⟨by rw [(hD x (wf64_of (by omega) (by have := ok.n1; omega))).1]; exact h, rfl⟩
  · rintro ⟨h, _⟩
    have hwf : wf64 x := by
      obtain ⟨es, rfl, _⟩ := hown.keysOf
      have hmem : x ∈ intKeys (.map es) := by
        rw [has_eq, List.any_eq_true] at h
        obtain ⟨p, hp, hs⟩ := h
        obtain ⟨es', he', hko⟩ := hown.keysOf
        injection he' with he'
        subst he'
        obtain ⟨v, hv⟩ := hko p hp
        obtain ⟨y, _, hy, _⟩ := Maps.keyOf_i64 Tryz.underlying3 hv
        unfold intKeys
        rw [List.mem_map]
        refine ⟨p, hp, ?_⟩
        rw [hy] at hs ⊢
        show y = x
        simpa [Lit.sameKey] using hs
      exact intKeys_wf hown Tryz.underlying3 x hmem
    rw [← (hD x hwf).1]; exact h
theorem sortsA (m : Nat) : AnyZI.SortsIn Tryz.prog Tryz.sortedA_ren Fence.wide m :=
  ⟨fun blk off cap ss W hH hblk hsz => callsIn_wide.2 (Tryz.slices_Sort_int blk off cap ss W hH hblk hsz), fun p cap W => callsIn_wide.2 (Tryz.slices_Sort_int_none p cap W)⟩
def DirtyP (d : Dk) (w : World) (e : Ending) (w' : World) : Prop := ∃ v, e = .returned v ∧ SlIl w' v d.dirty ∧ Below w.heap.size w w'
set_option maxRecDepth 20000 in
set_option maxHeartbeats 2000000 in
theorem disk_Dirty (g mb cb : Nat) (kv : Value) (d : Dk) (w : World) (hd : DiskAt w g mb cb 4096 kv d) (ok : d.Ok0) :
    Calls Tryz.prog 39 #[.pointer (some ⟨g, 0, none⟩)] w (DirtyP d w) := by
  refine (callsIn_wide (n := 6)).1 ?_
  have hc := blk_cell hd.blk
  unfold dkCells at hc
  obtain ⟨D, hown, hD⟩ := hd.hc
  have hperm := dirty_perm ok hown hD
  have hsz : Maps.size D ≤ 4096 := hown.size_le
  have hbl := hown.lt
  have hseq : SeqGives Fence.wide 2 Tryz.prog 122 #[.pointer (some ⟨w.heap.size, 0, none⟩)] encZ (fun ss => ss.Perm (intKeys D)) (Maps.size D) (w.alloc (.cells #[.map (some cb)] 110)) :=
    AnyZI.keys_gives (ρ := Tryz.keysA_ren) { Tryz.keysA with } Fence.wide _ trivial rfl (by omega) w.heap.size cb 4096 D _ (by simp) (by simp) (by
      obtain ⟨es, clock, hb, Ft, hs, hD⟩ := hown
      exact ⟨es, clock, (Below.heap_alloc _ _ cb hbl).trans hb, Ft, hs, hD⟩)
  have cK : ∀ mb W, CallsIn Fence.wide 5 Tryz.prog 89 #[.map mb] W fun e w' => e = .returned (.func (.func 122) #[] #[.pointer (some ⟨W.heap.size, 0, none⟩)]) ∧ w' = W.alloc (.cells #[.map mb] 110) := fun mb W => AnyZI.keys_in Tryz.keysA Fence.wide 5 trivial rfl mb W
  have cS := AnyZI.sorted_in Tryz.sortedA Fence.wide 5 trivial trivial trivial trivial rfl (by omega) (sortsA _) (enters_of Tryz.func121 (by kernel_rfl) rfl) 122 #[.pointer (some ⟨w.heap.size, 0, none⟩)] trivial (enters_of Tryz.func122 (by kernel_rfl) rfl) _ _ (by unfold maxLen; omega) (by omega) _ hseq
  change CallsIn _ _ Tryz.prog 88 _ _ _ at cS
  have hfK : Fence.wide.fn 89 := trivial
  have hfS : Fence.wide.fn 88 := trivial
  clear hseq hown hD hsz hbl
  have HP := Lib.hid hperm
  clear hperm
  refine callsIn_of_wp Tryz.func39 rfl trivial ?_ rfl
  simp only [Tryz.ntmps39, List.size_toArray, List.length_cons, List.length_nil, Nat.reduceAdd, Nat.reduceSub, Array.replicate_succ, Array.replicate_zero, List.push_toArray, List.append_toArray, List.nil_append, List.cons_append]
  gi_wp2_with (first
    | (gi_at_call 89; refine (cK _ _).mono ?_; rintro e w' ⟨rfl, rfl⟩)
    | (gi_at_call 88; refine cS.mono ?_; rintro e w' ⟨v, ss, rfl, hS, hrow, hnil, hb⟩))
  go_ret
  refine ⟨v, rfl, ?_, ((Below.refl _ w).alloc (Nat.le_refl _) _).trans (hb.mono (by simp))⟩
  have e1 := d.dirty_sorted (hS.trans HP.out.symm)
  have e2 : ss.length = d.dirty.length := (hS.trans HP.out.symm).length_eq
  rw [e1, e2] at hrow
  exact SlIl.of_own hrow
end Go.Proofs.YtoebldemcgahnaaGreatDoor
