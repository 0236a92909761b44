/- Slices of ints (i64) in memory; pannierkeep.Ints. -/
import Derived.Test.YtdbiebnnogjccaaGreatDoorCp
import Derived.Test.YtdbiebnnogjccaaGreatDoorCt
import Derived.Lib.Hide
import Derived.Deep.QuietTactic
import Derived.BigQuiet
import Derived.LoopTactic
import Derived.Test.YtdbiebnnogjccaaGreatDoorDn
import Derived.Test.YtdbiebnnogjccaaGreatDoorSi
import Derived.Shelf.SlIterI.Nil
namespace Go.Proofs.YtdbiebnnogjccaaGreatDoor
open Go.RowKit
/-- The numbers lie in memory, a cell each. -/
structure IlAt (w : World) (b off : Nat) (l : List Int) : Prop where
  lt : l ≠ [] → b < w.heap.size
  at' : ∀ i (h : i < l.length), w.cell? ⟨b, off + i, none⟩ = some (.int .i64 l[i])
theorem IlAt.below {w w' : World} {b off : Nat} {l : List Int} (h : IlAt w b off l) (hb : Below w.heap.size w w') : IlAt w' b off l := by
  by_cases hl : l = []
  · subst hl
    exact ⟨fun h => absurd rfl h, fun i h => absurd h (by simp)⟩
  · have hlt := h.lt hl
    exact ⟨fun _ => Nat.lt_of_lt_of_le hlt hb.size, fun i hi => by rw [hb.cell (p := ⟨b, off + i, none⟩) hlt]; exact h.at' i hi⟩
def SlIl (w : World) (v : Value) (l : List Int) : Prop := (v = .slice none 0 0 ∧ l = []) ∨ ∃ b off cap, v = .slice (some ⟨b, off, none⟩) l.length cap ∧ l.length ≤ cap ∧ IlAt w b off l
theorem SlIl.below {w w' : World} {v : Value} {l : List Int} (h : SlIl w v l) (hb : Below w.heap.size w w') : SlIl w' v l := by
  rcases h with h | ⟨b, off, cap, e, hc, h⟩
  · exact .inl h
  · exact .inr ⟨b, off, cap, e, hc, h.below hb⟩
theorem SlIl.form {w : World} {v : Value} {l : List Int} (h : SlIl w v l) : ∃ p c, v = .slice p l.length c ∧ l.length ≤ c := by
  rcases h with ⟨h, e⟩ | ⟨b, off, cap, e, hc, h⟩
  · subst e; exact ⟨none, 0, h, Nat.le_refl _⟩
  · exact ⟨_, _, e, hc⟩
theorem SlIl.atN {w : World} {p : Option Addr} {n c k : Nat} {l : List Int} (hn : n = l.length) (h : SlIl w (.slice p n c) l) (hk : k < l.length) : ∃ b off, p = some ⟨b, off, none⟩ ∧ IlAt w b off l := by
  subst hn
  rcases h with ⟨_, h2⟩ | ⟨b, off, cap, e, _, h⟩
  · subst h2; exact absurd hk (by simp)
  · injection e with e1 e2 e3
    exact ⟨b, off, e1, h⟩
theorem SlIl.of_own {w : World} {base : Nat} {e : TypeId} {v : Value} {l : List Int} (h : w.ownsRow base e 1 v l.length (l.map (Value.int .i64))) : SlIl w v l := by
  rcases h.2 with ⟨h1, h2⟩ | ⟨g, cap, cur, hv, hb, hg, hn, _⟩
  · exact .inl ⟨h1, List.eq_nil_of_length_eq_zero h2⟩
  · refine .inr ⟨g, 0, cap, hv, hn, ⟨fun _ => blk_lt hg, fun i hi => ?_⟩⟩
    rw [Nat.zero_add]
    exact row_cellS h hv (by rw [List.getElem?_map, List.getElem?_eq_getElem hi]; rfl)
theorem SlIl.fr {S : Nat → Prop} {w w' : World} {v : Value} {l : List Int} (h : SlIl w v l) (hf : Fr S w w') (hs : ∀ b off n c, v = .slice (some ⟨b, off, none⟩) n c → ¬ S b) : SlIl w' v l := by
  rcases h with h | ⟨b, off, cap, e, hc, h⟩
  · exact .inl h
  · refine .inr ⟨b, off, cap, e, hc, ?_⟩
    have hs := hs _ _ _ _ e
    by_cases hl : l = []
    · subst hl
      exact ⟨fun h => absurd rfl h, fun i h => absurd h (by simp)⟩
    · have hlt := h.lt hl
      exact ⟨fun _ => Nat.lt_of_lt_of_le hlt hf.size, fun i hi => by rw [hf.cell hlt hs]; exact h.at' i hi⟩
theorem below_dN' (w : World) (n : Nat) : Below w.heap.size w (w.drewN n) := ⟨rfl, rfl, rfl, Nat.le_refl _, fun _ _ => rfl⟩
set_option maxRecDepth 100000 in
set_option maxHeartbeats 2000000 in
theorem keep_Ints (v u : Value) (L M : List Int) (hL : L.length < 9223372036854775807) (w : World) (hv : SlIl w v L) (hu : SlIl w u M) :
    Calls Tryz.prog 48 #[v, u] w fun e w' => e = .returned (.bool (decide (L = M))) ∧ Below w.heap.size w w' := by
  obtain ⟨p, cp, rfl, hcp⟩ := hv.form
  obtain ⟨q, cq, rfl, hcq⟩ := hu.form
  have HV := Lib.hid hv; have HU := Lib.hid hu
  clear hv hu hcp hcq
  by_cases hl : L.length = M.length
  · have z0 : ((L.length : Int) != (M.length : Int)) = false := by rw [hl]; simp
    have HL := Lib.hid hl
    obtain ⟨n, hn⟩ : ∃ n, n = L.length := ⟨_, rfl⟩
    obtain ⟨m, hm⟩ : ∃ m, m = M.length := ⟨_, rfl⟩
    have Hn := Lib.hid hn; have Hm := Lib.hid hm
    rw [← hn, ← hm] at z0 ⊢
    rw [← hn] at HV
    rw [← hm] at HU
    have hnb : n < 9223372036854775807 := by omega
    clear hl hn hm hL
    go_enter Tryz.func48, Tryz.ntmps48
    go_wp2_with fail
    go_loopw [5] (fun c wr => ∃ i : Nat, i ≤ n ∧ c = .int .i64 i ∧ Below w.heap.size w wr ∧ ∀ j (h1 : j < L.length) (h2 : j < M.length), j < i → L[j] = M[j]) (fun c _ => n - (intOf c).toNat)
    case atStart => exact ⟨0, Nat.zero_le _, rfl, Below.refl _ _, fun j _ _ h => absurd h (by omega)⟩
    case round =>
      obtain ⟨i, hi, rfl, hB, hP⟩ := hrel
      have HB := Lib.hid hB; have HP := Lib.hid hP
      clear hB hP
      by_cases hlt : i < n
      · have hi1 : (i : Int) < (n : Int) := by omega
        have hi2 : (i : Int) < (m : Int) := by have := HL.out; have := Hn.out; have := Hm.out; omega
        have hi0 : (0 : Int) ≤ (i : Int) := by omega
        have h1 : i < L.length := by rw [← Hn.out]; exact hlt
        have h2 : i < M.length := by rw [← HL.out]; exact h1
        obtain ⟨b, off, rfl, hS⟩ := SlIl.atN Hn.out HV.out h1
        obtain ⟨b', off', rfl, hT⟩ := SlIl.atN Hm.out HU.out h2
        have c1 := (hS.below HB.out).at' i h1
        have c2 := (hT.below HB.out).at' i h2
        by_cases he : L[i] = M[i]
        · have hq : (M[i] != M[i]) = false := by simp
          rw [he] at c1
          have HE := Lib.hid he
          obtain ⟨y, hy⟩ : ∃ y, y = M[i] := ⟨_, rfl⟩
          rw [← hy] at c1 c2 hq
          clear hS hT he hy
          go_wp2_with fail
          go_quiet (fail)
          go_wp2_with fail
          go_roundw
          case rel =>
            refine ⟨i + 1, by omega, by go_num, bstep HB.out (below_dN' _ _), fun j h1 h2 hj => ?_⟩
            by_cases hji : j < i
            · exact HP.out j h1 h2 hji
            · obtain rfl : j = i := by omega
              exact HE.out
          case measure => simp [intOf]; omega
        · have hq : (L[i] != M[i]) = true := by rw [bne_iff_ne]; exact he
          have HE : Hid (decide (L = M) = false) := by
            show _ = _
            rw [decide_eq_false_iff_not]
            intro h
            subst h
            exact he rfl
          obtain ⟨x, hx⟩ : ∃ x, x = L[i] := ⟨_, rfl⟩
          obtain ⟨y, hy⟩ : ∃ y, y = M[i] := ⟨_, rfl⟩
          rw [← hx] at c1 hq
          rw [← hy] at c2 hq
          clear hS hT he hy hx
          go_wp2_with fail
          go_quiet (fail)
          go_wp2_with fail
          go_ret
          exact ⟨by rw [HE.out]; rfl, bstep HB.out (below_dN' _ _)⟩
      · have hi1 : ¬ (i : Int) < (n : Int) := by omega
        have HE : Hid (decide (L = M) = true) := by
          show _ = _
          rw [decide_eq_true_eq]
          refine List.ext_getElem HL.out fun j h1 h2 => HP.out j h1 h2 ?_
          have := Hn.out; omega
        go_wp2_with fail
        go_ret
        exact ⟨by rw [HE.out]; rfl, HB.out⟩
  · have z0 : ((L.length : Int) != (M.length : Int)) = true := by rw [bne_iff_ne]; omega
    have HE : Hid (decide (L = M) = false) := by
      show _ = _
      rw [decide_eq_false_iff_not]
      intro h
      exact hl (by rw [h])
    clear hl
    go_enter Tryz.func48, Tryz.ntmps48
    go_wp2_with fail
    go_ret
    exact ⟨by rw [HE.out]; rfl, Below.refl _ _⟩
end Go.Proofs.YtdbiebnnogjccaaGreatDoor

/- Disks (layer 19): Dirty. -/
namespace Go.Proofs.YtdbiebnnogjccaaGreatDoor
open Go.RowKit Go.Maps Go.Sort Go.Shelf
/-- The places with cached bytes, rising. -/
def Dk.dirty (d : Dk) : List Int := ((List.range d.n.toNat).map Int.ofNat).filter fun i => (d.c i).isSome
theorem Dk.mem_dirty {d : Dk} (ok : d.Ok0) (x : Int) : x ∈ d.dirty ↔ (d.c x).isSome = true := by
  unfold Dk.dirty
  rw [List.mem_filter, List.mem_map]
  constructor
  · exact fun h => h.2
  · intro h
    have := ok.kc x h
    exact ⟨⟨x.toNat, by rw [List.mem_range]; omega, by show ((x.toNat : Nat) : Int) = x; omega⟩, h⟩
theorem rangeI_lt : ∀ n : Nat, ((List.range n).map Int.ofNat).Pairwise (· < ·) := fun n => by
  rw [List.pairwise_map]
  exact List.pairwise_lt_range.imp (fun h => by show (_ : Int) < _; exact Int.ofNat_lt.2 h)
theorem Dk.dirty_lt (d : Dk) : d.dirty.Pairwise (· < ·) := (rangeI_lt _).filter _
theorem Dk.dirty_nodup (d : Dk) : d.dirty.Nodup := d.dirty_lt.imp (fun h => by intro e; omega)
theorem Dk.dirty_sorted (d : Dk) {ss : List Int} (h : ss.Perm d.dirty) : (ss.mergeSort fun x y => decide (x ≤ y)) = d.dirty := by
  have e := mergeSort_of_perm_i h
  show ss.mergeSort leI = _
  rw [e]
  refine List.mergeSort_of_pairwise ?_
  exact d.dirty_lt.imp (fun h => by simp only [leI, decide_eq_true_eq]; omega)
theorem Dk.dirty_len (d : Dk) : d.dirty.length ≤ d.n.toNat := by
  unfold Dk.dirty
  refine Nat.le_trans (List.length_filter_le _ _) ?_
  simp
theorem dirty_perm {w : World} {b n : Nat} {D : DataW Unit} {d : Dk} (ok : d.Ok0) (hown : w.ownsMap Tryz.prog 3 secE b n D) (hD : ∀ i, wf64 i → Maps.has D (.int .i64 i) = (d.c i).isSome ∧ ∀ s, d.c i = some s → ∀ z, D.atKey (.int .i64 i) z = .lit (.string s.data.toList)) : d.dirty.Perm (intKeys D) := by
  refine CollectedI.perm (left := fun _ => false) ⟨d.dirty_nodup, fun x => ?_⟩ hown lawI Tryz.underlying3 (fun _ => rfl)
  rw [Dk.mem_dirty ok]
  constructor
  · intro h
    have := ok.kc x h
    exact ⟨by rw [(hD x (wf64_of (by omega) (by have := ok.n1; omega))).1]; exact h, rfl⟩
  · rintro ⟨h, _⟩
    have hwf : wf64 x := by
      obtain ⟨es, rfl, _⟩ := hown.keysOf
      have hmem : x ∈ intKeys (.map es) := by
        rw [has_eq, List.any_eq_true] at h
        obtain ⟨p, hp, hs⟩ := h
        obtain ⟨es', he', hko⟩ := hown.keysOf
        injection he' with he'
        subst he'
        obtain ⟨v, hv⟩ := hko p hp
        obtain ⟨y, _, hy, _⟩ := Maps.keyOf_i64 Tryz.underlying3 hv
        unfold intKeys
        rw [List.mem_map]
        refine ⟨p, hp, ?_⟩
        rw [hy] at hs ⊢
        show y = x
        simpa [Lit.sameKey] using hs
      exact intKeys_wf hown Tryz.underlying3 x hmem
    rw [← (hD x hwf).1]; exact h
theorem sortsA (m : Nat) : AnyZI.SortsIn Tryz.prog Tryz.sortedA_ren Fence.wide m :=
  ⟨fun blk off cap ss W hH hblk hsz => callsIn_wide.2 (Tryz.slices_Sort_int blk off cap ss W hH hblk hsz), fun p cap W => callsIn_wide.2 (Tryz.slices_Sort_int_none p cap W)⟩
def DirtyP (d : Dk) (w : World) (e : Ending) (w' : World) : Prop := ∃ v, e = .returned v ∧ SlIl w' v d.dirty ∧ Below w.heap.size w w'
set_option maxRecDepth 20000 in
set_option maxHeartbeats 2000000 in
theorem disk_Dirty (g mb cb : Nat) (kv : Value) (d : Dk) (w : World) (hd : DiskAt w g mb cb 4096 kv d) (ok : d.Ok0) :
    Calls Tryz.prog 96 #[.pointer (some ⟨g, 0, none⟩)] w (DirtyP d w) := by
  refine (callsIn_wide (n := 6)).1 ?_
  have hc := blk_cell hd.blk
  unfold dkCells at hc
  obtain ⟨D, hown, hD⟩ := hd.hc
  have hperm := dirty_perm ok hown hD
  have hsz : Maps.size D ≤ 4096 := hown.size_le
  have hbl := hown.lt
  have hseq : SeqGives Fence.wide 2 Tryz.prog 159 #[.pointer (some ⟨w.heap.size, 0, none⟩)] encZ (fun ss => ss.Perm (intKeys D)) (Maps.size D) (w.alloc (.cells #[.map (some cb)] 107)) :=
    AnyZI.keys_gives (ρ := Tryz.keysA_ren) { Tryz.keysA with } Fence.wide _ trivial rfl (by omega) w.heap.size cb 4096 D _ (by simp) (by simp) (by
      obtain ⟨es, clock, hb, Ft, hs, hD⟩ := hown
      exact ⟨es, clock, (Below.heap_alloc _ _ cb hbl).trans hb, Ft, hs, hD⟩)
  have cK : ∀ mb W, CallsIn Fence.wide 5 Tryz.prog 134 #[.map mb] W fun e w' => e = .returned (.func (.func 159) #[] #[.pointer (some ⟨W.heap.size, 0, none⟩)]) ∧ w' = W.alloc (.cells #[.map mb] 107) := fun mb W => AnyZI.keys_in Tryz.keysA Fence.wide 5 trivial rfl mb W
  have cS := AnyZI.sorted_in Tryz.sortedA Fence.wide 5 trivial trivial trivial trivial rfl (by omega) (sortsA _) (enters_of Tryz.func140 (by kernel_rfl) rfl) 159 #[.pointer (some ⟨w.heap.size, 0, none⟩)] trivial (enters_of Tryz.func159 (by kernel_rfl) rfl) _ _ (by unfold maxLen; omega) (by omega) _ hseq
  change CallsIn _ _ Tryz.prog 133 _ _ _ at cS
  have hfK : Fence.wide.fn 134 := trivial
  have hfS : Fence.wide.fn 133 := trivial
  clear hseq hown hD hsz hbl
  have HP := Lib.hid hperm
  clear hperm
  refine callsIn_of_wp Tryz.func96 rfl trivial ?_ rfl
  simp only [Tryz.ntmps96, List.size_toArray, List.length_cons, List.length_nil, Nat.reduceAdd, Nat.reduceSub, Array.replicate_succ, Array.replicate_zero, List.push_toArray, List.append_toArray, List.nil_append, List.cons_append]
  gi_wp2_with (first
    | (gi_at_call 134; refine (cK _ _).mono ?_; rintro e w' ⟨rfl, rfl⟩)
    | (gi_at_call 133; refine cS.mono ?_; rintro e w' ⟨v, ss, rfl, hS, hrow, hnil, hb⟩))
  go_ret
  refine ⟨v, rfl, ?_, ((Below.refl _ w).alloc (Nat.le_refl _) _).trans (hb.mono (by simp))⟩
  have e1 := d.dirty_sorted (hS.trans HP.out.symm)
  have e2 : ss.length = d.dirty.length := (hS.trans HP.out.symm).length_eq
  rw [e1, e2] at hrow
  exact SlIl.of_own hrow
end Go.Proofs.YtdbiebnnogjccaaGreatDoor
