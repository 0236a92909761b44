/- Frames (layer 18): FrameTorn. -/
import Derived.Test.YtdbiebnnogjccaaGreatDoorWv
import Derived.Test.YtdbiebnnogjccaaGreatDoorFq
import Derived.Deep.RegionHeld3
import Derived.Test.YtdbiebnnogjccaaGreatDoorWe
import Derived.Test.YtdbiebnnogjccaaGreatDoorDzg
namespace Go.Proofs.YtdbiebnnogjccaaGreatDoor
open Go.RowKit
theorem makeF_ok {n : Int} {s : List UInt8} (hn : n ≠ 0) (hs : s.length ≤ 2000) : makeF n s = (secsF n s, 0) := by
  unfold makeF; rw [if_neg hn, if_neg (by omega)]
theorem first_sec (n : Int) (s : List UInt8) : ∃ A L, (secsF n s).map ofL = A :: L ∧ A.data.toList.length = 256 ∧ A.data.toList.take 4 = mkL n ∧ A.data.toList.drop 252 = mkL n := by
  obtain ⟨L, hL⟩ := secs_cons n s
  refine ⟨ofL (secF n (allF s) (szN s.length) 0), L.map ofL, by rw [hL]; rfl, ?_⟩
  rw [ofL_list]
  exact ⟨sec_length (allF_length s) (sz_pos _), sec_take4, sec_end (allF_length s) (sz_pos _)⟩
end Go.Proofs.YtdbiebnnogjccaaGreatDoor

/- Frames (layer 18): plain words of FrameBack: a record with what stands behind it, without a sector, with one of another number. -/
namespace Go.Proofs.YtdbiebnnogjccaaGreatDoor
theorem LL_app (a b : List ByteArray) : LL (a ++ b) = LL a ++ LL b := by unfold LL; exact List.map_append
section
variable {n o : Int} {s : List UInt8}
theorem back_ext (h0 : 0 < n) (h1 : n < 4294967296) (hs : s.length ≤ 2000) (q : List ByteArray) : readF (LL ((secsF n s).map ofL ++ q)) = some (s, n, szN s.length) := by
  rw [LL_app, LL_ofL]; exact read_made h0 h1 hs _
theorem sec_kind {x : List UInt8} (h : x ∈ secsF n s) : (x.drop 6).take 2 = beBytes (szN s.length : Nat) 2 := by
  unfold secsF at h
  rw [List.mem_map] at h
  obtain ⟨i, _, rfl⟩ := h
  exact sec_many
theorem sec_numF (h0 : 0 ≤ n) (h1 : n < 4294967296) {x : List UInt8} (h : x ∈ secsF n s) : numF x = n := by
  unfold secsF at h
  rw [List.mem_map] at h
  obtain ⟨i, hi, rfl⟩ := h
  exact sec_num h0 h1 (allF_length s) (List.mem_range.1 hi)
theorem back_short (hs : s.length ≤ 2000) {t : Nat} (ht : t < szN s.length) : readF (LL (((secsF n s).map ofL).take t ++ ((secsF n s).map ofL).drop (t + 1))) = none := by
  rw [LL_app, ← List.map_take, ← List.map_drop, LL_ofL, LL_ofL]
  have hl : ((secsF n s).take t ++ (secsF n s).drop (t + 1)).length < szN s.length := by
    rw [List.length_append, List.length_take, List.length_drop, secsF_length]; omega
  have hk := sz_le hs
  cases hL : (secsF n s).take t ++ (secsF n s).drop (t + 1) with
  | nil => rfl
  | cons x q =>
    have hx : x ∈ secsF n s := by
      have : x ∈ (secsF n s).take t ++ (secsF n s).drop (t + 1) := by rw [hL]; exact List.mem_cons_self
      rw [List.mem_append] at this
      exact this.elim List.mem_of_mem_take List.mem_of_mem_drop
    rw [hL] at hl
    exact read_few (x := x) rfl (sec_kind hx) (by omega) hl
theorem back_one (o0 : 0 < o) (o1 : o < 4294967296) (hs : s.length ≤ 2000) (h1 : szN s.length = 1) {Y : ByteArray} (hY : ((secsF o s).map ofL)[0]? = some Y) : readF (LL (((secsF n s).map ofL).set 0 Y)) = some (s, o, 1) := by
  have e : ((secsF n s).map ofL).set 0 Y = (secsF o s).map ofL ++ [] := by
    have l1 : ((secsF n s).map ofL).length = 1 := by rw [List.length_map, secsF_length, h1]
    have l2 : ((secsF o s).map ofL).length = 1 := by rw [List.length_map, secsF_length, h1]
    match h : (secsF n s).map ofL, g : (secsF o s).map ofL, l1, l2 with
    | [a], [b], _, _ =>
      rw [g] at hY
      simp at hY
      simp [hY]
  rw [e, back_ext o0 o1 hs, h1]
theorem back_mixed (n0 : 0 ≤ n) (n1 : n < 4294967296) (o0 : 0 ≤ o) (o1 : o < 4294967296) (hne : o ≠ n) (hs : s.length ≤ 2000) {t : Nat} (ht : t < szN s.length) (hk1 : szN s.length ≠ 1) {Y : ByteArray} (hY : ((secsF o s).map ofL)[t]? = some Y) :
    readF (LL (((secsF n s).map ofL).set t Y)) = none := by
  have hk := sz_le hs
  obtain ⟨y, hy, rfl⟩ : ∃ y, y ∈ secsF o s ∧ ofL y = Y := by
    rw [List.getElem?_map] at hY
    cases hq : (secsF o s)[t]? with
    | none => rw [hq] at hY; cases hY
    | some y => rw [hq] at hY; exact ⟨y, List.mem_of_getElem? hq, by simpa using hY⟩
  have e : LL (((secsF n s).map ofL).set t (ofL y)) = (secsF n s).set t y := by
    rw [← List.map_set, LL_ofL]
  rw [e]
  have l1 : (secsF n s).length = szN s.length := secsF_length n s
  have yn := sec_numF o0 o1 hy
  by_cases c : t = 0
  · subst c
    have h1 : 1 < (secsF n s).length := by omega
    refine read_other (x := y) (y := (secsF n s)[1]) (k := szN s.length) (i := 1) ?_ (sec_kind hy) (by omega) (by omega) ?_ ?_
    · rw [List.head?_eq_getElem?, List.getElem?_set_self (by omega)]
    · rw [List.getElem?_set_ne (by omega), List.getElem?_eq_getElem h1]
    · rw [yn, sec_numF n0 n1 (List.getElem_mem h1)]; exact fun e => hne e.symm
  · have h1 : 0 < (secsF n s).length := by omega
    refine read_other (x := (secsF n s)[0]) (y := y) (k := szN s.length) (i := t) ?_ (sec_kind (List.getElem_mem h1)) (by omega) ht ?_ ?_
    · rw [List.head?_eq_getElem?, List.getElem?_set_ne (by omega), List.getElem?_eq_getElem h1]
    · rw [List.getElem?_set_self (by omega)]
    · rw [yn, sec_numF n0 n1 (List.getElem_mem h1)]; exact hne
end
end Go.Proofs.YtdbiebnnogjccaaGreatDoor

/- Frames (layer 18): FrameBack. -/
namespace Go.Proofs.YtdbiebnnogjccaaGreatDoor
open Go.RowKit
theorem bel1 {B : Nat} {a W : World} (h : Below B a W ∧ B ≤ W.heap.size) : Below B a W := h.1
theorem keep_ModE (a m : Int) (hm : 0 < m) (hm1 : m < 4294967296) (w : World) :
    Calls Tryz.prog 52 #[.int .i64 a, .int .i64 m] w fun e w' => e = .returned (.int .i64 (a.tmod m % m)) ∧ w' = w := by
  have h0 : ¬ m < 1 := by omega
  have h1 : ¬ m = 0 := by omega
  have t1 : -m < a.tmod m := Int.lt_tmod_of_pos a hm
  have t2 : a.tmod m < m := Int.tmod_lt_of_pos a hm
  have t3 : 0 ≤ a.tmod m % m := Int.emod_nonneg _ h1
  have t4 : a.tmod m % m < m := Int.emod_lt_of_pos _ hm
  go_enter Tryz.func52, Tryz.ntmps52
  go_wp2_with fail
  go_ret
  exact ⟨rfl, rfl⟩
theorem strs_take {w : World} {b off c t : Nat} {l : List ByteArray} (h : StrsAt w b off l) (ht : t ≤ l.length) (hc : t ≤ c) : SlStrs w (.slice (some ⟨b, off, none⟩) t c) (l.take t) := by
  have hl : (l.take t).length = t := by rw [List.length_take]; omega
  exact .inr ⟨b, off, c, by rw [hl], by rw [hl]; exact hc, h.take t⟩
theorem strs_drop {w : World} {b off c t m : Nat} {l : List ByteArray} (h : StrsAt w b off l) (hm : m = l.length - t) (hc : m ≤ c) : SlStrs w (.slice (some ⟨b, off + t, none⟩) m c) (l.drop t) := by
  have hl : (l.drop t).length = m := by rw [List.length_drop]; omega
  exact .inr ⟨b, off + t, c, by rw [hl], by rw [hl]; exact hc, h.drop t⟩
theorem strs_dropE {w : World} {b off c t m : Nat} {l : List ByteArray} (_h : StrsAt w b off l) (ht : l.length ≤ t) (hm : m = l.length - t) : SlStrs w (.slice (some ⟨b, off, none⟩) m c) (l.drop t) := by
  obtain rfl : m = 0 := by omega
  rw [List.drop_of_length_le ht]
  exact .inr ⟨b, off, c, rfl, Nat.zero_le _, ⟨fun h => absurd rfl h, fun i h => absurd h (by simp)⟩⟩
theorem row_set {W : World} {B g k c t : Nat} {e : TypeId} {l : List ByteArray} (h : W.ownsRow B e 1 (.slice (some ⟨g, 0, none⟩) k c) k (l.map Value.string)) (hl : l.length = k) (ht : t < k) (Y : ByteArray) :
    SlStrs (W.setCell ⟨g, t, none⟩ (.string Y)) (.slice (some ⟨g, 0, none⟩) k c) (l.set t Y) ∧ W.frozen? ⟨g, t, none⟩ = false ∧ ∃ u, W.cell? ⟨g, t, none⟩ = some (.string u) := by
  have hc : ∀ j (hj : j < l.length), W.cell? ⟨g, j, none⟩ = some (.string l[j]) := fun j hj => row_cellS h rfl (by rw [List.getElem?_map, List.getElem?_eq_getElem hj]; rfl)
  have ht' : t < l.length := by omega
  rcases h.2 with ⟨h6, _⟩ | ⟨g', c', cur, h6, hb, hg, hn, _⟩
  · exact absurd h6 (by simp)
  · injection h6 with e1 e2 e3
    injection e1 with e1
    injection e1 with e4 e5 e6
    subst e4 e3
    refine ⟨.inr ⟨g, 0, c, by rw [List.length_set, hl], by rw [List.length_set, hl]; exact hn, ⟨fun _ => by simp [World.setCell]; exact blk_lt hg, fun i hi => ?_⟩⟩, blk_frozen hg _, _, hc t ht'⟩
    rw [List.length_set] at hi
    rw [Nat.zero_add, List.getElem_set]
    by_cases hti : t = i
    · subst hti
      rw [if_pos rfl]
      exact World.cell?_setCell_same _ _ _ (hc t ht')
    · rw [if_neg hti, World.cell?_setCell_other _ _ _ _ (by intro e; injection e with _ e2 _; exact hti e2)]
      exact hc i hi
theorem strs_ofN {w : World} {base n : Nat} {e : TypeId} {v : Value} {l : List ByteArray} (hn : n = l.length) (h : w.ownsRow base e 1 v n (l.map Value.string)) : SlStrs w v l := by subst hn; exact SlStrs.of_own h
end Go.Proofs.YtdbiebnnogjccaaGreatDoor

/- The log (layer 21): the reference's Top and Sectors. -/
namespace Go.Proofs.YtdbiebnnogjccaaGreatDoor
open Go.RowKit
/-- The greatest number at sectors' ends, above 2 to the 31 none. -/
def topN (t n : Int) : Int := if n ≤ 2147483648 ∧ t < n then n else t
def topB (t : Int) (b : ByteArray) : Int := topN (topN t (endA b)) (endB b)
def topW (L : List ByteArray) : Int := L.foldl topB 0
theorem topN_up (f t n : Int) (hn : 0 ≤ n) : upN (max (f - 1) t + 1) n = max (f - 1) (topN t n) + 1 := by
  unfold upN topN
  split
  · split <;> omega
  · rw [if_neg (by omega)]
theorem topW_next (f : Int) : ∀ (L : List ByteArray) (t : Int), (∀ b ∈ L, b.size = 256) → nextW (max (f - 1) t + 1) L = max (f - 1) (L.foldl topB t) + 1
  | [], _, _ => rfl
  | b :: L, t, h => by
    obtain ⟨⟨h0, _⟩, ⟨h1, _⟩⟩ := ends_bd (h b List.mem_cons_self)
    show nextW (upB (max (f - 1) t + 1) b) L = max (f - 1) (L.foldl topB (topB t b)) + 1
    have e : upB (max (f - 1) t + 1) b = max (f - 1) (topB t b) + 1 := by unfold upB topB; rw [topN_up _ _ _ h0, topN_up _ _ _ h1]
    rw [e]
    exact topW_next f L _ fun y hy => h y (List.mem_cons_of_mem _ hy)
theorem topW_is {f : Int} {L : List ByteArray} (h : ∀ b ∈ L, b.size = 256) (h1 : 1 ≤ f) : nextW f L = max (f - 1) (topW L) + 1 := by
  have := topW_next f L 0 h
  rw [show max (f - 1) 0 + 1 = f by omega] at this
  exact this
theorem topN_bd {t n : Int} (h0 : 0 ≤ t) (h1 : t ≤ 2147483648) (hn : 0 ≤ n) : 0 ≤ topN t n ∧ topN t n ≤ 2147483648 := by
  unfold topN; split <;> omega
theorem topB_bd {t : Int} {b : ByteArray} (h0 : 0 ≤ t) (h1 : t ≤ 2147483648) (hb : b.size = 256) : 0 ≤ topB t b ∧ topB t b ≤ 2147483648 := by
  obtain ⟨⟨a0, _⟩, ⟨a1, _⟩⟩ := ends_bd hb
  obtain ⟨c0, c1⟩ := topN_bd h0 h1 a0
  exact topN_bd c0 c1 a1
theorem topW_bd {L : List ByteArray} (h : ∀ b ∈ L, b.size = 256) : 0 ≤ topW L ∧ topW L ≤ 2147483648 := by
  have : ∀ (L : List ByteArray) (t : Int), 0 ≤ t → t ≤ 2147483648 → (∀ b ∈ L, b.size = 256) → 0 ≤ L.foldl topB t ∧ L.foldl topB t ≤ 2147483648 := by
    intro L
    induction L with
    | nil => intro t h0 h1 _; exact ⟨h0, h1⟩
    | cons b L ih =>
      intro t h0 h1 h
      obtain ⟨c0, c1⟩ := topB_bd h0 h1 (h b List.mem_cons_self)
      exact ih _ c0 c1 fun y hy => h y (List.mem_cons_of_mem _ hy)
  exact this L 0 (by decide) (by decide) h
theorem extract_front {b : ByteArray} (h : b.size = 256) : valLE (b.extract 0 4).data.toList = endA b ∧ (b.extract 0 4).size = 4 := by
  unfold endA
  refine ⟨by rw [extract_list]; simp, by rw [ByteArray.size_extract, h]; rfl⟩
theorem extract_back {b : ByteArray} (h : b.size = 256) : valLE (b.extract 252 256).data.toList = endB b ∧ (b.extract 252 256).size = 4 := by
  unfold endB
  refine ⟨?_, by rw [ByteArray.size_extract, h]; rfl⟩
  rw [extract_list]
  congr 1
  rw [List.take_of_length_le (by rw [List.length_drop, size_list, h]; exact Nat.le_refl _)]
theorem topN_yes {t n : Int} (h1 : n ≤ 2147483648) (h2 : t < n) : topN t n = n := if_pos ⟨h1, h2⟩
theorem topN_no1 {t n : Int} (h1 : ¬ n ≤ 2147483648) : topN t n = t := if_neg fun h => h1 h.1
theorem topN_no2 {t n : Int} (h2 : ¬ t < n) : topN t n = t := if_neg fun h => h2 h.2
set_option maxRecDepth 20000 in
set_option maxHeartbeats 4000000 in
theorem ref21_Top (v : Value) (L : List ByteArray) (hL : L.length ≤ 65536) (h256 : ∀ b ∈ L, b.size = 256) (w : World) (hv : SlStrs w v L) :
    Calls Tryz.prog 84 #[v] w fun e w' => e = .returned (.int .u32 (topW L)) ∧ Below w.heap.size w w' := by
  have HV := Lib.hid hv
  have H6 := Lib.hid h256
  obtain ⟨pv, cv, rfl, hcv⟩ := hv.form
  obtain ⟨k, hk⟩ : ∃ k, k = L.length := ⟨_, rfl⟩
  rw [← hk]
  have HK := Lib.hid hk
  clear hv h256
  rw [← hk] at hL hcv
  clear hk
  go_enter Tryz.func84, Tryz.ntmps84
  go_wp2_with fail
  go_loopw [3, 4] (fun tv c wr => ∃ i : Nat, i ≤ k ∧ c = .int .i64 i ∧ tv = .int .u32 (topW (L.take i)) ∧ Below w.heap.size w wr) (fun _ c _ => k - (intOf c).toNat)
  case atStart => exact ⟨0, Nat.zero_le _, rfl, rfl, Below.refl _ _⟩
  case round =>
    obtain ⟨i, hik, rfl, rfl, hB⟩ := hrel
    have HB := Lib.hid hB
    clear hB
    by_cases hlt : i < k
    · have hi : (i : Int) < (k : Int) := by omega
      have hi0 : (0 : Int) ≤ (i : Int) := by omega
      have v1 : IntKind.i64.wrap ((i : Int) + 1) = (i : Int) + 1 := IntWalk.i64_in _ (by omega)
      have hl : i < L.length := by have := HK.out; omega
      obtain ⟨b, off, rfl, At⟩ : ∃ b off, pv = some ⟨b, off, none⟩ ∧ StrsAt w b off L := by
        have h := HV.out
        exact h.at hl
      obtain ⟨y, hy⟩ : ∃ y, y = L[i] := ⟨_, rfl⟩
      have Y1 : y.size = 256 := by rw [hy]; exact H6.out _ (List.getElem_mem hl)
      have c0 := At.at' i hl
      rw [← hy] at c0
      have SOf : Hid (∀ W, Below w.heap.size w W → W.cell? ⟨b, off + i, none⟩ = some (.string y)) := fun W h => dk_cell c0 h
      have T1 : topW (L.take (i + 1)) = topB (topW (L.take i)) y := by
        rw [List.take_succ_eq_append_getElem hl, ← hy]; unfold topW; rw [List.foldl_append]; rfl
      have tb := topW_bd (L := L.take i) (fun z hz => H6.out z (List.mem_of_mem_take hz))
      obtain ⟨t, ht⟩ : ∃ t, t = topW (L.take i) := ⟨_, rfl⟩
      rw [← ht] at T1 tb ⊢
      obtain ⟨⟨a0, a1⟩, ⟨b0, b1⟩⟩ := ends_bd Y1
      have EE := Lib.hid (fun s (hs : s.size = 4) W => ref18_End s hs W)
      have X1 : Hid (valLE (List.take 4 y.data.toList) = endA y) := rfl
      have X2 : Hid (valLE (List.take 4 (List.drop 252 y.data.toList)) = endB y) := by show _ = _; rw [List.take_of_length_le (by rw [List.length_drop, size_list, Y1]; exact Nat.le_refl _)]; rfl
      have T1' : Hid (topW (L.take (i + 1)) = topN (topN t (endA y)) (endB y)) := T1
      obtain ⟨a, ha⟩ : ∃ a, a = endA y := ⟨_, rfl⟩
      obtain ⟨e, he⟩ : ∃ e, e = endB y := ⟨_, rfl⟩
      rw [← ha] at X1 T1' a0 a1
      rw [← he] at X2 T1' b0 b1
      have z1 : (y.size : Int) = 256 := by omega
      clear ha he ht T1 c0 At hl hy
      have z2 : (4 : Int) ≤ (y.size : Int) := by omega
      have z3 : (252 : Int) ≤ (y.size : Int) := by omega
      have BW : Hid (Below w.heap.size w wr ∧ w.heap.size ≤ wr.heap.size) := ⟨HB.out, HB.out.size⟩
      go_upto_region 5 with (fail)
      have BN : Hid (Below wr.heap.size wr wr.drew) := ⟨rfl, rfl, rfl, Nat.le_refl _, fun _ _ => rfl⟩
      have S0 := SOf.out _ (bstep HB.out BN.out)
      go_region_held3 (fun w' => w'.cell? ⟨b, off + i, none⟩ = some (.string y)) (first | exact S0 | assumption | (refine SOf.out _ (bel1 ?_); repeat (first | exact BW.out | refine bdr ?_ | refine bal ?_ _)))
        (first
          | (go_at_call 126; refine (EE.out _ (by simp [ByteArray.size_extract, Y1]) _).mono ?_; rintro e' y' ⟨rfl, rfl⟩))
      rw [X1.out, X2.out]
      obtain ⟨z, hz⟩ : ∃ z, z = (wr.alloc (.cells #[.int .u32 a, .int .u32 e] 32)).drew := ⟨_, rfl⟩
      have BZ : Hid (Below w.heap.size w z) := by show Below _ _ _; rw [hz]; exact bel1 (bdr (bal BW.out _))
      have bz : z.heap[wr.heap.size]? = some (.cells #[.int .u32 a, .int .u32 e] 32 (0, 0)) := by rw [hz]; exact blk_new _ _
      rw [← hz]
      obtain ⟨G, hG⟩ : ∃ G, G = wr.heap.size := ⟨_, rfl⟩
      rw [← hG] at bz ⊢
      have hc := blk_cell bz
      clear hz hG bz X1 X2 S0 SOf BN
      obtain ⟨t1, ht1⟩ : ∃ t1, t1 = topN t a := ⟨_, rfl⟩
      obtain ⟨t2, ht2⟩ : ∃ t2, t2 = topN t1 e := ⟨_, rfl⟩
      have TT : Hid (topW (L.take (i + 1)) = t2) := by show _ = _; rw [T1'.out, ht2, ht1]
      have HT1 := Lib.hid ht1
      have HT2 := Lib.hid ht2
      have t1b : 0 ≤ t1 ∧ t1 ≤ 2147483648 := by rw [ht1]; exact topN_bd tb.1 tb.2 a0
      clear ht1 ht2 T1'
      go_wp2_with fail
      go_loopw [3, 6] (fun tv c wq => ((c = .int .i64 0 ∧ tv = .int .u32 t) ∨ (c = .int .i64 1 ∧ tv = .int .u32 t1) ∨ (c = .int .i64 2 ∧ tv = .int .u32 t2)) ∧ wq = z) (fun _ c _ => 2 - (intOf c).toNat)
      case atStart => exact ⟨.inl ⟨rfl, rfl⟩, rfl⟩
      case round =>
        obtain ⟨hcs, rfl⟩ := hrel
        rcases hcs with ⟨rfl, rfl⟩ | ⟨rfl, rfl⟩ | ⟨rfl, rfl⟩
        · by_cases h1 : a ≤ 2147483648
          · by_cases h2 : t < a
            · have hz := topN_yes h1 h2
              rw [← HT1.out] at hz
              have HZ := Lib.hid hz
              clear hz
              go_wp2_with fail
              go_roundw
              case rel => exact ⟨Or.inr (Or.inl ⟨rfl, by rw [HZ.out]⟩), trivial⟩
              case measure => simp [intOf]
            · have HZ := Lib.hid (topN_no2 h2)
              go_wp2_with fail
              go_roundw
              case rel => exact ⟨Or.inr (Or.inl ⟨rfl, by rw [HT1.out, HZ.out]⟩), trivial⟩
              case measure => simp [intOf]
          · have HZ := Lib.hid (topN_no1 (t := t) h1)
            go_wp2_with fail
            go_roundw
            case rel => exact ⟨Or.inr (Or.inl ⟨rfl, by rw [HT1.out, HZ.out]⟩), trivial⟩
            case measure => simp [intOf]
        · by_cases h1 : e ≤ 2147483648
          · by_cases h2 : t1 < e
            · have hz := topN_yes h1 h2
              rw [← HT2.out] at hz
              have HZ := Lib.hid hz
              clear hz
              go_wp2_with fail
              go_roundw
              case rel => exact ⟨Or.inr (Or.inr ⟨rfl, by rw [HZ.out]⟩), trivial⟩
              case measure => simp [intOf]
            · have HZ := Lib.hid (topN_no2 h2)
              go_wp2_with fail
              go_roundw
              case rel => exact ⟨Or.inr (Or.inr ⟨rfl, by rw [HT2.out, HZ.out]⟩), trivial⟩
              case measure => simp [intOf]
          · have HZ := Lib.hid (topN_no1 (t := t1) h1)
            go_wp2_with fail
            go_roundw
            case rel => exact ⟨Or.inr (Or.inr ⟨rfl, by rw [HT2.out, HZ.out]⟩), trivial⟩
            case measure => simp [intOf]
        · go_wp2_with fail
          go_roundw
          case rel => exact ⟨i + 1, by omega, by go_num, by rw [TT.out], BZ.out⟩
          case measure => simp [intOf]; omega
    · have hi : ¬ (i : Int) < (k : Int) := by omega
      obtain rfl : i = k := by omega
      have hT : L.take i = L := List.take_of_length_le (by have := HK.out; omega)
      rw [hT]
      clear hT
      go_wp2_with fail
      go_ret
      exact ⟨rfl, HB.out⟩
set_option maxRecDepth 20000 in
set_option maxHeartbeats 4000000 in
theorem ref21_Sectors (lg : Nat) (q sb cb c1 c2 n : Nat) (rn : Int) (kv : Value) (d : Dk) (ok : d.Ok) (hlg : lg = d.logs) (hn : 2 + lg ≤ n) (l1 : lg ≤ 1023) (w : World) (hd : RefAt w q sb cb c1 c2 n rn kv d) :
    Calls Tryz.prog 83 #[.pointer (some ⟨q, 0, none⟩), .int .i64 2, .int .i64 (lg : Int)] w fun e w' => ∃ v, e = .returned v ∧ SlStrs w' v d.secs ∧ Below w.heap.size w w' := by
  have HD := Lib.hid hd
  have AT := Lib.hid (fun (i : Nat) (hi : i < lg) W k => ref_At (2 + i) q sb cb c1 c2 n rn kv d ok.sc (by omega) W k)
  have SL : Hid (d.secs.length = lg) := (secs_length d).trans hlg.symm
  obtain ⟨i0, ih, i1, i2, i3⟩ := info_parts Tryz.info9
  clear hd ok hlg hn
  go_enter Tryz.func83, Tryz.ntmps83
  go_wp2_with fail
  go_loopw [7, 8] (fun bv c wr => ∃ i : Nat, i ≤ lg ∧ c = .int .i64 i ∧ wr.ownsRow w.heap.size 9 1 bv (d.secs.take i).length ((d.secs.take i).map Value.string) ∧ Below w.heap.size w wr) (fun _ c _ => lg - (intOf c).toNat)
  case atStart => exact ⟨0, Nat.zero_le _, rfl, ⟨rfl, .inl ⟨rfl, rfl⟩⟩, Below.refl _ _⟩
  case round =>
    obtain ⟨i, hik, rfl, hRow, hB⟩ := hrel
    have HR := Lib.hid hRow; have HB := Lib.hid hB
    clear hRow hB
    by_cases hlt : i < lg
    · have hi : (i : Int) < (lg : Int) := by omega
      have v1 : IntKind.i64.wrap (2 + (i : Int)) = 2 + (i : Int) := IntWalk.i64_in _ (by omega)
      have v2 : IntKind.i64.wrap ((i : Int) + 1) = (i : Int) + 1 := IntWalk.i64_in _ (by omega)
      have A1 := Lib.hid (fun W k => AT.out i hlt W k)
      rw [show ((2 + i : Nat) : Int) = 2 + (i : Int) by omega] at A1
      have T1 : Hid (d.secs.take (i + 1) = d.secs.take i ++ [d.tell (2 + (i : Int))]) := by
        show _ = _
        have hl : i < d.secs.length := by rw [SL.out]; exact hlt
        rw [List.take_succ_eq_append_getElem hl, secs_get]
      obtain ⟨y, hy⟩ : ∃ y, y = d.tell (2 + (i : Int)) := ⟨_, rfl⟩
      rw [← hy] at A1 T1
      have Tl : (d.secs.take i).length ≤ 65536 := by rw [List.length_take]; omega
      clear hy
      go_wp2_with fail
      refine (A1.out _ (HD.out.below HB.out)).mono ?_; rintro e w5 ⟨rfl, rfl⟩
      go_wp2_with (at_builtin; refine wpList_append_s1 rfl _ _ _ rfl 9 i0 _ Tryz.underlying34 ih i1 i2 i3 (by decide) w.heap.size u7 (d.secs.take i) rfl (HR.out.alloc _) wr.heap.size 1 rfl y (blk_cell (blk_new _ _) 0) Tl (by have := HB.out.size; simp; omega) ?_; intro v' w6 k1 k2 k3; have K1 := Lib.hid k1; have K2 := Lib.hid k2; clear k1 k2 k3)
      have B6 := Lib.hid (bel_row (HB.out.alloc HB.out.size _) (by have := HB.out.size; simp; omega) (HR.out.alloc _) K2.out)
      have R6 : Hid (w6.ownsRow w.heap.size 9 1 v' (d.secs.take (i + 1)).length ((d.secs.take (i + 1)).map Value.string)) := by show World.ownsRow _ _ _ _ _ _ _; rw [T1.out]; exact K1.out
      go_roundw
      case rel => exact ⟨i + 1, by omega, by go_num, R6.out, B6.out⟩
      case measure => simp [intOf]; omega
    · have hi : ¬ (i : Int) < (lg : Int) := by omega
      obtain rfl : i = lg := by omega
      have hT : d.secs.take i = d.secs := List.take_of_length_le (by rw [SL.out]; exact Nat.le_refl _)
      rw [hT] at HR
      clear hT
      go_wp2_with fail
      go_ret
      exact ⟨_, rfl, SlStrs.of_own HR.out, HB.out⟩
end Go.Proofs.YtdbiebnnogjccaaGreatDoor
