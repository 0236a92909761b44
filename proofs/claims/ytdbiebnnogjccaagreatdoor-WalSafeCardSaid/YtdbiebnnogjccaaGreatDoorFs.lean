/- How arguments of the types [][]string, [][]api.Kept are opened. -/
import Derived.Test.YtdbiebnnogjccaaGreatDoorOpw
import Derived.Test.YtdbiebnnogjccaaGreatDoorFq
import Derived.Deep.RegionHeld3
namespace Go.Proofs.YtdbiebnnogjccaaGreatDoor
open Go.ChangeShapes Go.WideShapes Go.RowKit
/-- Strings in memory; an empty list may lie anywhere. -/
def SlX (w : World) (v : Value) (L : List ByteArray) : Prop := (L = [] ∧ ∃ p c, v = .slice p 0 c) ∨ ∃ b off cap, v = .slice (some ⟨b, off, none⟩) L.length cap ∧ StrsAt w b off L
theorem SlX.below {w w' : World} {v : Value} {L : List ByteArray} (h : SlX w v L) (hb : Below w.heap.size w w') : SlX w' v L := by
  rcases h with h | ⟨b, off, cap, e, h⟩
  · exact .inl h
  · exact .inr ⟨b, off, cap, e, h.below hb⟩
theorem SlX.form {w : World} {v : Value} {L : List ByteArray} (h : SlX w v L) : ∃ p c, v = .slice p L.length c := by
  rcases h with ⟨e, p, c, h⟩ | ⟨b, off, cap, e, _⟩
  · subst e; exact ⟨p, c, h⟩
  · exact ⟨_, _, e⟩
theorem SlX.at {w : World} {p : Option Addr} {c k n : Nat} {L : List ByteArray} (h : SlX w (.slice p n c) L) (hk : k < L.length) : ∃ b off, p = some ⟨b, off, none⟩ ∧ StrsAt w b off L := by
  rcases h with ⟨h2, _⟩ | ⟨b, off, cap, e, h⟩
  · subst h2; exact absurd hk (by simp)
  · injection e with e1 e2 e3
    exact ⟨b, off, e1, h⟩
/-- A slice of slices: what each holds. -/
def SlN {α : Type} (Q : World → Value → α → Prop) (w : World) (v : Value) (L : List α) : Prop := (v = .slice none 0 0 ∧ L = []) ∨ ∃ b off cap, v = .slice (some ⟨b, off, none⟩) L.length cap ∧ ∀ i (h : i < L.length), ∃ u, w.cell? ⟨b, off + i, none⟩ = some u ∧ Q w u L[i]
theorem SlN.form {α : Type} {Q : World → Value → α → Prop} {w : World} {v : Value} {L : List α} (h : SlN Q w v L) : ∃ p c, v = .slice p L.length c := by
  rcases h with ⟨h, e⟩ | ⟨b, off, cap, e, _⟩
  · subst e; exact ⟨none, 0, h⟩
  · exact ⟨_, _, e⟩
theorem SlN.at {α : Type} {Q : World → Value → α → Prop} {w : World} {p : Option Addr} {c k n : Nat} {L : List α} (h : SlN Q w (.slice p n c) L) (hk : k < L.length) : ∃ b off, p = some ⟨b, off, none⟩ ∧ ∃ u, w.cell? ⟨b, off + k, none⟩ = some u ∧ Q w u L[k] := by
  rcases h with ⟨_, h2⟩ | ⟨b, off, cap, e, h⟩
  · subst h2; exact absurd hk (by simp)
  · injection e with e1 e2 e3
    exact ⟨b, off, e1, h k hk⟩
section
variable {H : Type} {enc : TypeId × Value → H} {W : World} {base : Nat} {sp : Nat → Bool} {held : Bool}
theorem od_sls : Tryz.prog.cellsOf 34 = 1 := by kernel_rfl
set_option maxRecDepth 100000 in
theorem open_strsT {m : Nat} {c : Value} {y : DataW H × List MemPlace} (h : DataW.trod enc Tryz.prog W base sp held m 34 [c] = some y) :
    ∃ L : List ByteArray, SlX W c L ∧ L.length ≤ 9223372036854775807 := by
  rcases DataW.trod_slice Tryz.underlying34 h with ⟨e1, _⟩ | ⟨a, len, cap, elems, rest, n, _, e1, _, _, hl, hm, hlen, hel, _, _⟩
  · have e1 : c = .slice none 0 0 := by simpa using e1
    exact ⟨[], .inl ⟨rfl, _, _, e1⟩, Nat.zero_le _⟩
  · have e1 : c = .slice (some a) len cap := by simpa using e1
    subst e1
    rcases Nat.eq_zero_or_pos len with h0 | h0
    · subst h0
      exact ⟨[], .inl ⟨rfl, _, _, rfl⟩, Nat.zero_le _⟩
    have hs : a.spot = none := by
      have hx := hel 0 h0
      rw [List.getElem?_eq_getElem (by omega), od_str, Option.bind_eq_some_iff] at hx
      obtain ⟨cs, h1, h2⟩ := hx
      obtain ⟨_, hlen2, hcell⟩ := World.cells?_some h1
      match cs, hlen2 with
      | [d0], _ =>
        have k0 := hcell 0 (by decide)
        rw [Nat.zero_mul, od_add0, od_add0] at k0
        exact od_spot k0
    have each : ∀ i, i < len → ∃ x : ByteArray, W.cell? ⟨a.block, a.off + i, none⟩ = some (.string x) := by
      intro i hi
      have hx := hel i hi
      rw [List.getElem?_eq_getElem (by omega), od_str, Option.bind_eq_some_iff] at hx
      obtain ⟨cs, h1, h2⟩ := hx
      obtain ⟨_, hlen2, hcell⟩ := World.cells?_some h1
      match cs, hlen2 with
      | [d0], _ =>
        obtain ⟨x, e0, _, _⟩ := DataW.trod_string Tryz.underlying9 h2
        simp at e0
        subst e0
        have k0 := hcell 0 (by decide)
        rw [od_form hs, od_add, od_add] at k0
        exact ⟨x, by simpa using k0⟩
    obtain ⟨f, hf⟩ := Go.Deep.choose_lt each
    have hll : ((List.range len).map f).length = len := by simp
    have hget : ∀ i (h : i < ((List.range len).map f).length), ((List.range len).map f)[i] = f i := fun i h => by simp
    rw [od_form hs]
    refine ⟨(List.range len).map f, .inr ⟨a.block, a.off, cap, by rw [hll], ⟨fun _ => ?_, fun i hi => ?_⟩⟩, by rw [hll]; have := hm; simp only [maxLen] at this; omega⟩
    · exact World.block_lt_of_cell? W ⟨a.block, a.off + 0, none⟩ (hf 0 h0)
    · rw [hget]; exact hf i (by omega)
set_option maxRecDepth 100000 in
theorem open_sss {r : Reach} {b0 : Nat} {c : Value} {d : DataW H} {p : List MemPlace} (hv : Value.okWide Tryz.prog W r b0 22 c) (h : DataW.Trod enc Tryz.prog W base sp held 22 c d p) :
    ∃ L : List (List ByteArray), SlN SlX W c L ∧ L.length ≤ 9223372036854775807 ∧ ∀ x ∈ L, x.length ≤ 9223372036854775807 := by
  unfold Value.okWide at hv
  rw [Tryz.underlying22] at hv
  obtain ⟨fuel, h⟩ := h
  have e0 : c.cells.toList = [c] := by
    cases c with
    | agg cs => simp [Cell.okWide, Cell.ok, Tryz.underlying22] at hv
    | _ => rfl
  rw [e0] at h
  rcases DataW.trod_slice Tryz.underlying22 h with ⟨e1, _⟩ | ⟨a, len, cap, elems, rest, n, _, e1, _, _, hl, hm, hlen, hel, _, _⟩
  · have e1 : c = .slice none 0 0 := by simpa using e1
    exact ⟨[], .inl ⟨e1, rfl⟩, Nat.zero_le _, fun x hx => absurd hx (by simp)⟩
  · have e1 : c = .slice (some a) len cap := by simpa using e1
    subst e1
    have hs : a.spot = none := by
      have h' : Cell.ok Tryz.prog W r b0 22 (.slice (some a) len cap) := by
        have hv : Cell.okWide Tryz.prog W r b0 22 (.slice (some a) len cap) := hv
        unfold Cell.okWide at hv; rw [Tryz.underlying22] at hv; exact hv
      unfold Cell.ok at h'
      rw [Tryz.underlying22] at h'
      obtain ⟨_, _, _, hs, _⟩ := h'
      exact hs
    have each : ∀ i, i < len → ∃ x : (List ByteArray), (∃ u, W.cell? ⟨a.block, a.off + i, none⟩ = some u ∧ SlX W u x) ∧ x.length ≤ 9223372036854775807 := by
      intro i hi
      have hx := hel i hi
      rw [List.getElem?_eq_getElem (by omega), od_sls, Option.bind_eq_some_iff] at hx
      obtain ⟨cs, h1, h2⟩ := hx
      obtain ⟨_, hlen2, hcell⟩ := World.cells?_some h1
      match cs, hlen2 with
      | [d0], _ =>
        obtain ⟨x, hx1, hx2⟩ := open_strsT h2
        have k0 := hcell 0 (by decide)
        rw [od_form hs, od_add, od_add] at k0
        exact ⟨x, ⟨d0, by simpa using k0, hx1⟩, hx2⟩
    obtain ⟨f, hf⟩ := Go.Deep.choose_lt each
    have hll : ((List.range len).map f).length = len := by simp
    have hget : ∀ i (h : i < ((List.range len).map f).length), ((List.range len).map f)[i] = f i := fun i h => by simp
    rw [od_form hs]
    refine ⟨(List.range len).map f, .inr ⟨a.block, a.off, cap, by rw [hll], fun i hi => ?_⟩, by rw [hll]; have := hm; simp only [maxLen] at this; omega, fun x hx => ?_⟩
    · rw [hget]; exact (hf i (by omega)).1
    · obtain ⟨i, hi, rfl⟩ := List.mem_map.1 hx
      exact (hf i (List.mem_range.1 hi)).2
set_option maxRecDepth 100000 in
theorem open_kpp {r : Reach} {b0 : Nat} {c : Value} {d : DataW H} {p : List MemPlace} (hv : Value.okWide Tryz.prog W r b0 24 c) (h : DataW.Trod enc Tryz.prog W base sp held 24 c d p) :
    ∃ L : List (List (Int × Int)), SlN SlKept W c L ∧ L.length ≤ 9223372036854775807 ∧ ∀ x ∈ L, x.length ≤ 9223372036854775807 := by
  unfold Value.okWide at hv
  rw [Tryz.underlying24] at hv
  obtain ⟨fuel, h⟩ := h
  have e0 : c.cells.toList = [c] := by
    cases c with
    | agg cs => simp [Cell.okWide, Cell.ok, Tryz.underlying24] at hv
    | _ => rfl
  rw [e0] at h
  rcases DataW.trod_slice Tryz.underlying24 h with ⟨e1, _⟩ | ⟨a, len, cap, elems, rest, n, _, e1, _, _, hl, hm, hlen, hel, _, _⟩
  · have e1 : c = .slice none 0 0 := by simpa using e1
    exact ⟨[], .inl ⟨e1, rfl⟩, Nat.zero_le _, fun x hx => absurd hx (by simp)⟩
  · have e1 : c = .slice (some a) len cap := by simpa using e1
    subst e1
    have hs : a.spot = none := by
      have h' : Cell.ok Tryz.prog W r b0 24 (.slice (some a) len cap) := by
        have hv : Cell.okWide Tryz.prog W r b0 24 (.slice (some a) len cap) := hv
        unfold Cell.okWide at hv; rw [Tryz.underlying24] at hv; exact hv
      unfold Cell.ok at h'
      rw [Tryz.underlying24] at h'
      obtain ⟨_, _, _, hs, _⟩ := h'
      exact hs
    have each : ∀ i, i < len → ∃ x : (List (Int × Int)), (∃ u, W.cell? ⟨a.block, a.off + i, none⟩ = some u ∧ SlKept W u x) ∧ x.length ≤ 9223372036854775807 := by
      intro i hi
      have hx := hel i hi
      rw [List.getElem?_eq_getElem (by omega), od_slk, Option.bind_eq_some_iff] at hx
      obtain ⟨cs, h1, h2⟩ := hx
      obtain ⟨_, hlen2, hcell⟩ := World.cells?_some h1
      match cs, hlen2 with
      | [d0], _ =>
        obtain ⟨x, hx1, hx2, _⟩ := open_kepts h2
        have k0 := hcell 0 (by decide)
        rw [od_form hs, od_add, od_add] at k0
        exact ⟨x, ⟨d0, by simpa using k0, hx1⟩, hx2⟩
    obtain ⟨f, hf⟩ := Go.Deep.choose_lt each
    have hll : ((List.range len).map f).length = len := by simp
    have hget : ∀ i (h : i < ((List.range len).map f).length), ((List.range len).map f)[i] = f i := fun i h => by simp
    rw [od_form hs]
    refine ⟨(List.range len).map f, .inr ⟨a.block, a.off, cap, by rw [hll], fun i hi => ?_⟩, by rw [hll]; have := hm; simp only [maxLen] at this; omega, fun x hx => ?_⟩
    · rw [hget]; exact (hf i (by omega)).1
    · obtain ⟨i, hi, rfl⟩ := List.mem_map.1 hx
      exact (hf i (List.mem_range.1 hi)).2
end
end Go.Proofs.YtdbiebnnogjccaaGreatDoor

/- Frames (layer 18): FrameTorn. -/
namespace Go.Proofs.YtdbiebnnogjccaaGreatDoor
open Go.RowKit
theorem first_sec (n : Int) (s : List UInt8) : ∃ A L, (secsF n s).map ofL = A :: L ∧ A.data.toList.length = 256 ∧ A.data.toList.take 4 = mkL n ∧ A.data.toList.drop 252 = mkL n := by
  obtain ⟨L, hL⟩ := secs_cons n s
  refine ⟨ofL (secF n (allF s) (szN s.length) 0), L.map ofL, by rw [hL]; rfl, ?_⟩
  rw [ofL_list]
  exact ⟨sec_length (allF_length s) (sz_pos _), sec_take4, sec_end (allF_length s) (sz_pos _)⟩
end Go.Proofs.YtdbiebnnogjccaaGreatDoor

/- Frames (layer 18): plain words of FrameBack: a record with what stands behind it, without a sector, with one of another number. -/
namespace Go.Proofs.YtdbiebnnogjccaaGreatDoor
theorem LL_app (a b : List ByteArray) : LL (a ++ b) = LL a ++ LL b := by unfold LL; exact List.map_append
section
variable {n o : Int} {s : List UInt8}
theorem back_ext (h0 : 0 < n) (h1 : n < 4294967296) (hs : s.length ≤ 2000) (q : List ByteArray) : readF (LL ((secsF n s).map ofL ++ q)) = some (s, n, szN s.length) := by
  rw [LL_app, LL_ofL]; exact read_made h0 h1 hs _
theorem sec_kind {x : List UInt8} (h : x ∈ secsF n s) : (x.drop 6).take 2 = beBytes (szN s.length : Nat) 2 := by
  unfold secsF at h
  rw [List.mem_map] at h
  obtain ⟨i, _, rfl⟩ := h
  exact sec_many
theorem sec_numF (h0 : 0 ≤ n) (h1 : n < 4294967296) {x : List UInt8} (h : x ∈ secsF n s) : numF x = n := by
  unfold secsF at h
  rw [List.mem_map] at h
  obtain ⟨i, hi, rfl⟩ := h
  exact sec_num h0 h1 (allF_length s) (List.mem_range.1 hi)
theorem back_short (hs : s.length ≤ 2000) {t : Nat} (ht : t < szN s.length) : readF (LL (((secsF n s).map ofL).take t ++ ((secsF n s).map ofL).drop (t + 1))) = none := by
  rw [LL_app, ← List.map_take, ← List.map_drop, LL_ofL, LL_ofL]
  have hl : ((secsF n s).take t ++ (secsF n s).drop (t + 1)).length < szN s.length := by
    rw [List.length_append, List.length_take, List.length_drop, secsF_length]; omega
  have hk := sz_le hs
  cases hL : (secsF n s).take t ++ (secsF n s).drop (t + 1) with
  | nil => rfl
  | cons x q =>
    have hx : x ∈ secsF n s := by
      have : x ∈ (secsF n s).take t ++ (secsF n s).drop (t + 1) := by rw [hL]; exact List.mem_cons_self
      rw [List.mem_append] at this
      exact this.elim List.mem_of_mem_take List.mem_of_mem_drop
    rw [hL] at hl
    exact read_few (x := x) rfl (sec_kind hx) (by omega) hl
theorem back_one (o0 : 0 < o) (o1 : o < 4294967296) (hs : s.length ≤ 2000) (h1 : szN s.length = 1) {Y : ByteArray} (hY : ((secsF o s).map ofL)[0]? = some Y) : readF (LL (((secsF n s).map ofL).set 0 Y)) = some (s, o, 1) := by
  have e : ((secsF n s).map ofL).set 0 Y = (secsF o s).map ofL ++ [] := by
    have l1 : ((secsF n s).map ofL).length = 1 := by rw [List.length_map, secsF_length, h1]
    have l2 : ((secsF o s).map ofL).length = 1 := by rw [List.length_map, secsF_length, h1]
    match h : (secsF n s).map ofL, g : (secsF o s).map ofL, l1, l2 with
    | [a], [b], _, _ =>
      rw [g] at hY
      simp at hY
      simp [hY]
  rw [e, back_ext o0 o1 hs, h1]
theorem back_mixed (n0 : 0 ≤ n) (n1 : n < 4294967296) (o0 : 0 ≤ o) (o1 : o < 4294967296) (hne : o ≠ n) (hs : s.length ≤ 2000) {t : Nat} (ht : t < szN s.length) (hk1 : szN s.length ≠ 1) {Y : ByteArray} (hY : ((secsF o s).map ofL)[t]? = some Y) :
    readF (LL (((secsF n s).map ofL).set t Y)) = none := by
  have hk := sz_le hs
  obtain ⟨y, hy, rfl⟩ : ∃ y, y ∈ secsF o s ∧ ofL y = Y := by
    rw [List.getElem?_map] at hY
    cases hq : (secsF o s)[t]? with
    | none => rw [hq] at hY; cases hY
    | some y => rw [hq] at hY; exact ⟨y, List.mem_of_getElem? hq, by simpa using hY⟩
  have e : LL (((secsF n s).map ofL).set t (ofL y)) = (secsF n s).set t y := by
    rw [← List.map_set, LL_ofL]
  rw [e]
  have l1 : (secsF n s).length = szN s.length := secsF_length n s
  have yn := sec_numF o0 o1 hy
  by_cases c : t = 0
  · subst c
    have h1 : 1 < (secsF n s).length := by omega
    refine read_other (x := y) (y := (secsF n s)[1]) (k := szN s.length) (i := 1) ?_ (sec_kind hy) (by omega) (by omega) ?_ ?_
    · rw [List.head?_eq_getElem?, List.getElem?_set_self (by omega)]
    · rw [List.getElem?_set_ne (by omega), List.getElem?_eq_getElem h1]
    · rw [yn, sec_numF n0 n1 (List.getElem_mem h1)]; exact fun e => hne e.symm
  · have h1 : 0 < (secsF n s).length := by omega
    refine read_other (x := (secsF n s)[0]) (y := y) (k := szN s.length) (i := t) ?_ (sec_kind (List.getElem_mem h1)) (by omega) ht ?_ ?_
    · rw [List.head?_eq_getElem?, List.getElem?_set_ne (by omega), List.getElem?_eq_getElem h1]
    · rw [List.getElem?_set_self (by omega)]
    · rw [yn, sec_numF n0 n1 (List.getElem_mem h1)]; exact hne
end
end Go.Proofs.YtdbiebnnogjccaaGreatDoor

/- Frames (layer 18): FrameBack. -/
namespace Go.Proofs.YtdbiebnnogjccaaGreatDoor
open Go.RowKit
theorem bel1 {B : Nat} {a W : World} (h : Below B a W ∧ B ≤ W.heap.size) : Below B a W := h.1
theorem keep_ModE (a m : Int) (hm : 0 < m) (hm1 : m < 4294967296) (w : World) :
    Calls Tryz.prog 52 #[.int .i64 a, .int .i64 m] w fun e w' => e = .returned (.int .i64 (a.tmod m % m)) ∧ w' = w := by
  have h0 : ¬ m < 1 := by omega
  have h1 : ¬ m = 0 := by omega
  have t1 : -m < a.tmod m := Int.lt_tmod_of_pos a hm
  have t2 : a.tmod m < m := Int.tmod_lt_of_pos a hm
  have t3 : 0 ≤ a.tmod m % m := Int.emod_nonneg _ h1
  have t4 : a.tmod m % m < m := Int.emod_lt_of_pos _ hm
  go_enter Tryz.func52, Tryz.ntmps52
  go_wp2_with fail
  go_ret
  exact ⟨rfl, rfl⟩
theorem strs_take {w : World} {b off c t : Nat} {l : List ByteArray} (h : StrsAt w b off l) (ht : t ≤ l.length) (hc : t ≤ c) : SlStrs w (.slice (some ⟨b, off, none⟩) t c) (l.take t) := by
  have hl : (l.take t).length = t := by rw [List.length_take]; omega
  exact .inr ⟨b, off, c, by rw [hl], by rw [hl]; exact hc, h.take t⟩
theorem strs_drop {w : World} {b off c t m : Nat} {l : List ByteArray} (h : StrsAt w b off l) (hm : m = l.length - t) (hc : m ≤ c) : SlStrs w (.slice (some ⟨b, off + t, none⟩) m c) (l.drop t) := by
  have hl : (l.drop t).length = m := by rw [List.length_drop]; omega
  exact .inr ⟨b, off + t, c, by rw [hl], by rw [hl]; exact hc, h.drop t⟩
theorem strs_dropE {w : World} {b off c t m : Nat} {l : List ByteArray} (_h : StrsAt w b off l) (ht : l.length ≤ t) (hm : m = l.length - t) : SlStrs w (.slice (some ⟨b, off, none⟩) m c) (l.drop t) := by
  obtain rfl : m = 0 := by omega
  rw [List.drop_of_length_le ht]
  exact .inr ⟨b, off, c, rfl, Nat.zero_le _, ⟨fun h => absurd rfl h, fun i h => absurd h (by simp)⟩⟩
theorem row_set {W : World} {B g k c t : Nat} {e : TypeId} {l : List ByteArray} (h : W.ownsRow B e 1 (.slice (some ⟨g, 0, none⟩) k c) k (l.map Value.string)) (hl : l.length = k) (ht : t < k) (Y : ByteArray) :
    SlStrs (W.setCell ⟨g, t, none⟩ (.string Y)) (.slice (some ⟨g, 0, none⟩) k c) (l.set t Y) ∧ W.frozen? ⟨g, t, none⟩ = false ∧ ∃ u, W.cell? ⟨g, t, none⟩ = some (.string u) := by
  have hc : ∀ j (hj : j < l.length), W.cell? ⟨g, j, none⟩ = some (.string l[j]) := fun j hj => row_cellS h rfl (by rw [List.getElem?_map, List.getElem?_eq_getElem hj]; rfl)
  have ht' : t < l.length := by omega
  rcases h.2 with ⟨h6, _⟩ | ⟨g', c', cur, h6, hb, hg, hn, _⟩
  · exact absurd h6 (by simp)
  · injection h6 with e1 e2 e3
    injection e1 with e1
    injection e1 with e4 e5 e6
    subst e4 e3
    refine ⟨.inr ⟨g, 0, c, by rw [List.length_set, hl], by rw [List.length_set, hl]; exact hn, ⟨fun _ => by simp [World.setCell]; exact blk_lt hg, fun i hi => ?_⟩⟩, blk_frozen hg _, _, hc t ht'⟩
    rw [List.length_set] at hi
    rw [Nat.zero_add, List.getElem_set]
    by_cases hti : t = i
    · subst hti
      rw [if_pos rfl]
      exact World.cell?_setCell_same _ _ _ (hc t ht')
    · rw [if_neg hti, World.cell?_setCell_other _ _ _ _ (by intro e; injection e with _ e2 _; exact hti e2)]
      exact hc i hi
theorem strs_ofN {w : World} {base n : Nat} {e : TypeId} {v : Value} {l : List ByteArray} (hn : n = l.length) (h : w.ownsRow base e 1 v n (l.map Value.string)) : SlStrs w v l := by subst hn; exact SlStrs.of_own h
end Go.Proofs.YtdbiebnnogjccaaGreatDoor
