/- Pages (layer 22): steps in memory; fair. -/
import Derived.Test.YtdbiebnnogjccaaGreatDoorGo
import Derived.Test.YtdbiebnnogjccaaGreatDoorWt
import Derived.Test.YtdbiebnnogjccaaGreatDoorFq
import Derived.Deep.RegionHeld3
namespace Go.Proofs.YtdbiebnnogjccaaGreatDoor
open Go.RowKit
/-- A row of numbers; an empty one may lie anywhere. -/
def SlIw (w : World) (v : Value) (l : List Int) : Prop := (l = [] ∧ ∃ p c, v = .slice p 0 c) ∨ ∃ b off cap, v = .slice (some ⟨b, off, none⟩) l.length cap ∧ l.length ≤ cap ∧ IlAt w b off l
theorem SlIl.w {w : World} {v : Value} {l : List Int} (h : SlIl w v l) : SlIw w v l := h.imp (fun ⟨a, b⟩ => ⟨b, none, 0, a⟩) id
theorem SlIw.below {w w' : World} {v : Value} {l : List Int} (h : SlIw w v l) (hb : Below w.heap.size w w') : SlIw w' v l := h.imp id (fun ⟨b, off, c, e, k, h⟩ => ⟨b, off, c, e, k, h.below hb⟩)
theorem SlIw.form {w : World} {v : Value} {l : List Int} (h : SlIw w v l) : ∃ p c, v = .slice p l.length c := by
  rcases h with ⟨rfl, p, c, e⟩ | ⟨b, off, c, e, _, _⟩
  · exact ⟨p, c, e⟩
  · exact ⟨_, c, e⟩
theorem SlIw.atN {w : World} {p : Option Addr} {n c k : Nat} {l : List Int} (hn : n = l.length) (h : SlIw w (.slice p n c) l) (hk : k < l.length) : ∃ b off, p = some ⟨b, off, none⟩ ∧ IlAt w b off l := by
  rcases h with ⟨rfl, _⟩ | ⟨b, off, cap, e, _, h⟩
  · exact absurd hk (by simp)
  · injection e with e _ _; exact ⟨b, off, e, h⟩
/-- A step: kind, page, number, text, pages. -/
structure Stg where
  k : Int
  n : Int
  num : Int
  s : ByteArray
  l : List Int
structure StgsAt (w : World) (b off : Nat) (L : List Stg) : Prop where
  lt : L ≠ [] → b < w.heap.size
  kind : ∀ i (h : i < L.length), w.cell? ⟨b, off + i * 5, none⟩ = some (.int .i64 L[i].k)
  page : ∀ i (h : i < L.length), w.cell? ⟨b, off + i * 5 + 1, none⟩ = some (.int .i64 L[i].n)
  num : ∀ i (h : i < L.length), w.cell? ⟨b, off + i * 5 + 2, none⟩ = some (.int .u32 L[i].num)
  str : ∀ i (h : i < L.length), w.cell? ⟨b, off + i * 5 + 3, none⟩ = some (.string L[i].s)
  lst : ∀ i (h : i < L.length), ∃ v, w.cell? ⟨b, off + i * 5 + 4, none⟩ = some v ∧ SlIw w v L[i].l
theorem StgsAt.below {w w' : World} {b off : Nat} {L : List Stg} (h : StgsAt w b off L) (hb : Below w.heap.size w w') : StgsAt w' b off L :=
  ⟨fun hl => Nat.lt_of_lt_of_le (h.lt hl) hb.size, fun i hi => dk_cell (h.kind i hi) hb, fun i hi => dk_cell (h.page i hi) hb, fun i hi => dk_cell (h.num i hi) hb, fun i hi => dk_cell (h.str i hi) hb, fun i hi => by obtain ⟨v, h1, h2⟩ := h.lst i hi; exact ⟨v, dk_cell h1 hb, h2.below hb⟩⟩
def SlStgs (w : World) (v : Value) (L : List Stg) : Prop := (v = .slice none 0 0 ∧ L = []) ∨ ∃ b off cap, v = .slice (some ⟨b, off, none⟩) L.length cap ∧ L.length ≤ cap ∧ StgsAt w b off L
theorem SlStgs.below {w w' : World} {v : Value} {L : List Stg} (h : SlStgs w v L) (hb : Below w.heap.size w w') : SlStgs w' v L := h.imp id (fun ⟨b, off, c, e, k, h⟩ => ⟨b, off, c, e, k, h.below hb⟩)
theorem SlStgs.form {w : World} {v : Value} {L : List Stg} (h : SlStgs w v L) : ∃ p c, v = .slice p L.length c ∧ L.length ≤ c := by
  rcases h with ⟨h, e⟩ | ⟨b, off, cap, e, hc, h⟩
  · subst e; exact ⟨none, 0, h, Nat.le_refl _⟩
  · exact ⟨_, _, e, hc⟩
theorem SlStgs.atN {w : World} {p : Option Addr} {n c k : Nat} {L : List Stg} (hn : n = L.length) (h : SlStgs w (.slice p n c) L) (hk : k < L.length) : ∃ b off, p = some ⟨b, off, none⟩ ∧ StgsAt w b off L := by
  rcases h with ⟨_, e⟩ | ⟨b, off, cap, e, _, h⟩
  · rw [e] at hk; exact absurd hk (by simp)
  · injection e with e _ _; exact ⟨b, off, e, h⟩
/-- fair. -/
def FairG (L : List Stg) (w : World) (e : Ending) (w' : World) : Prop := w = w' ∧ ∃ b : Bool, e = .returned (.bool b) ∧ (b = true → L.length ≤ 120 ∧ ∀ x ∈ L, x.s.size ≤ 1000 ∧ x.l.length ≤ 100)
set_option maxRecDepth 20000 in
set_option maxHeartbeats 4000000 in
theorem law22_fair (v : Value) (L : List Stg) (hL : L.length ≤ 9223372036854775807) (w : World) (hv : SlStgs w v L) :
    Calls Tryz.prog 39 #[v] w (FairG L w) := by
  obtain ⟨p, cp, rfl, hcp⟩ := hv.form
  have HV := Lib.hid hv
  have NO : Hid (FairG L w (.returned (.bool false)) w) := ⟨rfl, false, rfl, fun h => by cases h⟩
  obtain ⟨m, hm⟩ : ∃ m, m = L.length := ⟨_, rfl⟩
  rw [← hm] at HV hL ⊢
  have HM := Lib.hid hm
  clear hv hm hcp
  go_enter Tryz.func39, Tryz.ntmps39
  go_wp2_with fail
  go_loop [3] (fun c => ∃ i : Nat, i ≤ m ∧ c = .int .i64 i ∧ ∀ j (h : j < L.length), j < i → L[j].s.size ≤ 1000 ∧ L[j].l.length ≤ 100) (fun c => m - (intOf c).toNat)
  case atStart => exact ⟨0, Nat.zero_le _, rfl, fun j _ h => absurd h (by omega)⟩
  case round =>
    obtain ⟨i, hik, rfl, hp⟩ := hrel
    have HP := Lib.hid hp
    clear hp
    by_cases hlt : i < m
    · have hi : (i : Int) < (m : Int) := by omega
      have hi0 : (0 : Int) ≤ (i : Int) := by omega
      have v1 : IntKind.i64.wrap ((i : Int) + 1) = (i : Int) + 1 := IntWalk.i64_in _ (by omega)
      have hl : i < L.length := by rw [← HM.out]; exact hlt
      obtain ⟨b, off, rfl, hS⟩ := SlStgs.atN HM.out HV.out hl
      have c3 := hS.str i hl
      obtain ⟨lv, c4, hw⟩ := hS.lst i hl
      obtain ⟨pl, cl, rfl⟩ := hw.form
      obtain ⟨x, hx⟩ : ∃ x, x = L[i] := ⟨_, rfl⟩
      have HX := Lib.hid hx
      rw [← hx] at c3 c4
      obtain ⟨xk, xn, xm, xs, xl⟩ := x
      dsimp only at c3 c4
      clear hS hw hx
      by_cases h1 : xs.size ≤ 1000
      · have g1 : ¬ (1000 : Int) < (xs.size : Int) := by omega
        by_cases h2 : xl.length ≤ 100
        · have g2 : ¬ (100 : Int) < (xl.length : Int) := by omega
          go_wp2_with fail
          go_round
          case rel =>
            refine ⟨i + 1, by omega, by go_num, fun j hj hji => ?_⟩
            by_cases e : j = i
            · subst e; rw [← HX.out]; exact ⟨h1, h2⟩
            · exact HP.out j hj (by omega)
          case measure => simp [intOf]; omega
        · have g2 : (100 : Int) < (xl.length : Int) := by omega
          go_wp2_with fail
          go_ret
          exact NO.out
      · have g1 : (1000 : Int) < (xs.size : Int) := by omega
        go_wp2_with fail
        go_ret
        exact NO.out
    · have hi : ¬ (i : Int) < (m : Int) := by omega
      by_cases h3 : m ≤ 120
      · have g3 : (m : Int) ≤ 120 := by omega
        have FIN : Hid (FairG L w (.returned (.bool true)) w) := ⟨rfl, true, rfl, fun _ => ⟨by have := HM.out; omega, fun x hx => by
          obtain ⟨j, hj, rfl⟩ := List.getElem_of_mem hx
          exact HP.out j hj (by have := HM.out; omega)⟩⟩
        go_wp2_with fail
        go_ret
        exact FIN.out
      · have g3 : ¬ (m : Int) ≤ 120 := by omega
        go_wp2_with fail
        go_ret
        exact NO.out
end Go.Proofs.YtdbiebnnogjccaaGreatDoor

/- Frames (layer 18): FrameTorn. -/
namespace Go.Proofs.YtdbiebnnogjccaaGreatDoor
open Go.RowKit
theorem first_sec (n : Int) (s : List UInt8) : ∃ A L, (secsF n s).map ofL = A :: L ∧ A.data.toList.length = 256 ∧ A.data.toList.take 4 = mkL n ∧ A.data.toList.drop 252 = mkL n := by
  obtain ⟨L, hL⟩ := secs_cons n s
  refine ⟨ofL (secF n (allF s) (szN s.length) 0), L.map ofL, by rw [hL]; rfl, ?_⟩
  rw [ofL_list]
  exact ⟨sec_length (allF_length s) (sz_pos _), sec_take4, sec_end (allF_length s) (sz_pos _)⟩
end Go.Proofs.YtdbiebnnogjccaaGreatDoor

/- Frames (layer 18): plain words of FrameBack: a record with what stands behind it, without a sector, with one of another number. -/
namespace Go.Proofs.YtdbiebnnogjccaaGreatDoor
theorem LL_app (a b : List ByteArray) : LL (a ++ b) = LL a ++ LL b := by unfold LL; exact List.map_append
section
variable {n o : Int} {s : List UInt8}
theorem back_ext (h0 : 0 < n) (h1 : n < 4294967296) (hs : s.length ≤ 2000) (q : List ByteArray) : readF (LL ((secsF n s).map ofL ++ q)) = some (s, n, szN s.length) := by
  rw [LL_app, LL_ofL]; exact read_made h0 h1 hs _
theorem sec_kind {x : List UInt8} (h : x ∈ secsF n s) : (x.drop 6).take 2 = beBytes (szN s.length : Nat) 2 := by
  unfold secsF at h
  rw [List.mem_map] at h
  obtain ⟨i, _, rfl⟩ := h
  exact sec_many
theorem sec_numF (h0 : 0 ≤ n) (h1 : n < 4294967296) {x : List UInt8} (h : x ∈ secsF n s) : numF x = n := by
  unfold secsF at h
  rw [List.mem_map] at h
  obtain ⟨i, hi, rfl⟩ := h
  exact sec_num h0 h1 (allF_length s) (List.mem_range.1 hi)
theorem back_short (hs : s.length ≤ 2000) {t : Nat} (ht : t < szN s.length) : readF (LL (((secsF n s).map ofL).take t ++ ((secsF n s).map ofL).drop (t + 1))) = none := by
  rw [LL_app, ← List.map_take, ← List.map_drop, LL_ofL, LL_ofL]
  have hl : ((secsF n s).take t ++ (secsF n s).drop (t + 1)).length < szN s.length := by
    rw [List.length_append, List.length_take, List.length_drop, secsF_length]; omega
  have hk := sz_le hs
  cases hL : (secsF n s).take t ++ (secsF n s).drop (t + 1) with
  | nil => rfl
  | cons x q =>
    have hx : x ∈ secsF n s := by
      have : x ∈ (secsF n s).take t ++ (secsF n s).drop (t + 1) := by rw [hL]; exact List.mem_cons_self
      rw [List.mem_append] at this
      exact this.elim List.mem_of_mem_take List.mem_of_mem_drop
    rw [hL] at hl
    exact read_few (x := x) rfl (sec_kind hx) (by omega) hl
theorem back_one (o0 : 0 < o) (o1 : o < 4294967296) (hs : s.length ≤ 2000) (h1 : szN s.length = 1) {Y : ByteArray} (hY : ((secsF o s).map ofL)[0]? = some Y) : readF (LL (((secsF n s).map ofL).set 0 Y)) = some (s, o, 1) := by
  have e : ((secsF n s).map ofL).set 0 Y = (secsF o s).map ofL ++ [] := by
    have l1 : ((secsF n s).map ofL).length = 1 := by rw [List.length_map, secsF_length, h1]
    have l2 : ((secsF o s).map ofL).length = 1 := by rw [List.length_map, secsF_length, h1]
    match h : (secsF n s).map ofL, g : (secsF o s).map ofL, l1, l2 with
    | [a], [b], _, _ =>
      rw [g] at hY
      simp at hY
      simp [hY]
  rw [e, back_ext o0 o1 hs, h1]
theorem back_mixed (n0 : 0 ≤ n) (n1 : n < 4294967296) (o0 : 0 ≤ o) (o1 : o < 4294967296) (hne : o ≠ n) (hs : s.length ≤ 2000) {t : Nat} (ht : t < szN s.length) (hk1 : szN s.length ≠ 1) {Y : ByteArray} (hY : ((secsF o s).map ofL)[t]? = some Y) :
    readF (LL (((secsF n s).map ofL).set t Y)) = none := by
  have hk := sz_le hs
  obtain ⟨y, hy, rfl⟩ : ∃ y, y ∈ secsF o s ∧ ofL y = Y := by
    rw [List.getElem?_map] at hY
    cases hq : (secsF o s)[t]? with
    | none => rw [hq] at hY; cases hY
    | some y => rw [hq] at hY; exact ⟨y, List.mem_of_getElem? hq, by simpa using hY⟩
  have e : LL (((secsF n s).map ofL).set t (ofL y)) = (secsF n s).set t y := by
    rw [← List.map_set, LL_ofL]
  rw [e]
  have l1 : (secsF n s).length = szN s.length := secsF_length n s
  have yn := sec_numF o0 o1 hy
  by_cases c : t = 0
  · subst c
    have h1 : 1 < (secsF n s).length := by omega
    refine read_other (x := y) (y := (secsF n s)[1]) (k := szN s.length) (i := 1) ?_ (sec_kind hy) (by omega) (by omega) ?_ ?_
    · rw [List.head?_eq_getElem?, List.getElem?_set_self (by omega)]
    · rw [List.getElem?_set_ne (by omega), List.getElem?_eq_getElem h1]
    · rw [yn, sec_numF n0 n1 (List.getElem_mem h1)]; exact fun e => hne e.symm
  · have h1 : 0 < (secsF n s).length := by omega
    refine read_other (x := (secsF n s)[0]) (y := y) (k := szN s.length) (i := t) ?_ (sec_kind (List.getElem_mem h1)) (by omega) ht ?_ ?_
    · rw [List.head?_eq_getElem?, List.getElem?_set_ne (by omega), List.getElem?_eq_getElem h1]
    · rw [List.getElem?_set_self (by omega)]
    · rw [yn, sec_numF n0 n1 (List.getElem_mem h1)]; exact hne
end
end Go.Proofs.YtdbiebnnogjccaaGreatDoor

/- Frames (layer 18): FrameBack. -/
namespace Go.Proofs.YtdbiebnnogjccaaGreatDoor
open Go.RowKit
theorem bel1 {B : Nat} {a W : World} (h : Below B a W ∧ B ≤ W.heap.size) : Below B a W := h.1
theorem keep_ModE (a m : Int) (hm : 0 < m) (hm1 : m < 4294967296) (w : World) :
    Calls Tryz.prog 52 #[.int .i64 a, .int .i64 m] w fun e w' => e = .returned (.int .i64 (a.tmod m % m)) ∧ w' = w := by
  have h0 : ¬ m < 1 := by omega
  have h1 : ¬ m = 0 := by omega
  have t1 : -m < a.tmod m := Int.lt_tmod_of_pos a hm
  have t2 : a.tmod m < m := Int.tmod_lt_of_pos a hm
  have t3 : 0 ≤ a.tmod m % m := Int.emod_nonneg _ h1
  have t4 : a.tmod m % m < m := Int.emod_lt_of_pos _ hm
  go_enter Tryz.func52, Tryz.ntmps52
  go_wp2_with fail
  go_ret
  exact ⟨rfl, rfl⟩
theorem strs_take {w : World} {b off c t : Nat} {l : List ByteArray} (h : StrsAt w b off l) (ht : t ≤ l.length) (hc : t ≤ c) : SlStrs w (.slice (some ⟨b, off, none⟩) t c) (l.take t) := by
  have hl : (l.take t).length = t := by rw [List.length_take]; omega
  exact .inr ⟨b, off, c, by rw [hl], by rw [hl]; exact hc, h.take t⟩
theorem strs_drop {w : World} {b off c t m : Nat} {l : List ByteArray} (h : StrsAt w b off l) (hm : m = l.length - t) (hc : m ≤ c) : SlStrs w (.slice (some ⟨b, off + t, none⟩) m c) (l.drop t) := by
  have hl : (l.drop t).length = m := by rw [List.length_drop]; omega
  exact .inr ⟨b, off + t, c, by rw [hl], by rw [hl]; exact hc, h.drop t⟩
theorem strs_dropE {w : World} {b off c t m : Nat} {l : List ByteArray} (_h : StrsAt w b off l) (ht : l.length ≤ t) (hm : m = l.length - t) : SlStrs w (.slice (some ⟨b, off, none⟩) m c) (l.drop t) := by
  obtain rfl : m = 0 := by omega
  rw [List.drop_of_length_le ht]
  exact .inr ⟨b, off, c, rfl, Nat.zero_le _, ⟨fun h => absurd rfl h, fun i h => absurd h (by simp)⟩⟩
theorem row_set {W : World} {B g k c t : Nat} {e : TypeId} {l : List ByteArray} (h : W.ownsRow B e 1 (.slice (some ⟨g, 0, none⟩) k c) k (l.map Value.string)) (hl : l.length = k) (ht : t < k) (Y : ByteArray) :
    SlStrs (W.setCell ⟨g, t, none⟩ (.string Y)) (.slice (some ⟨g, 0, none⟩) k c) (l.set t Y) ∧ W.frozen? ⟨g, t, none⟩ = false ∧ ∃ u, W.cell? ⟨g, t, none⟩ = some (.string u) := by
  have hc : ∀ j (hj : j < l.length), W.cell? ⟨g, j, none⟩ = some (.string l[j]) := fun j hj => row_cellS h rfl (by rw [List.getElem?_map, List.getElem?_eq_getElem hj]; rfl)
  have ht' : t < l.length := by omega
  rcases h.2 with ⟨h6, _⟩ | ⟨g', c', cur, h6, hb, hg, hn, _⟩
  · exact absurd h6 (by simp)
  · injection h6 with e1 e2 e3
    injection e1 with e1
    injection e1 with e4 e5 e6
    subst e4 e3
    refine ⟨.inr ⟨g, 0, c, by rw [List.length_set, hl], by rw [List.length_set, hl]; exact hn, ⟨fun _ => by simp [World.setCell]; exact blk_lt hg, fun i hi => ?_⟩⟩, blk_frozen hg _, _, hc t ht'⟩
    rw [List.length_set] at hi
    rw [Nat.zero_add, List.getElem_set]
    by_cases hti : t = i
    · subst hti
      rw [if_pos rfl]
      exact World.cell?_setCell_same _ _ _ (hc t ht')
    · rw [if_neg hti, World.cell?_setCell_other _ _ _ _ (by intro e; injection e with _ e2 _; exact hti e2)]
      exact hc i hi
theorem strs_ofN {w : World} {base n : Nat} {e : TypeId} {v : Value} {l : List ByteArray} (hn : n = l.length) (h : w.ownsRow base e 1 v n (l.map Value.string)) : SlStrs w v l := by subst hn; exact SlStrs.of_own h
end Go.Proofs.YtdbiebnnogjccaaGreatDoor
