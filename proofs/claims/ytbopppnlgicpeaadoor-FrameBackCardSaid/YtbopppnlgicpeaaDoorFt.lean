/- Frames (layer 18): plain words of FrameBack: a record with what stands behind it, without a sector, with one of another number. -/
import Derived.Test.YtbopppnlgicpeaaDoorFo
namespace Go.Proofs.YtbopppnlgicpeaaDoor
theorem LL_app (a b : List ByteArray) : LL (a ++ b) = LL a ++ LL b := by unfold LL; exact List.map_append
section
variable {n o : Int} {s : List UInt8}
theorem back_ext (h0 : 0 < n) (h1 : n < 4294967296) (hs : s.length ≤ 2000) (q : List ByteArray) : readF (LL ((secsF n s).map ofL ++ q)) = some (s, n, szN s.length) := by
  rw [LL_app, LL_ofL]; exact read_made h0 h1 hs _
theorem sec_kind {x : List UInt8} (h : x ∈ secsF n s) : (x.drop 6).take 2 = beBytes (szN s.length : Nat) 2 := by
  unfold secsF at h
  rw [List.mem_map] at h
  obtain ⟨i, _, rfl⟩ := h
  exact sec_many
theorem sec_numF (h0 : 0 ≤ n) (h1 : n < 4294967296) {x : List UInt8} (h : x ∈ secsF n s) : numF x = n := by
  unfold secsF at h
  rw [List.mem_map] at h
  obtain ⟨i, hi, rfl⟩ := h
  exact sec_num h0 h1 (allF_length s) (List.mem_range.1 hi)
theorem back_short (hs : s.length ≤ 2000) {t : Nat} (ht : t < szN s.length) : readF (LL (((secsF n s).map ofL).take t ++ ((secsF n s).map ofL).drop (t + 1))) = none := by
  rw [LL_app, ← List.map_take, ← List.map_drop, LL_ofL, LL_ofL]
  have hl : ((secsF n s).take t ++ (secsF n s).drop (t + 1)).length < szN s.length := by
    rw [List.length_append, List.length_take, List.length_drop, secsF_length]; omega
  have hk := sz_le hs
  cases hL : (secsF n s).take t ++ (secsF n s).drop (t + 1) with
  | nil => rfl
  | cons x q =>
    have hx : x ∈ secsF n s := by
      have : x ∈ (secsF n s).take t ++ (secsF n s).drop (t + 1) := by rw [hL]; exact List.mem_cons_self
      rw [List.mem_append] at this
      exact this.elim List.mem_of_mem_take List.mem_of_mem_drop
    rw [hL] at hl
    exact read_few (x := x) rfl (sec_kind hx) (by omega) hl
theorem back_one (o0 : 0 < o) (o1 : o < 4294967296) (hs : s.length ≤ 2000) (h1 : szN s.length = 1) {Y : ByteArray} (hY : ((secsF o s).map ofL)[0]? = some Y) : readF (LL (((secsF n s).map ofL).set 0 Y)) = some (s, o, 1) := by
  have e : ((secsF n s).map ofL).set 0 Y = (secsF o s).map ofL ++ [] := by
    have l1 : ((secsF n s).map ofL).length = 1 := by rw [List.length_map, secsF_length, h1]
    have l2 : ((secsF o s).map ofL).length = 1 := by rw [List.length_map, secsF_length, h1]
    match h : (secsF n s).map ofL, g : (secsF o s).map ofL, l1, l2 with
    | [a], [b], _, _ =>
      rw [g] at hY
      simp at hY
      simp [hY]
  rw [e, back_ext o0 o1 hs, h1]
theorem back_mixed (n0 : 0 ≤ n) (n1 : n < 4294967296) (o0 : 0 ≤ o) (o1 : o < 4294967296) (hne : o ≠ n) (hs : s.length ≤ 2000) {t : Nat} (ht : t < szN s.length) (hk1 : szN s.length ≠ 1) {Y : ByteArray} (hY : ((secsF o s).map ofL)[t]? = some Y) :
    readF (LL (((secsF n s).map ofL).set t Y)) = none := by
  have hk := sz_le hs
  obtain ⟨y, hy, rfl⟩ : ∃ y, y ∈ secsF o s ∧ ofL y = Y := by
    rw [List.getElem?_map] at hY
    cases hq : (secsF o s)[t]? with
    | none => rw [hq] at hY; cases hY
    | some y => rw [hq] at hY; exact ⟨y, List.mem_of_getElem? hq, by simpa using hY⟩
  have e : LL (((secsF n s).map ofL).set t (ofL y)) = (secsF n s).set t y := by
    rw [← List.map_set, LL_ofL]
  rw [e]
  have l1 : (secsF n s).length = szN s.length := secsF_length n s
  have yn := sec_numF o0 o1 hy
  by_cases c : t = 0
  · subst c
    have h1 : 1 < (secsF n s).length := by omega
    refine read_other (x := y) (y := (secsF n s)[1]) (k := szN s.length) (i := 1) ?_ (sec_kind hy) (by omega) (by omega) ?_ ?_
    · rw [List.head?_eq_getElem?, List.getElem?_set_self (by omega)]
    · rw [List.getElem?_set_ne (by omega), List.getElem?_eq_getElem h1]
    · rw [yn, sec_numF n0 n1 (List.getElem_mem h1)]; exact fun e => hne e.symm
  · have h1 : 0 < (secsF n s).length := by omega
    refine read_other (x := (secsF n s)[0]) (y := y) (k := szN s.length) (i := t) ?_ (sec_kind (List.getElem_mem h1)) (by omega) ht ?_ ?_
    · rw [List.head?_eq_getElem?, List.getElem?_set_ne (by omega), List.getElem?_eq_getElem h1]
    · rw [List.getElem?_set_self (by omega)]
    · rw [yn, sec_numF n0 n1 (List.getElem_mem h1)]; exact hne
end
end Go.Proofs.YtbopppnlgicpeaaDoor
