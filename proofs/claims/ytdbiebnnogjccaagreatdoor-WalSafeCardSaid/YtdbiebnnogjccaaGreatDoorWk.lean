/- The log (layer 21): a phase of appendings behind an opening, syncs between; its crash. -/
import Derived.Test.YtdbiebnnogjccaaGreatDoorWg
namespace Go.Proofs.YtdbiebnnogjccaaGreatDoor
/-- Appended since an opening: X, from the number q on, behind u sectors; the first sr of them were flushed. A: the sectors at the opening. -/
structure PhW (N : Int) (lg : Nat) (A : List ByteArray) (q : Int) (u sr : Nat) (X : List ByteArray) (d : Dk) : Prop where
  calm : d.Calm N
  n32 : 32 ≤ N
  n40 : N ≤ 4096
  nl : (lg : Int) = (N - 2) / 4
  al : A.length = lg
  area : AreaW A q
  q0 : 0 < q
  xs : ∀ s ∈ X, s.size ≤ 2000
  b : LL d.secs = (LL A).take u ++ (layR (numW q X) ++ (LL A).drop (u + (layR (numW q X)).length))
  ul : u + (layR (numW q X)).length ≤ lg
  hat : ∀ i (h : i < A.length), d.at (2 + (i : Int)) = A[i] ∨ d.at (2 + (i : Int)) = d.tell (2 + (i : Int))
  syn : ∀ i : Nat, i < u + (layR (numW q (X.take sr))).length → d.at (2 + (i : Int)) = d.tell (2 + (i : Int))
  sl : sr ≤ X.length
section
variable {N : Int} {lg u sr : Nat} {A : List ByteArray} {q : Int} {X : List ByteArray} {d : Dk}
theorem PhW.logs (h : PhW N lg A q u sr X d) : d.logs = lg := logs_of h.calm.n h.n32 h.n40 h.nl
theorem PhW.start {d : Dk} (hc : d.Calm N) (n32 : 32 ≤ N) (n40 : N ≤ 4096) (nl : (lg : Int) = (N - 2) / 4) (ha : AreaW d.secs q) (q0 : 0 < q) (hu : u ≤ lg) (hat : ∀ j, d.at j = d.tell j) : PhW N lg d.secs q u 0 [] d := by
  have hl : d.secs.length = lg := by rw [secs_length, logs_of hc.n n32 n40 nl]
  refine ⟨hc, n32, n40, nl, hl, ha, q0, fun s hs => absurd hs (by simp), ?_, by simpa [layR, numW] using hu, fun i _ => .inr (hat _), fun i _ => hat _, Nat.le_refl _⟩
  simp [layR, numW]
theorem PhW.append (h : PhW N lg A q u sr X d) {s : ByteArray} (R : List ByteArray) (hs : s.size ≤ 2000) (hq : q + X.length ≤ 2147483648) (hf : u + (layR (numW q X)).length + szN s.size ≤ lg) :
    ∃ d', d.append ⟨R, q + (X.length : Int), u + (layR (numW q X)).length, false⟩ lg s = (d', ⟨R ++ [s], q + ((X ++ [s]).length : Int), u + (layR (numW q (X ++ [s]))).length, false⟩, 0) ∧ PhW N lg A q u sr (X ++ [s]) d' := by
  have hlr : layR (numW q (X ++ [s])) = layR (numW q X) ++ secsF (q + X.length) s.data.toList := by rw [numW_snoc, layR_snoc]
  have hll : (layR (numW q (X ++ [s]))).length = (layR (numW q X)).length + szN s.size := by rw [hlr, List.length_append, secsF_length, size_list]
  obtain ⟨d', e1, e2, e3, e4, e5⟩ := append_calm (x := ⟨R, q + (X.length : Int), u + (layR (numW q X)).length, false⟩) (lg := lg) (s := s) h.calm h.n32 h.n40 h.nl rfl hs hq hf
  dsimp only at e1 e4 e5
  have hat' : ∀ j, d'.at j = d.at j := fun j => by unfold Dk.at; rw [e3]
  have htell : ∀ i : Nat, i < u + (layR (numW q X)).length → d'.tell (2 + (i : Int)) = d.tell (2 + (i : Int)) := fun i hi => by
    unfold Dk.tell
    rw [e4, if_neg (by omega), hat']
  have hul := h.ul
  have hal := h.al
  have hpre : ((LL A).take u ++ layR (numW q X)).length = u + (layR (numW q X)).length := by
    rw [List.length_append, List.length_take, LL_length, hal]; omega
  refine ⟨d', ?_, ⟨e2, h.n32, h.n40, h.nl, h.al, h.area, h.q0, fun y hy => ?_, ?_, by rw [hll]; omega, fun i hi => ?_, fun i hi => ?_, by have := h.sl; simp; omega⟩⟩
  · have eN : q + (X.length : Int) + 1 = q + ((X ++ [s]).length : Int) := by rw [List.length_append]; simp; omega
    have eU : u + (layR (numW q X)).length + szN s.size = u + (layR (numW q (X ++ [s]))).length := by rw [hll]; omega
    rw [e1, eN, eU]
  · rcases List.mem_append.1 hy with k | k
    · exact h.xs y k
    · have : y = s := by simpa using k
      rw [this]; exact hs
  · rw [e5]
    have hLA : ∀ L M : List ByteArray, LL (L ++ M) = LL L ++ LL M := fun L M => by unfold LL; rw [List.map_append]
    have hS : LL ((secsF (q + X.length) s.data.toList).map ofL) = secsF (q + X.length) s.data.toList := by
      unfold LL; rw [List.map_map]
      refine (List.map_congr_left fun x _ => ?_).trans (List.map_id _)
      exact ofL_list x
    rw [hLA, hLA, hS, LL_take, LL_drop, h.b, hlr, ← List.append_assoc ((LL A).take u)]
    rw [List.take_left' hpre, ← List.drop_drop, List.drop_left' hpre, List.drop_drop, List.length_append, secsF_length, size_list]
    simp only [List.append_assoc, Nat.add_assoc]
  · rcases h.hat i hi with k | k
    · exact .inl ((hat' _).trans k)
    · by_cases c : i < u + (layR (numW q X)).length
      · exact .inr (by rw [hat', htell i c]; exact k)
      · -- not written yet: it is the old one
        have hb : d.secs[i]? = A[i]? := by
          have e : (LL d.secs)[i]? = (LL A)[i]? := by
            rw [h.b, List.getElem?_append_right (by rw [List.length_take, LL_length, hal]; omega), List.getElem?_append_right (by rw [List.length_take, LL_length, hal]; omega), List.getElem?_drop, List.length_take, LL_length, hal]
            congr 1; omega
          rw [List.getElem?_eq_getElem (by rw [LL_length, secs_length, h.logs]; omega), List.getElem?_eq_getElem (by rw [LL_length]; exact hi), LL_get, LL_get] at e
          injection e with e
          rw [List.getElem?_eq_getElem (by rw [secs_length, h.logs]; omega), List.getElem?_eq_getElem hi, bytes_ext e]
        rw [List.getElem?_eq_getElem (by rw [secs_length, h.logs]; omega), List.getElem?_eq_getElem hi, secs_get] at hb
        injection hb with hb
        exact .inl ((hat' _).trans (k.trans hb))
  · have hsl := h.sl
    rw [List.take_append_of_le_length hsl] at hi
    have hle : (layR (numW q (X.take sr))).length ≤ (layR (numW q X)).length := by
      have e : numW q X = numW q (X.take sr) ++ (numW q X).drop sr := by rw [← numW_take]; exact (List.take_append_drop _ _).symm
      rw [e, layR_append, List.length_append]; omega
    rw [hat', htell i (by omega)]
    exact h.syn i hi
theorem PhW.pour (h : PhW N lg A q u sr X d) : PhW N lg A q u X.length X d.pour := by
  have e : d.pour.secs = d.secs := secs_tell rfl (fun i => pour_tell d i)
  have hat : ∀ j, d.pour.at j = d.pour.tell j := fun j => by rw [pour_at, pour_tell]
  exact ⟨h.calm.pour, h.n32, h.n40, h.nl, h.al, h.area, h.q0, h.xs, by rw [e]; exact h.b, h.ul, fun i _ => .inr (hat _), fun i _ => hat _, Nat.le_refl _⟩
/-- What a crash leaves of a phase. -/
theorem PhW.round (h : PhW N lg A q u sr X d) (hq : q + X.length ≤ 256) (l : List (Int × Int)) : RoundW A d.secs (d.crash l).start.secs q u sr X := by
  have cT := calm_crashed h.calm l
  have lB : d.secs.length = lg := by rw [secs_length, h.logs]
  have lT : (d.crash l).start.secs.length = lg := by rw [secs_length, logs_of cT.n h.n32 h.n40 h.nl]
  have hal := h.al
  have torn : ∀ i (hi : i < lg), (d.crash l).start.secs[i]'(by rw [lT]; exact hi) = d.secs[i]'(by rw [lB]; exact hi) ∨ ∃ k, k ≤ 256 ∧ ((d.crash l).start.secs[i]'(by rw [lT]; exact hi)).data.toList = tornL (A[i]'(by rw [hal]; exact hi)).data.toList (d.secs[i]'(by rw [lB]; exact hi)).data.toList k := fun i hi => by
    rw [secs_get, secs_get, crash_tell h.calm.dead]
    cases hc : d.c (2 + (i : Int)) with
    | none =>
      have ht : d.tell (2 + (i : Int)) = d.at (2 + (i : Int)) := by unfold Dk.tell; rw [hc]; rfl
      exact .inl (by rw [fat_none hc, ht])
    | some s =>
      have ht : d.tell (2 + (i : Int)) = s := by unfold Dk.tell; rw [hc]; rfl
      have hk : (keptN l (2 + (i : Int))).getD 0 ≤ 256 := by
        cases hkk : keptN l (2 + (i : Int)) with
        | none => simp
        | some m => exact keptN_le hkk
      have hat := h.calm.ok.at_size (2 + (i : Int))
      have hl : (d.fat l (2 + (i : Int))).data.toList = tornL (d.at (2 + (i : Int))).data.toList s.data.toList ((keptN l (2 + (i : Int))).getD 0) := by
        rw [fat_some h.calm.ok.ok0 hc, list_append, extract_list, extract_list, List.drop_zero, Nat.sub_zero]
        unfold tornL
        congr 1
        exact List.take_of_length_le (by rw [List.length_drop, size_list, hat]; omega)
      rcases h.hat i (by rw [hal]; exact hi) with k | k
      · exact .inr ⟨_, hk, by rw [hl, k, ht]⟩
      · refine .inl (bytes_ext ?_)
        rw [hl, k, ht, torn_self]
  refine ⟨h.area, h.q0, hq, h.xs, by rw [lB, hal], by rw [lT, hal], h.b, by rw [hal]; exact h.ul, fun i hi => torn i (by rw [← lT]; exact hi), ?_⟩
  refine List.ext_getElem (by rw [List.length_take, List.length_take, lT, lB]) fun i h1 h2 => ?_
  rw [List.length_take, lT] at h1
  rw [List.getElem_take, List.getElem_take, secs_get, secs_get, crash_tell h.calm.dead]
  have hs := h.syn i (by omega)
  cases hc : d.c (2 + (i : Int)) with
  | none =>
    have ht : d.tell (2 + (i : Int)) = d.at (2 + (i : Int)) := by unfold Dk.tell; rw [hc]; rfl
    rw [fat_none hc, ht]
  | some s =>
    have ht : d.tell (2 + (i : Int)) = s := by unfold Dk.tell; rw [hc]; rfl
    have hat := h.calm.ok.at_size (2 + (i : Int))
    rw [fat_some h.calm.ok.ok0 hc, hs, ht]
    refine bytes_ext ?_
    rw [list_append, extract_list, extract_list, List.drop_zero, Nat.sub_zero]
    have hs256 : s.data.toList.length = 256 := by rw [size_list, h.calm.ok.sc _ _ hc]
    rw [List.take_of_length_le (l := s.data.toList.drop _) (by rw [List.length_drop, hs256]; omega), List.take_append_drop]
theorem crashed_at {d : Dk} (hd : d.dead = false) (l : List (Int × Int)) : ∀ j, (d.crash l).start.at j = (d.crash l).start.tell j := fun j => by
  rw [crash_tell hd, start_at, crash_at hd]
end
end Go.Proofs.YtdbiebnnogjccaaGreatDoor
