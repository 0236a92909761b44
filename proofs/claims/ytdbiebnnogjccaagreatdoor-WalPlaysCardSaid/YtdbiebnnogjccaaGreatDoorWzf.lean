/- The log (layer 21): a phase of appendings behind an opening, syncs between; its crash. -/
import Derived.Test.YtdbiebnnogjccaaGreatDoorWg
import Derived.Test.YtdbiebnnogjccaaGreatDoorDu
import Derived.Test.YtdbiebnnogjccaaGreatDoorWze
import Derived.Test.YtdbiebnnogjccaaGreatDoorDa
namespace Go.Proofs.YtdbiebnnogjccaaGreatDoor
/-- Appended since an opening: X, from the number q on, behind u sectors; the first sr of them were flushed. A: the sectors at the opening. -/
structure PhW (N : Int) (lg : Nat) (A : List ByteArray) (q : Int) (u sr : Nat) (X : List ByteArray) (d : Dk) : Prop where
  calm : d.Calm N
  n32 : 32 ≤ N
  n40 : N ≤ 4096
  nl : (lg : Int) = (N - 2) / 4
  al : A.length = lg
  area : AreaW A q
  q0 : 0 < q
  xs : ∀ s ∈ X, s.size ≤ 2000
  b : LL d.secs = (LL A).take u ++ (layR (numW q X) ++ (LL A).drop (u + (layR (numW q X)).length))
  ul : u + (layR (numW q X)).length ≤ lg
  hat : ∀ i (h : i < A.length), d.at (2 + (i : Int)) = A[i] ∨ d.at (2 + (i : Int)) = d.tell (2 + (i : Int))
  syn : ∀ i : Nat, i < u + (layR (numW q (X.take sr))).length → d.at (2 + (i : Int)) = d.tell (2 + (i : Int))
  sl : sr ≤ X.length
section
variable {N : Int} {lg u sr : Nat} {A : List ByteArray} {q : Int} {X : List ByteArray} {d : Dk}
theorem PhW.logs (h : PhW N lg A q u sr X d) : d.logs = lg := logs_of h.calm.n h.n32 h.n40 h.nl
theorem PhW.start {d : Dk} (hc : d.Calm N) (n32 : 32 ≤ N) (n40 : N ≤ 4096) (nl : (lg : Int) = (N - 2) / 4) (ha : AreaW d.secs q) (q0 : 0 < q) (hu : u ≤ lg) (hat : ∀ j, d.at j = d.tell j) : PhW N lg d.secs q u 0 [] d := by
  have hl : d.secs.length = lg := by rw [secs_length, logs_of hc.n n32 n40 nl]
  refine ⟨hc, n32, n40, nl, hl, ha, q0, fun s hs => absurd hs (by simp), ?_, by simpa [layR, numW] using hu, fun i _ => .inr (hat _), fun i _ => hat _, Nat.le_refl _⟩
  simp [layR, numW]
theorem PhW.append (h : PhW N lg A q u sr X d) {s : ByteArray} (R : List ByteArray) (hs : s.size ≤ 2000) (hq : q + X.length ≤ 2147483648) (hf : u + (layR (numW q X)).length + szN s.size ≤ lg) :
    ∃ d', d.append ⟨R, q + (X.length : Int), u + (layR (numW q X)).length, false⟩ lg s = (d', ⟨R ++ [s], q + ((X ++ [s]).length : Int), u + (layR (numW q (X ++ [s]))).length, false⟩, 0) ∧ PhW N lg A q u sr (X ++ [s]) d' := by
  have hlr : layR (numW q (X ++ [s])) = layR (numW q X) ++ secsF (q + X.length) s.data.toList := by rw [numW_snoc, layR_snoc]
  have hll : (layR (numW q (X ++ [s]))).length = (layR (numW q X)).length + szN s.size := by rw [hlr, List.length_append, secsF_length, size_list]
  obtain ⟨d', e1, e2, e3, e4, e5⟩ := append_calm (x := ⟨R, q + (X.length : Int), u + (layR (numW q X)).length, false⟩) (lg := lg) (s := s) h.calm h.n32 h.n40 h.nl rfl hs hq hf
  dsimp only at e1 e4 e5
  have hat' : ∀ j, d'.at j = d.at j := fun j => by unfold Dk.at; rw [e3]
  have htell : ∀ i : Nat, i < u + (layR (numW q X)).length → d'.tell (2 + (i : Int)) = d.tell (2 + (i : Int)) := fun i hi => by
    unfold Dk.tell
    rw [e4, if_neg (by omega), hat']
  have hul := h.ul
  have hal := h.al
  have hpre : ((LL A).take u ++ layR (numW q X)).length = u + (layR (numW q X)).length := by
    rw [List.length_append, List.length_take, LL_length, hal]; omega
  refine ⟨d', ?_, ⟨e2, h.n32, h.n40, h.nl, h.al, h.area, h.q0, fun y hy => ?_, ?_, by rw [hll]; omega, fun i hi => ?_, fun i hi => ?_, by have := h.sl; simp; omega⟩⟩
  · have eN : q + (X.length : Int) + 1 = q + ((X ++ [s]).length : Int) := by rw [List.length_append]; simp; omega
    have eU : u + (layR (numW q X)).length + szN s.size = u + (layR (numW q (X ++ [s]))).length := by rw [hll]; omega
    rw [e1, eN, eU]
  · rcases List.mem_append.1 hy with k | k
    · exact h.xs y k
    · have : y = s := by simpa using k
      rw [this]; exact hs
  · rw [e5]
    have hLA : ∀ L M : List ByteArray, LL (L ++ M) = LL L ++ LL M := fun L M => by unfold LL; rw [List.map_append]
    have hS : LL ((secsF (q + X.length) s.data.toList).map ofL) = secsF (q + X.length) s.data.toList := by
      unfold LL; rw [List.map_map]
      refine (List.map_congr_left fun x _ => ?_).trans (List.map_id _)
      exact ofL_list x
    rw [hLA, hLA, hS, LL_take, LL_drop, h.b, hlr, ← List.append_assoc ((LL A).take u)]
    rw [List.take_left' hpre, ← List.drop_drop, List.drop_left' hpre, List.drop_drop, List.length_append, secsF_length, size_list]
    simp only [List.append_assoc, Nat.add_assoc]
  · rcases h.hat i hi with k | k
    · exact .inl ((hat' _).trans k)
    · by_cases c : i < u + (layR (numW q X)).length
      · exact .inr (by rw [hat', htell i c]; exact k)
      · -- not written yet: it is the old one
        have hb : d.secs[i]? = A[i]? := by
          have e : (LL d.secs)[i]? = (LL A)[i]? := by
            rw [h.b, List.getElem?_append_right (by rw [List.length_take, LL_length, hal]; omega), List.getElem?_append_right (by rw [List.length_take, LL_length, hal]; omega), List.getElem?_drop, List.length_take, LL_length, hal]
            congr 1; omega
          rw [List.getElem?_eq_getElem (by rw [LL_length, secs_length, h.logs]; omega), List.getElem?_eq_getElem (by rw [LL_length]; exact hi), LL_get, LL_get] at e
          injection e with e
          rw [List.getElem?_eq_getElem (by rw [secs_length, h.logs]; omega), List.getElem?_eq_getElem hi, bytes_ext e]
        rw [List.getElem?_eq_getElem (by rw [secs_length, h.logs]; omega), List.getElem?_eq_getElem hi, secs_get] at hb
        injection hb with hb
        exact .inl ((hat' _).trans (k.trans hb))
  · have hsl := h.sl
    rw [List.take_append_of_le_length hsl] at hi
    have hle : (layR (numW q (X.take sr))).length ≤ (layR (numW q X)).length := by
      have e : numW q X = numW q (X.take sr) ++ (numW q X).drop sr := by rw [← numW_take]; exact (List.take_append_drop _ _).symm
      rw [e, layR_append, List.length_append]; omega
    rw [hat', htell i (by omega)]
    exact h.syn i hi
theorem PhW.pour (h : PhW N lg A q u sr X d) : PhW N lg A q u X.length X d.pour := by
  have e : d.pour.secs = d.secs := secs_tell rfl (fun i => pour_tell d i)
  have hat : ∀ j, d.pour.at j = d.pour.tell j := fun j => by rw [pour_at, pour_tell]
  exact ⟨h.calm.pour, h.n32, h.n40, h.nl, h.al, h.area, h.q0, h.xs, by rw [e]; exact h.b, h.ul, fun i _ => .inr (hat _), fun i _ => hat _, Nat.le_refl _⟩
/-- What a crash leaves of a phase. -/
theorem PhW.round (h : PhW N lg A q u sr X d) (hq : q + X.length ≤ 256) (l : List (Int × Int)) : RoundW A d.secs (d.crash l).start.secs q u sr X := by
  have cT := calm_crashed h.calm l
  have lB : d.secs.length = lg := by rw [secs_length, h.logs]
  have lT : (d.crash l).start.secs.length = lg := by rw [secs_length, logs_of cT.n h.n32 h.n40 h.nl]
  have hal := h.al
  have torn : ∀ i (hi : i < lg), (d.crash l).start.secs[i]'(by rw [lT]; exact hi) = d.secs[i]'(by rw [lB]; exact hi) ∨ ∃ k, k ≤ 256 ∧ ((d.crash l).start.secs[i]'(by rw [lT]; exact hi)).data.toList = tornL (A[i]'(by rw [hal]; exact hi)).data.toList (d.secs[i]'(by rw [lB]; exact hi)).data.toList k := fun i hi => by
    rw [secs_get, secs_get, crash_tell h.calm.dead]
    cases hc : d.c (2 + (i : Int)) with
    | none =>
      have ht : d.tell (2 + (i : Int)) = d.at (2 + (i : Int)) := by unfold Dk.tell; rw [hc]; rfl
      exact .inl (by rw [fat_none hc, ht])
    | some s =>
      have ht : d.tell (2 + (i : Int)) = s := by unfold Dk.tell; rw [hc]; rfl
      have hk : (keptN l (2 + (i : Int))).getD 0 ≤ 256 := by
        cases hkk : keptN l (2 + (i : Int)) with
        | none => simp
        | some m => exact keptN_le hkk
      have hat := h.calm.ok.at_size (2 + (i : Int))
      have hl : (d.fat l (2 + (i : Int))).data.toList = tornL (d.at (2 + (i : Int))).data.toList s.data.toList ((keptN l (2 + (i : Int))).getD 0) := by
        rw [fat_some h.calm.ok.ok0 hc, list_append, extract_list, extract_list, List.drop_zero, Nat.sub_zero]
        unfold tornL
        congr 1
        exact List.take_of_length_le (by rw [List.length_drop, size_list, hat]; omega)
      rcases h.hat i (by rw [hal]; exact hi) with k | k
      · exact .inr ⟨_, hk, by rw [hl, k, ht]⟩
      · refine .inl (bytes_ext ?_)
        rw [hl, k, ht, torn_self]
  refine ⟨h.area, h.q0, hq, h.xs, by rw [lB, hal], by rw [lT, hal], h.b, by rw [hal]; exact h.ul, fun i hi => torn i (by rw [← lT]; exact hi), ?_⟩
  refine List.ext_getElem (by rw [List.length_take, List.length_take, lT, lB]) fun i h1 h2 => ?_
  rw [List.length_take, lT] at h1
  rw [List.getElem_take, List.getElem_take, secs_get, secs_get, crash_tell h.calm.dead]
  have hs := h.syn i (by omega)
  cases hc : d.c (2 + (i : Int)) with
  | none =>
    have ht : d.tell (2 + (i : Int)) = d.at (2 + (i : Int)) := by unfold Dk.tell; rw [hc]; rfl
    rw [fat_none hc, ht]
  | some s =>
    have ht : d.tell (2 + (i : Int)) = s := by unfold Dk.tell; rw [hc]; rfl
    have hat := h.calm.ok.at_size (2 + (i : Int))
    rw [fat_some h.calm.ok.ok0 hc, hs, ht]
    refine bytes_ext ?_
    rw [list_append, extract_list, extract_list, List.drop_zero, Nat.sub_zero]
    have hs256 : s.data.toList.length = 256 := by rw [size_list, h.calm.ok.sc _ _ hc]
    rw [List.take_of_length_le (l := s.data.toList.drop _) (by rw [List.length_drop, hs256]; omega), List.take_append_drop]
theorem crashed_at {d : Dk} (hd : d.dead = false) (l : List (Int × Int)) : ∀ j, (d.crash l).start.at j = (d.crash l).start.tell j := fun j => by
  rw [crash_tell hd, start_at, crash_at hd]
end
end Go.Proofs.YtdbiebnnogjccaaGreatDoor

/- The log (layer 21): plain words of an emptied log. -/
namespace Go.Proofs.YtdbiebnnogjccaaGreatDoor
theorem layR_le : ∀ (X : List ByteArray) (q : Int), (∀ s ∈ X, s.size ≤ 600) → (layR (numW q X)).length ≤ 3 * X.length
  | [], _, _ => by simp [layR, numW]
  | s :: X, q, h => by
    rw [numW, layR_cons, List.length_append, List.length_cons, secsF_length, size_list]
    have h1 := layR_le X (q + 1) (fun y hy => h y (List.mem_cons_of_mem _ hy))
    have h2 := h s (List.mem_cons_self ..)
    have h3 : szN s.size ≤ 3 := by unfold szN; omega
    omega
section
variable {N : Int} {lg u sr : Nat} {A : List ByteArray} {q : Int} {X : List ByteArray} {d : Dk}
theorem PhW.self (h : PhW N lg A q u sr X d) (hq : q + X.length ≤ 256) : RoundW A d.secs d.secs q u X.length X := by
  have lB : d.secs.length = lg := by rw [secs_length, h.logs]
  exact ⟨h.area, h.q0, hq, h.xs, by rw [lB, h.al], by rw [lB, h.al], h.b, by rw [h.al]; exact h.ul, fun i _ => .inl rfl, rfl⟩
/-- Sectors of lesser numbers: nothing is read. -/
theorem area_stop {A : List ByteArray} {q : Int} (h : AreaW A q) (q0 : 0 < q) (f : Nat) : scanW A f q 0 = ([], 0) ∧ (q ≤ 2147483649 → nextW q A = q) := by
  constructor
  · refine scan_stop fun s n k hr => ?_
    rw [List.drop_zero] at hr
    cases A with
    | nil => cases hr
    | cons b A =>
      have h1 := (readF_head (x := b.data.toList) (L := LL A) hr).1
      have h2 := numF_lt q0 (h.lo b (List.mem_cons_self ..)).1
      exact .inl (by omega)
  · intro hq
    have h1 := nextW_ge A q
    have h2 := nextW_le hq A q (Int.le_refl _) h.lo
    omega
/-- An opening by the first number of a phase that began at the first sector tells what was appended; behind a crash, the first of it. -/
theorem PhW.opens (h : PhW N lg A q 0 sr X d) (hq : q + X.length ≤ 256) :
    (∃ x, d.openW q = (some x, 0) ∧ x.recs = X) ∧ ∀ l, ∃ x j, (d.crash l).start.openW q = (some x, 0) ∧ x.recs = X.take j ∧ j ≤ X.length := by
  have hq0 := h.q0
  obtain ⟨a1, a2⟩ := area_stop h.area h.q0 A.length
  have a2 := a2 (by omega)
  constructor
  · obtain ⟨j, j1, j2, e1, e2, _⟩ := (h.self hq).ends (m := q) (by rw [a1]) a2.symm (Nat.le_refl _)
    rw [openW_calm h.calm h.n32 h.n40 h.nl (by omega) (by omega)]
    refine ⟨_, rfl, ?_⟩
    have hl : d.secs.length = lg := by rw [secs_length, h.logs]
    rw [hl] at e1
    show (scanW d.secs lg q 0).1 = X
    rw [e1, a1, List.nil_append, List.take_of_length_le (by omega)]
  · intro l
    have cT := calm_crashed h.calm l
    obtain ⟨j, j1, j2, e1, e2, _⟩ := (h.round hq l).ends (m := q) (by rw [a1]) a2.symm h.sl
    rw [openW_calm cT h.n32 h.n40 h.nl (by omega) (by omega)]
    refine ⟨_, j, rfl, ?_, j2⟩
    have hl : (d.crash l).start.secs.length = lg := by rw [secs_length, logs_of cT.n h.n32 h.n40 h.nl]
    rw [hl] at e1
    show (scanW (d.crash l).start.secs lg q 0).1 = X.take j
    rw [e1, a1, List.nil_append]
end
theorem area_new (n : Int) : AreaW (Dk.new n).secs 1 := by
  rw [secs_new]
  refine ⟨fun b hb => ?_, fun b hb => ?_⟩
  · rw [(List.mem_replicate.1 hb).2]; exact nil256_size
  · rw [(List.mem_replicate.1 hb).2, nil_ends.1, nil_ends.2]; exact ⟨by decide, by decide⟩
theorem area_mono {A : List ByteArray} {q q' : Int} (h : AreaW A q) (hq : q ≤ q') : AreaW A q' := ⟨h.sz, fun b hb => by have := h.lo b hb; omega⟩
end Go.Proofs.YtdbiebnnogjccaaGreatDoor

/- The log (layer 21): Fair; the plain words of numbers. -/
namespace Go.Proofs.YtdbiebnnogjccaaGreatDoor
open Go.RowKit
def FairW (L : List Stp) (w : World) (e : Ending) (w' : World) : Prop := w = w' ∧ ∃ b : Bool, e = .returned (.bool b) ∧ (b = true → L.length ≤ 60 ∧ ∀ x ∈ L, x.s.size ≤ 2500 ∧ x.l.length ≤ 60)
set_option maxRecDepth 20000 in
set_option maxHeartbeats 4000000 in
theorem law21_Fair (v : Value) (L : List Stp) (hL : L.length ≤ 9223372036854775807) (w : World) (hv : SlStps w v L) :
    Calls Tryz.prog 21 #[v] w (FairW L w) := by
  obtain ⟨p, cp, rfl, hcp⟩ := hv.form
  have HV := Lib.hid hv
  have NO : Hid (FairW L w (.returned (.bool false)) w) := ⟨rfl, false, rfl, fun h => by cases h⟩
  obtain ⟨n, hn⟩ : ∃ n, n = L.length := ⟨_, rfl⟩
  have Hn := Lib.hid hn
  rw [← hn]
  rw [← hn] at HV hL
  clear hv hcp hn
  go_enter Tryz.func21, Tryz.ntmps21
  go_wp2_with fail
  go_loop [3, 4] (fun a c => ∃ (i : Nat) (y : Int), i ≤ n ∧ a = .int .i64 y ∧ c = .int .i64 i ∧ ∀ j (h : j < L.length), j < i → L[j].s.size ≤ 2500 ∧ L[j].l.length ≤ 60) (fun _ c => n - (intOf c).toNat)
  case atStart => exact ⟨0, 0, Nat.zero_le _, rfl, rfl, fun j _ h => absurd h (by omega)⟩
  case round =>
    obtain ⟨i, y, hi, rfl, rfl, hP⟩ := hrel
    have HP := Lib.hid hP
    clear hP
    by_cases hlt : i < n
    · have hi1 : (i : Int) < (n : Int) := by omega
      have hi0 : (0 : Int) ≤ (i : Int) := by omega
      have h1 : i < L.length := by rw [← Hn.out]; exact hlt
      obtain ⟨b, off, rfl, hS⟩ := SlStps.atN Hn.out HV.out h1
      have c1 := hS.str i h1
      obtain ⟨kv, c2, hk⟩ := hS.kep i h1
      obtain ⟨q, cq, rfl⟩ := hk.form
      have v1 : IntKind.i64.wrap ((i : Int) + 1) = (i : Int) + 1 := IntWalk.i64_in _ (by omega)
      by_cases hs : 2500 < L[i].s.size
      · have hs1 : (2500 : Int) < (L[i].s.size : Int) := by omega
        obtain ⟨x, hx⟩ : ∃ x, x = L[i].s := ⟨_, rfl⟩
        rw [← hx] at c1 hs1
        clear hS hk hx hs c2
        go_wp2_with fail
        go_ret
        exact NO.out
      · have hs1 : ¬ (2500 : Int) < (L[i].s.size : Int) := by omega
        by_cases hl : 60 < L[i].l.length
        · have hl1 : (60 : Int) < (L[i].l.length : Int) := by omega
          obtain ⟨x, hx⟩ : ∃ x, x = L[i].s := ⟨_, rfl⟩
          obtain ⟨z, hz⟩ : ∃ z, z = L[i].l.length := ⟨_, rfl⟩
          rw [← hx] at c1 hs1
          rw [← hz] at c2 hl1
          clear hS hk hx hz hs hl
          go_wp2_with fail
          go_ret
          exact NO.out
        · have hl1 : ¬ (60 : Int) < (L[i].l.length : Int) := by omega
          have HN : Hid (L[i].s.size ≤ 2500 ∧ L[i].l.length ≤ 60) := by show _ ∧ _; omega
          obtain ⟨x, hx⟩ : ∃ x, x = L[i].s := ⟨_, rfl⟩
          obtain ⟨z, hz⟩ : ∃ z, z = L[i].l.length := ⟨_, rfl⟩
          rw [← hx] at c1 hs1
          rw [← hz] at c2 hl1
          clear hS hk hx hz hs hl
          go_wp2_with fail
          go_round
          case rel =>
            refine ⟨i + 1, _, by omega, rfl, by go_num, fun j h hj => ?_⟩
            by_cases hji : j < i
            · exact HP.out j h hji
            · obtain rfl : j = i := by omega
              exact HN.out
          case measure => simp [intOf]; omega
    · have hi1 : ¬ (i : Int) < (n : Int) := by omega
      by_cases h60 : (n : Int) ≤ 60
      · have YES : Hid (∀ b, FairW L w (.returned (.bool b)) w) := fun b => ⟨rfl, b, rfl, fun _ => ⟨by have := Hn.out; omega, fun x hx => by
          obtain ⟨j, hj, rfl⟩ := List.mem_iff_getElem.1 hx
          exact HP.out j hj (by have := Hn.out; omega)⟩⟩
        go_wp2_with fail
        go_ret
        exact YES.out _
      · have d60 : decide ((n : Int) ≤ 60) = false := decide_eq_false h60
        go_wp2_with fail
        go_ret
        exact NO.out
theorem may_zero {x : Wl} {lg : Nat} {s : ByteArray} (h : x.may lg s = 0) : s.size ≤ 2000 ∧ x.used + szN s.size ≤ lg ∧ x.next ≤ 2147483648 := by
  unfold Wl.may at h
  split at h
  · exact absurd h (by decide)
  · split at h
    · exact absurd h (by decide)
    · rename_i hs
      split at h
      · exact absurd h (by decide)
      · rename_i hf
        rw [sizeF_nat (by omega)] at hf
        refine ⟨by omega, ?_, ?_⟩ <;> omega
/-- Behind a phase's crash: what is opened by the number 1, and the new phase. -/
theorem PhW.again {N : Int} {lg u sr : Nat} {A : List ByteArray} {q : Int} {X : List ByteArray} {d : Dk} (h : PhW N lg A q u sr X d) (hq : q + X.length ≤ 256) (l : List (Int × Int)) :
    ∃ (R : List ByteArray) (q' : Int) (u' : Nat), (d.crash l).start.openW 1 = (some ⟨R, q' + (([] : List ByteArray).length : Int), u' + (layR (numW q' ([] : List ByteArray))).length, false⟩, 0) ∧ 1 ≤ q' ∧ q' ≤ q + X.length ∧ PhW N lg (d.crash l).start.secs q' u' 0 [] (d.crash l).start ∧ ∀ i, i < lg → numF ((d.crash l).start.tell (2 + (i : Int))).data.toList < q' := by
  have hq0 := h.q0
  have cT := calm_crashed h.calm l
  have hl : (d.crash l).start.secs.length = lg := by rw [secs_length, logs_of cT.n h.n32 h.n40 h.nl]
  have hA := (h.round hq l).area
  have h1 := nextW_ge (d.crash l).start.secs 1
  have h2 : nextW 1 (d.crash l).start.secs ≤ q + X.length := nextW_le (by omega) _ _ (by omega) hA.lo
  have hA2 : AreaW (d.crash l).start.secs (nextW 1 (d.crash l).start.secs) := ⟨hA.sz, fun b hb => by
    have h3 := hA.lo b hb
    have h4 := nextW_mem (d.crash l).start.secs 1 b hb
    exact ⟨h4.1 (by omega), h4.2 (by omega)⟩⟩
  have hsc := scanW_le (L := (d.crash l).start.secs) lg 1 0 (Nat.zero_le _)
  refine ⟨(scanW (d.crash l).start.secs lg 1 0).1, nextW 1 (d.crash l).start.secs, (scanW (d.crash l).start.secs lg 1 0).2, ?_, h1, h2, PhW.start cT h.n32 h.n40 h.nl hA2 (by omega) (by have := hsc.1; omega) (crashed_at h.calm.dead l), fun i hi => ?_⟩
  · rw [openW_calm cT h.n32 h.n40 h.nl (by decide) (by omega)]
    simp [layR, numW]
  · have hb : (d.crash l).start.tell (2 + (i : Int)) ∈ (d.crash l).start.secs := by
      rw [← secs_get _ i (by rw [hl]; exact hi)]; exact List.getElem_mem _
    exact numF_lt (by omega) (hA2.lo _ hb).1
end Go.Proofs.YtdbiebnnogjccaaGreatDoor

/- The log (layer 21): Raw, same; WalPlays. -/
namespace Go.Proofs.YtdbiebnnogjccaaGreatDoor
open Go.RowKit
/-- A text cut or filled up to a sector. -/
def rawW (s : ByteArray) : ByteArray := (s ++ ofL (List.replicate 256 0)).extract 0 256
set_option maxHeartbeats 1000000 in
theorem law21_Raw (s : ByteArray) (hs : s.size ≤ 3000) (w : World) : Calls Tryz.prog 34 #[.string s] w fun z w' => z = .returned (.string (rawW s)) ∧ Below w.heap.size w w' := by
  have KZ := Lib.hid (fun W => keep_Zeros' 256 (by decide) W)
  obtain ⟨Z, hZ⟩ : ∃ Z, Z = ofL (List.replicate 256 0) := ⟨_, rfl⟩
  have hz : Z.size = 256 := by rw [hZ, ofL_size, List.length_replicate]
  have hR : rawW s = (s ++ Z).extract 0 256 := by unfold rawW; rw [hZ]
  rw [hR]
  rw [← hZ] at KZ
  rw [show ((256 : Nat) : Int) = 256 from rfl] at KZ
  have s1 : ¬ 9223372036854775807 < s.size + Z.size := by omega
  obtain ⟨T, hT⟩ : ∃ T, T = s ++ Z := ⟨_, rfl⟩
  have tz : (256 : Int) ≤ (T.size : Int) := by rw [hT, ByteArray.size_append, hz]; omega
  have tz2 : (256 : Int) ≤ (s.size : Int) + (Z.size : Int) := by omega
  have HT := Lib.hid hT
  rw [← hT]
  clear hZ hR hT hz
  go_enter Tryz.func34, Tryz.ntmps34
  go_wp2_with fail
  refine (KZ.out _).mono ?_; rintro e w1 ⟨rfl, hb⟩
  have B1 := Lib.hid hb
  clear hb
  go_wp2_with fail
  go_ret
  exact ⟨by rw [HT.out]; rfl, B1.out⟩
section
variable {w w' w0 : World} {X : Nat} {OX : Obj} {g mb cb q sb rb c1 c2 nn : Nat} {v u : Value} {d e : Dk}
set_option maxHeartbeats 1000000 in
theorem same_nil (w : World) : Calls Tryz.prog 24 #[.pointer none, .pointer none] w fun z w' => z = .returned (.bool true) ∧ Below w.heap.size w w' := by
  go_enter Tryz.func24, Tryz.ntmps24
  go_wp2_with fail
  go_ret
  exact ⟨rfl, Below.refl _ _⟩
set_option maxRecDepth 20000 in
set_option maxHeartbeats 4000000 in
theorem same_some {B p y : Nat} {n : Int} {lg : Nat} {rv vr : Value} {x : Wl} (w : World) (hp : LogAt w B p g n lg rv x) (hr : RlAt w y q n lg vr x) :
    Calls Tryz.prog 24 #[.pointer (some ⟨p, 0, none⟩), .pointer (some ⟨y, 0, none⟩)] w fun z w' => z = .returned (.bool true) ∧ Below w.heap.size w w' := by
  have HP := Lib.hid hp; have HR := Lib.hid hr
  have hc := blk_cell hr.blk
  unfold rlCells at hc
  have SOf : Hid (∀ W, Below w.heap.size w W → W.cell? ⟨y, 1, none⟩ = some vr ∧ W.cell? ⟨y, 2, none⟩ = some (.int .u32 x.next)) := fun W h => ⟨by rw [h.cell (p := ⟨y, 1, none⟩) (blk_lt hr.blk)]; exact hc 1, by rw [h.cell (p := ⟨y, 2, none⟩) (blk_lt hr.blk)]; exact hc 2⟩
  have RC := Lib.hid (fun W k => wal_Records (B := B) (p := p) (g := g) (n := n) (lg := lg) (rv := rv) (x := x) W k)
  have NX := Lib.hid (fun W k => wal_Next (B := B) (p := p) (g := g) (n := n) (lg := lg) (rv := rv) (x := x) W k)
  have LF := Lib.hid (fun W k => wal_Left (B := B) (p := p) (g := g) (n := n) (lg := lg) (rv := rv) (x := x) W k)
  have RL := Lib.hid (fun W k => ref21_Left (y := y) (q := q) (n := n) (lg := lg) (vr := vr) (x := x) W k)
  have hlen : x.recs.length < 9223372036854775807 := by have := hp.us; have := hp.rl; have := hp.l1; omega
  have TX : Hid (∀ v u W, SlStrs W v x.recs → SlStrs W u x.recs → Calls Tryz.prog 20 #[v, u] W fun e w' => e = .returned (.bool true) ∧ Below W.heap.size W w') := fun v u W h1 h2 => by
    have := keep_Texts v u x.recs x.recs hlen W h1 h2
    rw [decide_eq_true rfl] at this
    exact this
  obtain ⟨N, hN⟩ : ∃ N, N = x.next := ⟨_, rfl⟩
  obtain ⟨F, hF⟩ : ∃ F, F = (lg : Int) - (x.used : Int) := ⟨_, rfl⟩
  rw [← hN] at NX SOf
  rw [← hF] at LF RL
  have n1 := int_self N
  have n2 := int_self F
  clear hp hr hc hN hF hlen
  go_enter Tryz.func24, Tryz.ntmps24
  go_upto_region 3 with (fail)
  have BN : Hid (Below w.heap.size w w.drew) := below_d1 _
  have S0 := SOf.out _ BN.out
  go_region_held3 (fun w' => w'.cell? ⟨y, 1, none⟩ = some vr ∧ w'.cell? ⟨y, 2, none⟩ = some (.int .u32 N)) (first | exact S0 | assumption)
    (first
      | (go_at_call 19; refine (RC.out _ (HP.out.below BN.out)).mono ?_; rintro e z ⟨v1, rfl, hv, hb⟩; have V1 := Lib.hid hv; have BN := Lib.hid (bstep BN.out hb); have S0 := SOf.out _ BN.out; clear hv hb)
      | (go_at_call 20; refine (TX.out _ _ _ V1.out (HR.out.recs.below BN.out)).mono ?_; rintro e z ⟨rfl, hb⟩; have BN := Lib.hid (bstep BN.out hb); have S0 := SOf.out _ BN.out; clear hb)
      | (go_at_call 16; refine (NX.out _ (HP.out.below BN.out)).mono ?_; rintro e z ⟨rfl, rfl⟩)
      | (go_at_call 72; refine (LF.out _ (HP.out.below BN.out)).mono ?_; rintro e z ⟨rfl, k, hk⟩; have hb : Below _ _ z := (by rw [hk]; exact below_dN _ k); have BN := Lib.hid (bstep BN.out hb); have S0 := SOf.out _ BN.out; clear hb hk)
      | (go_at_call 86; refine (RL.out _ (HR.out.below BN.out)).mono ?_; rintro e z ⟨rfl, k, hk⟩; have hb : Below _ _ z := (by rw [hk]; exact below_dN _ k); have BN := Lib.hid (bstep BN.out hb); have S0 := SOf.out _ BN.out; clear hb hk))
  all_goals
    go_wp2_with fail
    go_ret
    exact ⟨rfl, BN.out⟩
end
end Go.Proofs.YtdbiebnnogjccaaGreatDoor
