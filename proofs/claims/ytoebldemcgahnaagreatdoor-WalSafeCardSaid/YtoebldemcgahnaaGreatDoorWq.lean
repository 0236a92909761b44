/- The log (layer 21): a phase of appendings behind an opening, syncs between; its crash. -/
import Derived.Test.YtoebldemcgahnaaGreatDoorWg
import Derived.Test.YtoebldemcgahnaaGreatDoorWc
namespace Go.Proofs.YtoebldemcgahnaaGreatDoor
/-- Appended since an opening: X, from the number q on, behind u sectors; the first sr of them were flushed. A: the sectors at the opening. -/
structure PhW (N : Int) (lg : Nat) (A : List ByteArray) (q : Int) (u sr : Nat) (X : List ByteArray) (d : Dk) : Prop where
  calm : d.Calm N
  n32 : 32 ≤ N
  n40 : N ≤ 4096
  nl : (lg : Int) = (N - 2) / 4
  al : A.length = lg
  area : AreaW A q
  q0 : 0 < q
  xs : ∀ s ∈ X, s.size ≤ 2000
  b : LL d.secs = (LL A).take u ++ (layR (numW q X) ++ (LL A).drop (u + (layR (numW q X)).length))
  ul : u + (layR (numW q X)).length ≤ lg
  hat : ∀ i (h : i < A.length), d.at (2 + (i : Int)) = A[i] ∨ d.at (2 + (i : Int)) = d.tell (2 + (i : Int))
  syn : ∀ i : Nat, i < u + (layR (numW q (X.take sr))).length → d.at (2 + (i : Int)) = d.tell (2 + (i : Int))
  sl : sr ≤ X.length
section
variable {N : Int} {lg u sr : Nat} {A : List ByteArray} {q : Int} {X : List ByteArray} {d : Dk}
theorem PhW.logs (h : PhW N lg A q u sr X d) : d.logs = lg := logs_of h.calm.n h.n32 h.n40 h.nl
theorem PhW.start {d : Dk} (hc : d.Calm N) (n32 : 32 ≤ N) (n40 : N ≤ 4096) (nl : (lg : Int) = (N - 2) / 4) (ha : AreaW d.secs q) (q0 : 0 < q) (hu : u ≤ lg) (hat : ∀ j, d.at j = d.tell j) : PhW N lg d.secs q u 0 [] d := by
  have hl : d.secs.length = lg := by rw [secs_length, logs_of hc.n n32 n40 nl]
  refine ⟨hc, n32, n40, nl, hl, ha, q0, fun s hs => absurd hs (by simp), ?_, by simpa [layR, numW] using hu, fun i _ => .inr (hat _), fun i _ => hat _, Nat.le_refl _⟩
  simp [layR, numW]
theorem PhW.append (h : PhW N lg A q u sr X d) {s : ByteArray} (R : List ByteArray) (hs : s.size ≤ 2000) (hq : q + X.length ≤ 2147483648) (hf : u + (layR (numW q X)).length + szN s.size ≤ lg) :
    ∃ d', d.append ⟨R, q + (X.length : Int), u + (layR (numW q X)).length, false⟩ lg s = (d', ⟨R ++ [s], q + ((X ++ [s]).length : Int), u + (layR (numW q (X ++ [s]))).length, false⟩, 0) ∧ PhW N lg A q u sr (X ++ [s]) d' := by
  have hlr : layR (numW q (X ++ [s])) = layR (numW q X) ++ secsF (q + X.length) s.data.toList := by rw [numW_snoc, layR_snoc]
  have hll : (layR (numW q (X ++ [s]))).length = (layR (numW q X)).length + szN s.size := by rw [hlr, List.length_append, secsF_length, size_list]
  obtain ⟨d', e1, e2, e3, e4, e5⟩ := append_calm (x := ⟨R, q + (X.length : Int), u + (layR (numW q X)).length, false⟩) (lg := lg) (s := s) h.calm h.n32 h.n40 h.nl rfl hs hq hf
  dsimp only at e1 e4 e5
  have hat' : ∀ j, d'.at j = d.at j := fun j => by unfold Dk.at; rw [e3]
  have htell : ∀ i : Nat, i < u + (layR (numW q X)).length → d'.tell (2 + (i : Int)) = d.tell (2 + (i : Int)) := fun i hi => by
    unfold Dk.tell
    rw [e4, if_neg (by omega), hat']
  have hul := h.ul
  have hal := h.al
  have hpre : ((LL A).take u ++ layR (numW q X)).length = u + (layR (numW q X)).length := by
    rw [List.length_append, List.length_take, LL_length, hal]; omega
  refine ⟨d', ?_, ⟨e2, h.n32, h.n40, h.nl, h.al, h.area, h.q0, fun y hy => ?_, ?_, by rw [hll]; omega, fun i hi => ?_, fun i hi => ?_, by have := h.sl; simp; omega⟩⟩
  · have eN : q + (X.length : Int) + 1 = q + ((X ++ [s]).length : Int) := by rw [List.length_append]; simp; omega
    have eU : u + (layR (numW q X)).length + szN s.size = u + (layR (numW q (X ++ [s]))).length := by rw [hll]; omega
    rw [e1, eN, eU]
  · rcases List.mem_append.1 hy with k | k
    · exact h.xs y k
    · have : y = s := by simpa using k
      rw [this]; exact hs
  · rw [e5]
    have hLA : ∀ L M : List ByteArray, LL (L ++ M) = LL L ++ LL M := fun L M => by unfold LL; rw [List.map_append]
    have hS : LL ((secsF (q + X.length) s.data.toList).map ofL) = secsF (q + X.length) s.data.toList := by
      unfold LL; rw [List.map_map]
      refine (List.map_congr_left fun x _ => ?_).trans (List.map_id _)
      exact ofL_list x
    rw [hLA, hLA, hS, LL_take, LL_drop, h.b, hlr, ← List.append_assoc ((LL A).take u)]
    rw [List.take_left' hpre, ← List.drop_drop, List.drop_left' hpre, List.drop_drop, List.length_append, secsF_length, size_list]
    simp only [List.append_assoc, Nat.add_assoc]
  · rcases h.hat i hi with k | k
    · exact .inl ((hat' _).trans k)
    · by_cases c : i < u + (layR (numW q X)).length
      · exact .inr (by rw [hat', htell i c]; exact k)
      · -- not written yet: it is the old one
        have hb : d.secs[i]? = A[i]? := by
          have e : (LL d.secs)[i]? = (LL A)[i]? := by
            rw [h.b, List.getElem?_append_right (by rw [List.length_take, LL_length, hal]; omega), List.getElem?_append_right (by rw [List.length_take, LL_length, hal]; omega), List.getElem?_drop, List.length_take, LL_length, hal]
            congr 1; omega
          rw [List.getElem?_eq_getElem (by rw [LL_length, secs_length, h.logs]; omega), List.getElem?_eq_getElem (by rw [LL_length]; exact hi), LL_get, LL_get] at e
          injection e with e
          rw [List.getElem?_eq_getElem (by rw [secs_length, h.logs]; omega), List.getElem?_eq_getElem hi, bytes_ext e]
        rw [List.getElem?_eq_getElem (by rw [secs_length, h.logs]; omega), List.getElem?_eq_getElem hi, secs_get] at hb
        injection hb with hb
        exact .inl ((hat' _).trans (k.trans hb))
  · have hsl := h.sl
    rw [List.take_append_of_le_length hsl] at hi
    have hle : (layR (numW q (X.take sr))).length ≤ (layR (numW q X)).length := by
      have e : numW q X = numW q (X.take sr) ++ (numW q X).drop sr := by rw [← numW_take]; exact (List.take_append_drop _ _).symm
      rw [e, layR_append, List.length_append]; omega
    rw [hat', htell i (by omega)]
    exact h.syn i hi
theorem PhW.pour (h : PhW N lg A q u sr X d) : PhW N lg A q u X.length X d.pour := by
  have e : d.pour.secs = d.secs := secs_tell rfl (fun i => pour_tell d i)
  have hat : ∀ j, d.pour.at j = d.pour.tell j := fun j => by rw [pour_at, pour_tell]
  exact ⟨h.calm.pour, h.n32, h.n40, h.nl, h.al, h.area, h.q0, h.xs, by rw [e]; exact h.b, h.ul, fun i _ => .inr (hat _), fun i _ => hat _, Nat.le_refl _⟩
/-- What a crash leaves of a phase. -/
theorem PhW.round (h : PhW N lg A q u sr X d) (hq : q + X.length ≤ 256) (l : List (Int × Int)) : RoundW A d.secs (d.crash l).start.secs q u sr X := by
  have cT := calm_crashed h.calm l
  have lB : d.secs.length = lg := by rw [secs_length, h.logs]
  have lT : (d.crash l).start.secs.length = lg := by rw [secs_length, logs_of cT.n h.n32 h.n40 h.nl]
  have hal := h.al
  have torn : ∀ i (hi : i < lg), (d.crash l).start.secs[i]'(by rw [lT]; exact hi) = d.secs[i]'(by rw [lB]; exact hi) ∨ ∃ k, k ≤ 256 ∧ ((d.crash l).start.secs[i]'(by rw [lT]; exact hi)).data.toList = tornL (A[i]'(by rw [hal]; exact hi)).data.toList (d.secs[i]'(by rw [lB]; exact hi)).data.toList k := fun i hi => by
    rw [secs_get, secs_get, crash_tell h.calm.dead]
    cases hc : d.c (2 + (i : Int)) with
    | none =>
      have ht : d.tell (2 + (i : Int)) = d.at (2 + (i : Int)) := by unfold Dk.tell; rw [hc]; rfl
      exact .inl (by rw [fat_none hc, ht])
    | some s =>
      have ht : d.tell (2 + (i : Int)) = s := by unfold Dk.tell; rw [hc]; rfl
      have hk : (keptN l (2 + (i : Int))).getD 0 ≤ 256 := by
        cases hkk : keptN l (2 + (i : Int)) with
        | none => simp
        | some m => exact keptN_le hkk
      have hat := h.calm.ok.at_size (2 + (i : Int))
      have hl : (d.fat l (2 + (i : Int))).data.toList = tornL (d.at (2 + (i : Int))).data.toList s.data.toList ((keptN l (2 + (i : Int))).getD 0) := by
        rw [fat_some h.calm.ok.ok0 hc, list_append, extract_list, extract_list, List.drop_zero, Nat.sub_zero]
        unfold tornL
        congr 1
        exact List.take_of_length_le (by rw [List.length_drop, size_list, hat]; omega)
      rcases h.hat i (by rw [hal]; exact hi) with k | k
      · exact .inr ⟨_, hk, by rw [hl, k, ht]⟩
      · refine .inl (bytes_ext ?_)
        rw [hl, k, ht, torn_self]
  refine ⟨h.area, h.q0, hq, h.xs, by rw [lB, hal], by rw [lT, hal], h.b, by rw [hal]; exact h.ul, fun i hi => torn i (by rw [← lT]; exact hi), ?_⟩
  refine List.ext_getElem (by rw [List.length_take, List.length_take, lT, lB]) fun i h1 h2 => ?_
  rw [List.length_take, lT] at h1
  rw [List.getElem_take, List.getElem_take, secs_get, secs_get, crash_tell h.calm.dead]
  have hs := h.syn i (by omega)
  cases hc : d.c (2 + (i : Int)) with
  | none =>
    have ht : d.tell (2 + (i : Int)) = d.at (2 + (i : Int)) := by unfold Dk.tell; rw [hc]; rfl
    rw [fat_none hc, ht]
  | some s =>
    have ht : d.tell (2 + (i : Int)) = s := by unfold Dk.tell; rw [hc]; rfl
    have hat := h.calm.ok.at_size (2 + (i : Int))
    rw [fat_some h.calm.ok.ok0 hc, hs, ht]
    refine bytes_ext ?_
    rw [list_append, extract_list, extract_list, List.drop_zero, Nat.sub_zero]
    have hs256 : s.data.toList.length = 256 := by rw [size_list, h.calm.ok.sc _ _ hc]
    rw [List.take_of_length_le (l := s.data.toList.drop _) (by rw [List.length_drop, hs256]; omega), List.take_append_drop]
theorem crashed_at {d : Dk} (hd : d.dead = false) (l : List (Int × Int)) : ∀ j, (d.crash l).start.at j = (d.crash l).start.tell j := fun j => by
  rw [crash_tell hd, start_at, crash_at hd]
end
end Go.Proofs.YtoebldemcgahnaaGreatDoor

/- The log (layer 21): plain words of an emptied log. -/
namespace Go.Proofs.YtoebldemcgahnaaGreatDoor
theorem layR_le : ∀ (X : List ByteArray) (q : Int), (∀ s ∈ X, s.size ≤ 600) → (layR (numW q X)).length ≤ 3 * X.length
  | [], _, _ => by simp [layR, numW]
  | s :: X, q, h => by
    rw [numW, layR_cons, List.length_append, List.length_cons, secsF_length, size_list]
    have h1 := layR_le X (q + 1) (fun y hy => h y (List.mem_cons_of_mem _ hy))
    have h2 := h s (List.mem_cons_self ..)
    have h3 : szN s.size ≤ 3 := by unfold szN; omega
    omega
section
variable {N : Int} {lg u sr : Nat} {A : List ByteArray} {q : Int} {X : List ByteArray} {d : Dk}
theorem PhW.self (h : PhW N lg A q u sr X d) (hq : q + X.length ≤ 256) : RoundW A d.secs d.secs q u X.length X := by
  have lB : d.secs.length = lg := by rw [secs_length, h.logs]
  exact ⟨h.area, h.q0, hq, h.xs, by rw [lB, h.al], by rw [lB, h.al], h.b, by rw [h.al]; exact h.ul, fun i _ => .inl rfl, rfl⟩
/-- Sectors of lesser numbers: nothing is read. -/
theorem area_stop {A : List ByteArray} {q : Int} (h : AreaW A q) (q0 : 0 < q) (f : Nat) : scanW A f q 0 = ([], 0) ∧ (q ≤ 2147483649 → nextW q A = q) := by
  constructor
  · refine scan_stop fun s n k hr => ?_
    rw [List.drop_zero] at hr
    cases A with
    | nil => cases hr
    | cons b A =>
      have h1 := (readF_head (x := b.data.toList) (L := LL A) hr).1
      have h2 := numF_lt q0 (h.lo b (List.mem_cons_self ..)).1
      exact .inl (by omega)
  · intro hq
    have h1 := nextW_ge A q
    have h2 := nextW_le hq A q (Int.le_refl _) h.lo
    omega
/-- An opening by the first number of a phase that began at the first sector tells what was appended; behind a crash, the first of it. -/
theorem PhW.opens (h : PhW N lg A q 0 sr X d) (hq : q + X.length ≤ 256) :
    (∃ x, d.openW q = (some x, 0) ∧ x.recs = X) ∧ ∀ l, ∃ x j, (d.crash l).start.openW q = (some x, 0) ∧ x.recs = X.take j ∧ j ≤ X.length := by
  have hq0 := h.q0
  obtain ⟨a1, a2⟩ := area_stop h.area h.q0 A.length
  have a2 := a2 (by omega)
  constructor
  · obtain ⟨j, j1, j2, e1, e2, _⟩ := (h.self hq).ends (m := q) (by rw [a1]) a2.symm (Nat.le_refl _)
    rw [openW_calm h.calm h.n32 h.n40 h.nl (by omega) (by omega)]
    refine ⟨_, rfl, ?_⟩
    have hl : d.secs.length = lg := by rw [secs_length, h.logs]
    rw [hl] at e1
    show (scanW d.secs lg q 0).1 = X
    rw [e1, a1, List.nil_append, List.take_of_length_le (by omega)]
  · intro l
    have cT := calm_crashed h.calm l
    obtain ⟨j, j1, j2, e1, e2, _⟩ := (h.round hq l).ends (m := q) (by rw [a1]) a2.symm h.sl
    rw [openW_calm cT h.n32 h.n40 h.nl (by omega) (by omega)]
    refine ⟨_, j, rfl, ?_, j2⟩
    have hl : (d.crash l).start.secs.length = lg := by rw [secs_length, logs_of cT.n h.n32 h.n40 h.nl]
    rw [hl] at e1
    show (scanW (d.crash l).start.secs lg q 0).1 = X.take j
    rw [e1, a1, List.nil_append]
end
theorem area_new (n : Int) : AreaW (Dk.new n).secs 1 := by
  rw [secs_new]
  refine ⟨fun b hb => ?_, fun b hb => ?_⟩
  · rw [(List.mem_replicate.1 hb).2]; exact nil256_size
  · rw [(List.mem_replicate.1 hb).2, nil_ends.1, nil_ends.2]; exact ⟨by decide, by decide⟩
theorem area_mono {A : List ByteArray} {q q' : Int} (h : AreaW A q) (hq : q ≤ q') : AreaW A q' := ⟨h.sz, fun b hb => by have := h.lo b hb; omega⟩
end Go.Proofs.YtoebldemcgahnaaGreatDoor

/- The log (layer 21): plain words of WalSafe; Records in new memory. -/
namespace Go.Proofs.YtoebldemcgahnaaGreatDoor
open Go.RowKit
/-- A phase that began with an opening by the number 3: what an opening by 3 tells behind its crash. -/
theorem PhW.safe {N : Int} {lg u sr : Nat} {A : List ByteArray} {q : Int} {X H : List ByteArray} {d : Dk} (h : PhW N lg A q u sr X d) (hq : q + X.length ≤ 256) (hqA : q = nextW 3 A) (hu : u = (scanW A lg 3 0).2) (hH : H = (scanW A lg 3 0).1) (l : List (Int × Int)) :
    ∃ (j : Nat) (q' : Int) (u' : Nat) (A' : List ByteArray), sr ≤ j ∧ j ≤ X.length ∧ (d.crash l).start.openW 3 = (some ⟨H ++ X.take j, q' + (([] : List ByteArray).length : Int), u' + (layR (numW q' ([] : List ByteArray))).length, false⟩, 0) ∧ q' ≤ q + X.length ∧ (j = X.length → q + X.length ≤ q') ∧ PhW N lg A' q' u' 0 [] (d.crash l).start ∧ q' = nextW 3 A' ∧ u' = (scanW A' lg 3 0).2 ∧ H ++ X.take j = (scanW A' lg 3 0).1 := by
  have hq0 := h.q0
  have cT := calm_crashed h.calm l
  have hl : (d.crash l).start.secs.length = lg := by rw [secs_length, logs_of cT.n h.n32 h.n40 h.nl]
  have hR := h.round hq l
  have hA := hR.area
  obtain ⟨j, j1, j2, e1, e2, e3⟩ := hR.ends (m := 3) (by rw [h.al]; exact hu) hqA h.sl
  rw [hl, h.al, ← hH] at e1
  have g1 := nextW_ge (d.crash l).start.secs 3
  have hA2 : AreaW (d.crash l).start.secs (nextW 3 (d.crash l).start.secs) := ⟨hA.sz, fun b hb => by
    have h3 := hA.lo b hb
    have h4 := nextW_mem (d.crash l).start.secs 3 b hb
    exact ⟨h4.1 (by omega), h4.2 (by omega)⟩⟩
  have hsc := scanW_le (L := (d.crash l).start.secs) lg 3 0 (Nat.zero_le _)
  refine ⟨j, nextW 3 (d.crash l).start.secs, (scanW (d.crash l).start.secs lg 3 0).2, (d.crash l).start.secs, j1, j2, ?_, e2, e3, PhW.start cT h.n32 h.n40 h.nl hA2 (by omega) (by have := hsc.1; omega) (crashed_at h.calm.dead l), rfl, rfl, e1.symm⟩
  rw [openW_calm cT h.n32 h.n40 h.nl (by decide) (by omega), e1]
  simp [layR, numW]
theorem PhW.safe0 : PhW 200 49 (Dk.new 200).secs 3 0 0 [] (Dk.new 200) ∧ (3 : Int) = nextW 3 (Dk.new 200).secs ∧ 0 = (scanW (Dk.new 200).secs 49 3 0).2 ∧ [] = (scanW (Dk.new 200).secs 49 3 0).1 := by
  have hA := area_mono (area_new 200) (show (1 : Int) ≤ 3 by decide)
  obtain ⟨a1, a2⟩ := area_stop hA (by decide) 49
  exact ⟨PhW.start (calm_new (by decide) (by decide)) (by decide) (by decide) (by decide) hA (by decide) (by decide) (fun _ => rfl), (a2 (by decide)).symm, by rw [a1], by rw [a1]⟩
set_option maxRecDepth 20000 in
set_option maxHeartbeats 1000000 in
theorem clone_strsF (v : Value) (l : List ByteArray) (hl : l.length ≤ 65536) (w : World) (hv : SlStrs w v l) :
    Calls Tryz.prog 70 #[v] w fun e w' => ∃ v', e = .returned v' ∧ SlStrs w' v' l ∧ (∀ b off n c, v' = .slice (some ⟨b, off, none⟩) n c → w.heap.size ≤ b) ∧ Below w.heap.size w w' := by
  have HV := Lib.hid hv
  have q22 : ∀ (w : World) (a : Option Addr) (n c n' c' : Nat), (binOp .eql 34 (.slice a n c) (.slice none n' c')).run Tryz.prog w = .ok (.bool a.isNone) w := fun w a n c n' c' => Lib.run_eql_slice_nil w _ _ a n c n' c' Tryz.underlying34
  obtain ⟨p, cap, rfl, _⟩ := hv.form
  cases p with
  | none =>
    obtain rfl : l = [] := by
      rcases hv with ⟨_, e⟩ | ⟨b, off, cap, e, _⟩
      · exact e
      · injection e with e; cases e
    clear HV hv
    go_enter Tryz.func70, Tryz.ntmps70
    go_wp2_with fail
    go_ret
    exact ⟨_, rfl, .inl ⟨rfl, rfl⟩, (fun b off n c e => by cases e), Below.refl _ _⟩
  | some a0 =>
    clear hv
    obtain ⟨i0, ih, i1, i2, i3⟩ := info_parts Tryz.info9
    have Hl := Lib.hid hl
    clear hl
    go_enter Tryz.func70, Tryz.ntmps70
    go_wp2_with (at_builtin; refine wpList_append_new rfl _ _ _ rfl 9 i0 _ Tryz.underlying34 ih i1 1 i2 (by omega) _ rfl _ rfl l.length (l.map Value.string) (by simp) (HV.out.below (below_alloc1 _ _)).cells (by have := Hl.out; omega) ?_; intro g c w' h1 h2 h3 h4 h5; have H2 := Lib.hid h2; have H3 := Lib.hid h3; have H4 := Lib.hid h4; have H5 := Lib.hid h5; clear h2 h3 h4 h5)
    go_ret
    refine ⟨_, rfl, .inr ⟨g, 0, c, rfl, h1, ⟨fun h => (H5.out (List.length_pos_iff.2 h)).2, fun i hi => ?_⟩⟩, (fun b off n c e => by
      injection e with e _ _
      injection e with e
      injection e with e _ _
      subst e
      rcases H4.out with h | h
      · rw [h]; exact Nat.le_refl _
      · rw [h]; simp), bstep (below_alloc1 _ _) H3.out⟩
    rw [Nat.zero_add]
    exact H2.out i _ (by rw [List.getElem?_map, List.getElem?_eq_getElem hi]; rfl)
section
variable {B p g : Nat} {n : Int} {lg : Nat} {rv : Value} {x : Wl}
set_option maxHeartbeats 1000000 in
theorem wal_RecordsF (w : World) (h : LogAt w B p g n lg rv x) : Calls Tryz.prog 21 #[.pointer (some ⟨p, 0, none⟩)] w fun e w' => ∃ v, e = .returned v ∧ SlStrs w' v x.recs ∧ (∀ b off n c, v = .slice (some ⟨b, off, none⟩) n c → w.heap.size ≤ b) ∧ Below w.heap.size w w' := by
  have CL := Lib.hid (clone_strsF rv x.recs (by have := h.rl; have := h.us; have := h.l1; omega) w (SlStrs.of_own h.row))
  have hc := blk_cell h.blk
  unfold lgCells at hc
  clear h
  go_enter Tryz.func21, Tryz.ntmps21
  go_wp2_with fail
  refine CL.out.mono ?_; rintro e w1 ⟨v, rfl, hv, hn, hb⟩
  have HV := Lib.hid hv
  have HN := Lib.hid hn
  have HB := Lib.hid hb
  clear hv hn hb
  go_wp2_with fail
  go_ret
  exact ⟨v, rfl, HV.out, HN.out, HB.out⟩
end
end Go.Proofs.YtoebldemcgahnaaGreatDoor
