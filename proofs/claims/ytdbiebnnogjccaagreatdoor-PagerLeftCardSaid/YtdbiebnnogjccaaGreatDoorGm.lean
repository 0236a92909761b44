/- Pages (layer 22): Write. -/
import Derived.Test.YtdbiebnnogjccaaGreatDoorGk
import Derived.Test.YtdbiebnnogjccaaGreatDoorWd
import Derived.Test.YtdbiebnnogjccaaGreatDoorFc
import Derived.Deep.RegionHeld3
import Derived.Test.YtdbiebnnogjccaaGreatDoorFi
namespace Go.Proofs.YtdbiebnnogjccaaGreatDoor
open Go.RowKit Go.Maps
/-- The sector of a page. -/
noncomputable def pageS (num : Int) (s : ByteArray) : ByteArray := ofL (secF num (allF s.data.toList) 1 0)
theorem secs_page {num : Int} {s : ByteArray} (hs : s.size ≤ 236) : (secsF num s.data.toList).map ofL = [pageS num s] := by
  have e : szN s.data.toList.length = 1 := by rw [size_list]; unfold szN; omega
  unfold secsF pageS
  rw [e]; rfl
/-- Writing a page: which disk, and the number of the error. -/
noncomputable def pwrite (d : Dk) (l : List Int) (base i num : Int) (s : ByteArray) : Dk × Int :=
  if kindL l i ≠ 2 ∨ num = 0 then (d, 1) else if 236 < s.size then (d, 2) else d.write (base + i) (pageS num s)
def WriteE (S : Nat → Prop) (p : Nat) (n : Int) (lg : Nat) (l : List Int) (r : Dk × Int) (w : World) (e : Ending) (w' : World) : Prop :=
  ∃ v, e = .returned v ∧ ErrG w' r.2 v ∧ PgAt w' S p n lg l r.1 ∧ Fr S w w'
section
variable {p pm g mb cb : Nat} {n : Int} {lg : Nat} {l : List Int} {d : Dk} {S : Nat → Prop}
set_option maxRecDepth 20000 in
set_option maxHeartbeats 4000000 in
theorem pager_write (i : Int) (hi : wf64 i) (num : Int) (h0 : 0 ≤ num) (h1 : num < 4294967296) (s : ByteArray) (w0 w : World) (hw : PgW w0) (hb0 : Below w0.heap.size w0 w) (hS : ∀ b, S b → w0.heap.size ≤ b) (h : PgAt w S p n lg l d) :
    Calls Tryz.prog 102 #[.pointer (some ⟨p, 0, none⟩), .int .i64 i, .int .u32 num, .string s] w (WriteE S p n lg l (pwrite d l (2 + (lg : Int)) i num s) w) := by
  obtain ⟨pm, g, mb, cb, h, rfl⟩ := h
  have H := Lib.hid h
  have HW := Lib.hid hw
  have B0 := Lib.hid hb0
  have HS := Lib.hid hS
  have hc := blk_cell h.blk
  unfold pgCells at hc
  have LK := h.map.look hi
  obtain ⟨a0, a1, a2, aD, aA, pA, pF, pL, pD, hw1, hw2⟩ := hw.below hb0
  have vA := hw2.vA
  have vL := hw2.vL
  have ARG : Hid (∀ r : Dk × Int, r = (d, 1) → WriteE (PgS p pm g mb cb) p n lg l r w (.returned (.iface 308 (.pointer (some pA)))) w) := fun r hr => by
    subst hr; exact ⟨_, rfl, .inr (.inl ⟨pA, pF, pL, pD, hw2, .inl rfl, rfl⟩), H.out.at, Fr.refl _ _⟩
  have LNG : Hid (∀ r : Dk × Int, r = (d, 2) → WriteE (PgS p pm g mb cb) p n lg l r w (.returned (.iface 308 (.pointer (some pL)))) w) := fun r hr => by
    subst hr; exact ⟨_, rfl, .inr (.inl ⟨pA, pF, pL, pD, hw2, .inr (.inl rfl), rfl⟩), H.out.at, Fr.refl _ _⟩
  have HW2 := Lib.hid hw1
  clear h hw hb0 hS hw1 hw2
  by_cases k2 : kindL l i = 2
  · have q0 : (kindL l i != 2) = false := by rw [k2]; rfl
    by_cases kn : num = 0
    · have FIN := Lib.hid (ARG.out (pwrite d l (2 + (lg : Int)) i num s) (by unfold pwrite; rw [if_pos (.inr kn)]))
      have q1 : (num == 0) = true := by rw [kn]; rfl
      clear k2 kn ARG LNG
      go_enter Tryz.func102, Tryz.ntmps102
      go_wp2_with fail
      go_ret
      exact FIN.out
    have q1 : (num == 0) = false := by rw [beq_eq_false_iff_ne]; exact kn
    by_cases ks : 236 < s.size
    · have FIN := Lib.hid (LNG.out (pwrite d l (2 + (lg : Int)) i num s) (by unfold pwrite; rw [if_neg (fun h => h.elim (fun h => h k2) kn), if_pos ks]))
      have q2 : (236 : Int) < (s.size : Int) := by omega
      clear k2 kn ARG LNG
      go_enter Tryz.func102, Tryz.ntmps102
      go_wp2_with fail
      go_ret
      exact FIN.out
    have q2 : ¬ (236 : Int) < (s.size : Int) := by omega
    have PW : Hid (pwrite d l (2 + (lg : Int)) i num s = d.write (2 + (lg : Int) + i) (pageS num s)) := by show _ = _; unfold pwrite; rw [if_neg (fun h => h.elim (fun h => h k2) kn), if_neg ks]
    have hb := kindL_in (l := l) (i := i) (by rw [k2]; decide)
    have len := H.out.len
    have n40 := H.out.n40
    have n32 := H.out.n32
    have v1 : IntKind.i64.wrap (2 + (lg : Int) + i) = 2 + (lg : Int) + i := IntWalk.i64_in _ (by omega)
    have wv : wf64 (2 + (lg : Int) + i) := wf64_of (by omega) (by omega)
    have MK := Lib.hid (fun W k1 k2 => frame_Make num h0 h1 s (by omega) W k1 k2)
    rw [makeF_ok (n := num) (s := s.data.toList) kn (by rw [size_list]; omega)] at MK
    dsimp only at MK
    rw [secs_page (by omega)] at MK
    obtain ⟨Z, hZ⟩ : ∃ Z, Z = pageS num s := ⟨_, rfl⟩
    rw [← hZ] at MK PW
    have WR := Lib.hid (fun W k1 k2 => disk_Write (2 + (lg : Int) + i) wv Z g mb cb (.slice none 0 0) d aD aA W k1 k2 H.out.ok)
    have OK2 := Lib.hid (H.out.ok.write (2 + (lg : Int) + i) Z)
    have N2 := Lib.hid (write_nW d (2 + (lg : Int) + i) Z)
    obtain ⟨d2, c2, hd2⟩ : ∃ d2 c2, d.write (2 + (lg : Int) + i) Z = (d2, c2) := ⟨_, _, rfl⟩
    rw [hd2] at WR PW OK2 N2
    dsimp only at WR OK2 N2
    have AS := Lib.hid (fun W k => pager_asked c2 W k)
    clear k2 kn ARG LNG hZ hd2 wv vA vL
    go_enter Tryz.func102, Tryz.ntmps102
    go_wp2_with fail
    refine (MK.out _ HW2.out.f.et HW2.out.f.tbl).mono ?_; rintro e w2 ⟨v, rfl, hv, hb2⟩
    have B2 := Lib.hid hb2
    obtain ⟨pv, cv, rfl, _⟩ := hv.form
    obtain ⟨b, off, rfl, hA⟩ := hv.at (k := 0) (by simp)
    have c0 : w2.cell? ⟨b, off, none⟩ = some (.string Z) := hA.at' 0 (by simp)
    have H2 := Lib.hid (H.out.below hb2)
    clear hb2 hv hc LK
    have hc := blk_cell H2.out.blk
    unfold pgCells at hc
    have FB := Lib.hid (H2.out.dsk.far c0)
    have SOf : Hid (∀ W, Below w2.heap.size w2 W → W.cell? ⟨p, 0, none⟩ = some (.pointer (some ⟨g, 0, none⟩)) ∧ W.cell? ⟨p, 3, none⟩ = some (.int .i64 (2 + (lg : Int))) ∧ W.cell? ⟨b, off, none⟩ = some (.string Z)) := fun W h => ⟨dk_cell (hc 0) h, dk_cell (hc 3) h, dk_cell c0 h⟩
    clear hA c0 hc
    go_upto_region 6 with (fail)
    have BN : Hid (Below w2.heap.size w2 w2.drew) := below_drew1 _
    have S0 := SOf.out _ BN.out
    go_region_held3 (fun w' => w'.cell? ⟨p, 0, none⟩ = some (.pointer (some ⟨g, 0, none⟩)) ∧ w'.cell? ⟨p, 3, none⟩ = some (.int .i64 (2 + (lg : Int))) ∧ w'.cell? ⟨b, off, none⟩ = some (.string Z)) (first | exact S0 | exact S9 | exact S8 | assumption)
      (first
        | (go_at_call 33; refine (WR.out _ (HW2.out.d.below (bstep B2.out BN.out)) (H2.out.dsk.below BN.out)).mono ?_; rintro e z ⟨rfl, hd, hf⟩; have H4 := Lib.hid ((H2.out.below BN.out).wrote hd hf OK2.out N2.out); have F4 : Hid (Fr (PgS p pm g mb cb) w z) := ((Fr.of_below (bstep B2.out BN.out)).trans (hf.mono fun _ h => .inl h)); have hq := blk_cell H4.out.blk; have S9 : z.cell? ⟨p, 0, none⟩ = some (.pointer (some ⟨g, 0, none⟩)) ∧ z.cell? ⟨p, 3, none⟩ = some (.int .i64 (2 + (lg : Int))) ∧ z.cell? ⟨b, off, none⟩ = some (.string Z) := ⟨hq 0, hq 3, (hf.cell (World.block_lt_of_cell? _ ⟨b, off, none⟩ S0.2.2) FB.out).trans S0.2.2⟩; clear hq hd hf)
        | (go_at_call 138; refine (AS.out _ (HW.out.below (bel_G B0.out F4.out HS.out))).mono ?_; rintro e z2 ⟨ve, rfl, hE, _, _, hb⟩; have HE := Lib.hid hE; have H5 := Lib.hid (H4.out.below hb); have F5 : Hid (Fr (PgS p pm g mb cb) w z2) := (F4.out.trans (Fr.of_below hb)); have hq := blk_cell H5.out.blk; have S8 : z2.cell? ⟨p, 0, none⟩ = some (.pointer (some ⟨g, 0, none⟩)) ∧ z2.cell? ⟨p, 3, none⟩ = some (.int .i64 (2 + (lg : Int))) ∧ z2.cell? ⟨b, off, none⟩ = some (.string Z) := ⟨hq 0, hq 3, dk_cell S9.2.2 hb⟩; clear hq hE hb))
    all_goals
      have FIN : Hid (WriteE (PgS p pm g mb cb) p n lg l (pwrite d l (2 + (lg : Int)) i num s) w (.returned ve) z2) := by
        show WriteE _ _ _ _ _ _ _ _ _
        rw [PW.out]
        exact ⟨ve, rfl, HE.out, H5.out.at, F5.out⟩
      clear S0 S9 S8
      go_wp2_with fail
      go_ret
      exact FIN.out
  · have q0 : (kindL l i != 2) = true := by rw [bne_iff_ne]; exact k2
    have FIN := Lib.hid (ARG.out (pwrite d l (2 + (lg : Int)) i num s) (by unfold pwrite; rw [if_pos (.inl k2)]))
    clear k2 ARG LNG
    go_enter Tryz.func102, Tryz.ntmps102
    go_wp2_with fail
    go_ret
    exact FIN.out
set_option maxHeartbeats 1000000 in
theorem pager_Write (i : Int) (hi : wf64 i) (num : Int) (h0 : 0 ≤ num) (h1 : num < 4294967296) (s : ByteArray) (w0 w : World) (hw : PgW w0) (hb0 : Below w0.heap.size w0 w) (hS : ∀ b, S b → w0.heap.size ≤ b) (h : PgAt w S p n lg l d) :
    Calls Tryz.prog 42 #[.pointer (some ⟨p, 0, none⟩), .int .i64 i, .int .u32 num, .string s] w fun e w' => e = .returned (.int .i64 (pwrite d l (2 + (lg : Int)) i num s).2) ∧ PgAt w' S p n lg l (pwrite d l (2 + (lg : Int)) i num s).1 ∧ Fr S w w' := by
  have W1 := Lib.hid (pager_write i hi num h0 h1 s w0 w hw hb0 hS h)
  have HW := Lib.hid hw
  have B0 := Lib.hid hb0
  have HS := Lib.hid hS
  obtain ⟨r, hr⟩ : ∃ r, r = pwrite d l (2 + (lg : Int)) i num s := ⟨_, rfl⟩
  rw [← hr] at W1 ⊢
  clear hr hw hb0 hS h
  go_enter Tryz.func42, Tryz.ntmps42
  go_wp2_with fail
  refine W1.out.mono ?_; rintro e w1 ⟨v, rfl, hE, hP, hF⟩
  have HP := Lib.hid hP; have HF := Lib.hid hF
  have TD := Lib.hid (pager_told r.2 v w1 (HW.out.below (bel_G B0.out hF HS.out)) hE)
  clear hE hP hF
  go_wp2_with fail
  refine TD.out.mono ?_; rintro e w2 ⟨rfl, hb⟩
  have B2 := Lib.hid hb
  clear hb
  go_wp2_with fail
  go_ret
  exact ⟨rfl, HP.out.below B2.out, HF.out.trans (Fr.of_below B2.out)⟩
end
end Go.Proofs.YtdbiebnnogjccaaGreatDoor

/- Pages (layer 22): Read. -/
namespace Go.Proofs.YtdbiebnnogjccaaGreatDoor
open Go.RowKit Go.Maps
/-- Reading a page: its text, and the number of the error. -/
noncomputable def pread (d : Dk) (k : Nat) (base i : Int) : ByteArray × Int :=
  if isP k i = true then
    if (d.read (base + i)).2 ≠ 0 then (⟨#[]⟩, (d.read (base + i)).2) else match readF [(d.read (base + i)).1.data.toList] with
      | some (s, _, _) => (ofL s, 0)
      | none => (⟨#[]⟩, 11)
  else (⟨#[]⟩, 1)
def ReadE (r : ByteArray × Int) (w : World) (e : Ending) (w' : World) : Prop :=
  ∃ v, e = .returned (.tuple #[.string r.1, v]) ∧ ErrG w' r.2 v ∧ Below w.heap.size w w'
theorem slStrs_oneG {w : World} {s : ByteArray} {G : Nat} {t : TypeId} (h : w.heap[G]? = some (.cells #[.string s] t (0, 0))) : SlStrs w (.slice (some ⟨G, 0, none⟩) 1 1) [s] :=
  .inr ⟨G, 0, 1, rfl, Nat.le_refl _, ⟨fun _ => blk_lt h, fun i hi => by
    have e : i = 0 := by simpa using hi
    subst e
    rw [blk_cell h]; rfl⟩⟩
section
variable {p pm g mb cb : Nat} {n : Int} {lg : Nat} {l : List Int} {d : Dk} {S : Nat → Prop}
set_option maxRecDepth 20000 in
set_option maxHeartbeats 4000000 in
theorem pager_read (i : Int) (w : World) (hw : PgW w) (h : PgAt w S p n lg l d) :
    Calls Tryz.prog 108 #[.pointer (some ⟨p, 0, none⟩), .int .i64 i] w (ReadE (pread d l.length (2 + (lg : Int)) i) w) := by
  obtain ⟨pm, g, mb, cb, h, _⟩ := h
  have H := Lib.hid h
  have HW := Lib.hid hw
  have hc := blk_cell h.blk
  unfold pgCells at hc
  have IS := Lib.hid (pager_is i w h.b)
  obtain ⟨a0, a1, a2, aD, aA, pA, pF, pL, pD, hw1, hw2⟩ := hw
  have HE := Lib.hid hw2; have HF := Lib.hid hw1
  by_cases k1 : isP l.length i = true
  · rw [k1] at IS
    obtain ⟨i0, i1⟩ : 0 ≤ i ∧ i < (l.length : Int) := by unfold isP at k1; simpa using k1
    have len := h.len
    have n40 := h.n40
    have n32 := h.n32
    have v1 : IntKind.i64.wrap (2 + (lg : Int) + i) = 2 + (lg : Int) + i := IntWalk.i64_in _ (by omega)
    have wv : wf64 (2 + (lg : Int) + i) := wf64_of (by omega) (by omega)
    have RD := Lib.hid (fun W k1 k2 => disk_Read (2 + (lg : Int) + i) wv g mb cb 4096 (.slice none 0 0) d aD aA W k1 k2)
    have PR : Hid (pread d l.length (2 + (lg : Int)) i = if (d.read (2 + (lg : Int) + i)).2 ≠ 0 then (⟨#[]⟩, (d.read (2 + (lg : Int) + i)).2) else match readF [(d.read (2 + (lg : Int) + i)).1.data.toList] with
      | some (s, _, _) => (ofL s, 0)
      | none => (⟨#[]⟩, 11)) := by show _ = _; unfold pread; rw [if_pos k1]
    obtain ⟨T, c, hr⟩ : ∃ T c, d.read (2 + (lg : Int) + i) = (T, c) := ⟨_, _, rfl⟩
    rw [hr] at RD PR
    dsimp only at RD PR
    have AS := Lib.hid (fun W k => pager_asked c W k)
    have SOf : Hid (∀ W, Below w.heap.size w W → W.cell? ⟨p, 0, none⟩ = some (.pointer (some ⟨g, 0, none⟩)) ∧ W.cell? ⟨p, 3, none⟩ = some (.int .i64 (2 + (lg : Int)))) := fun W h => ⟨dk_cell (hc 0) h, dk_cell (hc 3) h⟩
    clear h hw1 hw2 hc k1 hr wv
    go_enter Tryz.func108, Tryz.ntmps108
    go_wp2_with fail
    refine IS.out.mono ?_; rintro e w1 ⟨rfl, rfl⟩
    go_upto_region 3 with (fail)
    have BN : Hid (Below w.heap.size w w.drew) := below_drew1 _
    have S0 := SOf.out _ BN.out
    go_region_held3 (fun w' => w'.cell? ⟨p, 0, none⟩ = some (.pointer (some ⟨g, 0, none⟩)) ∧ w'.cell? ⟨p, 3, none⟩ = some (.int .i64 (2 + (lg : Int)))) (first | exact S0 | exact S9 | assumption)
      (first
        | (go_at_call 69; refine (RD.out _ (HF.out.d.below BN.out) (H.out.dsk.below BN.out)).mono ?_; rintro e z ⟨rfl, hb⟩; have B2 := Lib.hid (bstep BN.out hb); have S9 := SOf.out _ B2.out; clear hb))
    all_goals
      clear S0 S9
      by_cases hc0 : c = 0
      · have q0 : (c == 0) = true := by rw [hc0]; rfl
        have PR2 : Hid (pread d l.length (2 + (lg : Int)) i = match readF [T.data.toList] with
          | some (s, _, _) => (ofL s, 0)
          | none => (⟨#[]⟩, 11)) := by show _ = _; rw [PR.out, if_neg (fun h => h hc0)]
        have C0 := Lib.hid hc0
        clear hc0 PR
        go_wp2_with fail
        refine (AS.out _ (HW.out.below B2.out)).mono ?_; rintro e z2 ⟨ve, rfl, _, hv0, _, hb⟩
        obtain rfl := hv0 C0.out
        have B3 := Lib.hid (bstep B2.out hb)
        clear hv0 hb
        go_wp2_with fail
        obtain ⟨z3, hz3⟩ : ∃ z, z = z2.alloc (.cells #[.string T] 9) := ⟨_, rfl⟩
        have X3 : z3.heap[z2.heap.size]? = some (.cells #[.string T] 9 (0, 0)) := by rw [hz3]; exact blk_new _ _
        have B4 : Hid (Below w.heap.size w z3) := by show Below _ _ _; rw [hz3]; exact bstep B3.out (below_a1 _ _)
        have FR := Lib.hid (frame_Read (.slice (some ⟨z2.heap.size, 0, none⟩) 1 1) [T] (by simp) a0 a1 a2 z3 (HF.out.below B4.out).f (slStrs_oneG X3))
        rw [← hz3]
        clear hz3 X3
        refine FR.out.mono ?_; rintro e z4 ⟨hq, hb⟩
        have B5 := Lib.hid (bstep B4.out hb)
        clear hb
        cases hr : readF (LL [T]) with
        | none =>
          rw [hr] at hq
          obtain rfl : e = _ := hq
          have vF := (HE.out.below B5.out).vF
          have FIN : Hid (∀ W, Below z4.heap.size z4 W → ReadE (pread d l.length (2 + (lg : Int)) i) w (.returned (.tuple #[.string ⟨#[]⟩, .iface 308 (.pointer (some pF))])) W) := fun W hW => by
            have e : pread d l.length (2 + (lg : Int)) i = (⟨#[]⟩, 11) := by rw [PR2.out, show readF [T.data.toList] = none from hr]
            rw [e]
            exact ⟨_, rfl, .inr (.inl ⟨pA, pF, pL, pD, (HE.out.below (bstep B5.out hW)), .inr (.inr rfl), rfl⟩), bstep B5.out hW⟩
          clear hr
          go_wp2_with fail
          go_quiet (fail)
          go_wp2_with fail
          go_ret2
          exact FIN.out _ (below_dN _ _)
        | some r3 =>
          obtain ⟨s, nn, kk⟩ := r3
          rw [hr] at hq
          obtain rfl : e = _ := hq
          have FIN : Hid (ReadE (pread d l.length (2 + (lg : Int)) i) w (.returned (.tuple #[.string (ofL s), .nilIface])) z4) := by
            have e : pread d l.length (2 + (lg : Int)) i = (ofL s, 0) := by rw [PR2.out, show readF [T.data.toList] = some (s, nn, kk) from hr]
            show ReadE _ _ _ _
            rw [e]
            exact ⟨_, rfl, .inl ⟨rfl, rfl⟩, B5.out⟩
          clear hr
          go_wp2_with fail
          go_ret2
          exact FIN.out
      · have q0 : (c == 0) = false := by rw [beq_eq_false_iff_ne]; exact hc0
        have PR2 : Hid (pread d l.length (2 + (lg : Int)) i = (⟨#[]⟩, c)) := by show _ = _; rw [PR.out, if_pos hc0]
        have C0 := Lib.hid hc0
        clear hc0 PR
        go_wp2_with fail
        refine (AS.out _ (HW.out.below B2.out)).mono ?_; rintro e z2 ⟨ve, rfl, hE, _, hv1, hb⟩
        obtain ⟨pe, rfl⟩ := hv1 C0.out
        have FIN : Hid (ReadE (pread d l.length (2 + (lg : Int)) i) w (.returned (.tuple #[.string ⟨#[]⟩, .iface 197 (.pointer (some ⟨pe, 0, none⟩))])) z2) := by
          show ReadE _ _ _ _
          rw [PR2.out]
          exact ⟨_, rfl, hE, bstep B2.out hb⟩
        clear hE hv1 hb
        go_wp2_with fail
        go_ret2
        exact FIN.out
  · have k0 : isP l.length i = false := by simpa using k1
    rw [k0] at IS
    have vA := hw2.vA
    have FIN : Hid (∀ W, Below w.heap.size w W → ReadE (pread d l.length (2 + (lg : Int)) i) w (.returned (.tuple #[.string ⟨#[]⟩, .iface 308 (.pointer (some pA))])) W) := fun W hW => by
      have e : pread d l.length (2 + (lg : Int)) i = (⟨#[]⟩, 1) := by unfold pread; rw [if_neg k1]
      rw [e]
      exact ⟨_, rfl, .inr (.inl ⟨pA, pF, pL, pD, HE.out.below hW, .inl rfl, rfl⟩), hW⟩
    clear h hw1 hw2 hc k1 k0
    go_enter Tryz.func108, Tryz.ntmps108
    go_wp2_with fail
    refine IS.out.mono ?_; rintro e w1 ⟨rfl, rfl⟩
    go_wp2_with fail
    go_quiet (fail)
    go_wp2_with fail
    go_ret2
    exact FIN.out _ (below_dN _ _)
set_option maxHeartbeats 1000000 in
theorem pager_Read (i : Int) (w : World) (hw : PgW w) (h : PgAt w S p n lg l d) :
    Calls Tryz.prog 47 #[.pointer (some ⟨p, 0, none⟩), .int .i64 i] w fun e w' => e = .returned (.tuple #[.string (pread d l.length (2 + (lg : Int)) i).1, .int .i64 (pread d l.length (2 + (lg : Int)) i).2]) ∧ Below w.heap.size w w' := by
  have R1 := Lib.hid (pager_read i w hw h)
  have HW := Lib.hid hw
  obtain ⟨r, hr⟩ : ∃ r, r = pread d l.length (2 + (lg : Int)) i := ⟨_, rfl⟩
  rw [← hr] at R1 ⊢
  clear hr hw h
  go_enter Tryz.func47, Tryz.ntmps47
  go_wp2_with fail
  refine R1.out.mono ?_; rintro e w1 ⟨v, rfl, hE, hb⟩
  have B1 := Lib.hid hb
  have TD := Lib.hid (pager_told r.2 v w1 (HW.out.below hb) hE)
  clear hE hb
  go_wp2_with fail
  refine TD.out.mono ?_; rintro e w2 ⟨rfl, hb⟩
  have B2 := Lib.hid (bstep B1.out hb)
  clear hb
  go_wp2_with fail
  go_ret2
  exact ⟨rfl, B2.out⟩
end
end Go.Proofs.YtdbiebnnogjccaaGreatDoor
