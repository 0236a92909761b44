/- The log (layer 21): plain words of an emptied log. -/
import Derived.Test.YtdbiebnnogjccaaGreatDoorWk
import Derived.Test.YtdbiebnnogjccaaGreatDoorWc
import Derived.Test.YtdbiebnnogjccaaGreatDoorWg
import Derived.Test.YtdbiebnnogjccaaGreatDoorDa
import Derived.Test.YtdbiebnnogjccaaGreatDoorDl
namespace Go.Proofs.YtdbiebnnogjccaaGreatDoor
theorem layR_le : ∀ (X : List ByteArray) (q : Int), (∀ s ∈ X, s.size ≤ 600) → (layR (numW q X)).length ≤ 3 * X.length
  | [], _, _ => by simp [layR, numW]
  | s :: X, q, h => by
    rw [numW, layR_cons, List.length_append, List.length_cons, secsF_length, size_list]
    have h1 := layR_le X (q + 1) (fun y hy => h y (List.mem_cons_of_mem _ hy))
    have h2 := h s (List.mem_cons_self ..)
    have h3 : szN s.size ≤ 3 := by unfold szN; omega
    omega
section
variable {N : Int} {lg u sr : Nat} {A : List ByteArray} {q : Int} {X : List ByteArray} {d : Dk}
theorem PhW.self (h : PhW N lg A q u sr X d) (hq : q + X.length ≤ 256) : RoundW A d.secs d.secs q u X.length X := by
  have lB : d.secs.length = lg := by rw [secs_length, h.logs]
  exact ⟨h.area, h.q0, hq, h.xs, by rw [lB, h.al], by rw [lB, h.al], h.b, by rw [h.al]; exact h.ul, fun i _ => .inl rfl, rfl⟩
/-- Sectors of lesser numbers: nothing is read. -/
theorem area_stop {A : List ByteArray} {q : Int} (h : AreaW A q) (q0 : 0 < q) (f : Nat) : scanW A f q 0 = ([], 0) ∧ (q ≤ 2147483649 → nextW q A = q) := by
  constructor
  · refine scan_stop fun s n k hr => ?_
    rw [List.drop_zero] at hr
    cases A with
    | nil => cases hr
    | cons b A =>
      have h1 := (readF_head (x := b.data.toList) (L := LL A) hr).1
      have h2 := numF_lt q0 (h.lo b (List.mem_cons_self ..)).1
      exact .inl (by omega)
  · intro hq
    have h1 := nextW_ge A q
    have h2 := nextW_le hq A q (Int.le_refl _) h.lo
    omega
/-- An opening by the first number of a phase that began at the first sector tells what was appended; behind a crash, the first of it. -/
theorem PhW.opens (h : PhW N lg A q 0 sr X d) (hq : q + X.length ≤ 256) :
    (∃ x, d.openW q = (some x, 0) ∧ x.recs = X) ∧ ∀ l, ∃ x j, (d.crash l).start.openW q = (some x, 0) ∧ x.recs = X.take j ∧ j ≤ X.length := by
  have hq0 := h.q0
  obtain ⟨a1, a2⟩ := area_stop h.area h.q0 A.length
  have a2 := a2 (by omega)
  constructor
  · obtain ⟨j, j1, j2, e1, e2, _⟩ := (h.self hq).ends (m := q) (by rw [a1]) a2.symm (Nat.le_refl _)
    rw [openW_calm h.calm h.n32 h.n40 h.nl (by omega) (by omega)]
    refine ⟨_, rfl, ?_⟩
    have hl : d.secs.length = lg := by rw [secs_length, h.logs]
    rw [hl] at e1
    show (scanW d.secs lg q 0).1 = X
    rw [e1, a1, List.nil_append, List.take_of_length_le (by omega)]
  · intro l
    have cT := calm_crashed h.calm l
    obtain ⟨j, j1, j2, e1, e2, _⟩ := (h.round hq l).ends (m := q) (by rw [a1]) a2.symm h.sl
    rw [openW_calm cT h.n32 h.n40 h.nl (by omega) (by omega)]
    refine ⟨_, j, rfl, ?_, j2⟩
    have hl : (d.crash l).start.secs.length = lg := by rw [secs_length, logs_of cT.n h.n32 h.n40 h.nl]
    rw [hl] at e1
    show (scanW (d.crash l).start.secs lg q 0).1 = X.take j
    rw [e1, a1, List.nil_append]
end
theorem area_new (n : Int) : AreaW (Dk.new n).secs 1 := by
  rw [secs_new]
  refine ⟨fun b hb => ?_, fun b hb => ?_⟩
  · rw [(List.mem_replicate.1 hb).2]; exact nil256_size
  · rw [(List.mem_replicate.1 hb).2, nil_ends.1, nil_ends.2]; exact ⟨by decide, by decide⟩
theorem area_mono {A : List ByteArray} {q q' : Int} (h : AreaW A q) (hq : q ≤ q') : AreaW A q' := ⟨h.sz, fun b hb => by have := h.lo b hb; omega⟩
end Go.Proofs.YtdbiebnnogjccaaGreatDoor

/- The log (layer 21): plain words of WalSafe; Records in new memory. -/
namespace Go.Proofs.YtdbiebnnogjccaaGreatDoor
open Go.RowKit
/-- A phase that began with an opening by the number 3: what an opening by 3 tells behind its crash. -/
theorem PhW.safe {N : Int} {lg u sr : Nat} {A : List ByteArray} {q : Int} {X H : List ByteArray} {d : Dk} (h : PhW N lg A q u sr X d) (hq : q + X.length ≤ 256) (hqA : q = nextW 3 A) (hu : u = (scanW A lg 3 0).2) (hH : H = (scanW A lg 3 0).1) (l : List (Int × Int)) :
    ∃ (j : Nat) (q' : Int) (u' : Nat) (A' : List ByteArray), sr ≤ j ∧ j ≤ X.length ∧ (d.crash l).start.openW 3 = (some ⟨H ++ X.take j, q' + (([] : List ByteArray).length : Int), u' + (layR (numW q' ([] : List ByteArray))).length, false⟩, 0) ∧ q' ≤ q + X.length ∧ (j = X.length → q + X.length ≤ q') ∧ PhW N lg A' q' u' 0 [] (d.crash l).start ∧ q' = nextW 3 A' ∧ u' = (scanW A' lg 3 0).2 ∧ H ++ X.take j = (scanW A' lg 3 0).1 := by
  have hq0 := h.q0
  have cT := calm_crashed h.calm l
  have hl : (d.crash l).start.secs.length = lg := by rw [secs_length, logs_of cT.n h.n32 h.n40 h.nl]
  have hR := h.round hq l
  have hA := hR.area
  obtain ⟨j, j1, j2, e1, e2, e3⟩ := hR.ends (m := 3) (by rw [h.al]; exact hu) hqA h.sl
  rw [hl, h.al, ← hH] at e1
  have g1 := nextW_ge (d.crash l).start.secs 3
  have hA2 : AreaW (d.crash l).start.secs (nextW 3 (d.crash l).start.secs) := ⟨hA.sz, fun b hb => by
    have h3 := hA.lo b hb
    have h4 := nextW_mem (d.crash l).start.secs 3 b hb
    exact ⟨h4.1 (by omega), h4.2 (by omega)⟩⟩
  have hsc := scanW_le (L := (d.crash l).start.secs) lg 3 0 (Nat.zero_le _)
  refine ⟨j, nextW 3 (d.crash l).start.secs, (scanW (d.crash l).start.secs lg 3 0).2, (d.crash l).start.secs, j1, j2, ?_, e2, e3, PhW.start cT h.n32 h.n40 h.nl hA2 (by omega) (by have := hsc.1; omega) (crashed_at h.calm.dead l), rfl, rfl, e1.symm⟩
  rw [openW_calm cT h.n32 h.n40 h.nl (by decide) (by omega), e1]
  simp [layR, numW]
theorem PhW.safe0 : PhW 200 49 (Dk.new 200).secs 3 0 0 [] (Dk.new 200) ∧ (3 : Int) = nextW 3 (Dk.new 200).secs ∧ 0 = (scanW (Dk.new 200).secs 49 3 0).2 ∧ [] = (scanW (Dk.new 200).secs 49 3 0).1 := by
  have hA := area_mono (area_new 200) (show (1 : Int) ≤ 3 by decide)
  obtain ⟨a1, a2⟩ := area_stop hA (by decide) 49
  exact ⟨PhW.start (calm_new (by decide) (by decide)) (by decide) (by decide) (by decide) hA (by decide) (by decide) (fun _ => rfl), (a2 (by decide)).symm, by rw [a1], by rw [a1]⟩
set_option maxRecDepth 20000 in
set_option maxHeartbeats 1000000 in
theorem clone_strsF (v : Value) (l : List ByteArray) (hl : l.length ≤ 65536) (w : World) (hv : SlStrs w v l) :
    Calls Tryz.prog 80 #[v] w fun e w' => ∃ v', e = .returned v' ∧ SlStrs w' v' l ∧ (∀ b off n c, v' = .slice (some ⟨b, off, none⟩) n c → w.heap.size ≤ b) ∧ Below w.heap.size w w' := by
  have HV := Lib.hid hv
  have q22 : ∀ (w : World) (a : Option Addr) (n c n' c' : Nat), (binOp .eql 34 (.slice a n c) (.slice none n' c')).run Tryz.prog w = .ok (.bool a.isNone) w := fun w a n c n' c' => Lib.run_eql_slice_nil w _ _ a n c n' c' Tryz.underlying34
  obtain ⟨p, cap, rfl, _⟩ := hv.form
  cases p with
  | none =>
    obtain rfl : l = [] := by
      rcases hv with ⟨_, e⟩ | ⟨b, off, cap, e, _⟩
      · exact e
      · injection e with e; cases e
    clear HV hv
    go_enter Tryz.func80, Tryz.ntmps80
    go_wp2_with fail
    go_ret
    exact ⟨_, rfl, .inl ⟨rfl, rfl⟩, (fun b off n c e => by cases e), Below.refl _ _⟩
  | some a0 =>
    clear hv
    obtain ⟨i0, ih, i1, i2, i3⟩ := info_parts Tryz.info9
    have Hl := Lib.hid hl
    clear hl
    go_enter Tryz.func80, Tryz.ntmps80
    go_wp2_with (at_builtin; refine wpList_append_new rfl _ _ _ rfl 9 i0 _ Tryz.underlying34 ih i1 1 i2 (by omega) _ rfl _ rfl l.length (l.map Value.string) (by simp) (HV.out.below (below_alloc1 _ _)).cells (by have := Hl.out; omega) ?_; intro g c w' h1 h2 h3 h4 h5; have H2 := Lib.hid h2; have H3 := Lib.hid h3; have H4 := Lib.hid h4; have H5 := Lib.hid h5; clear h2 h3 h4 h5)
    go_ret
    refine ⟨_, rfl, .inr ⟨g, 0, c, rfl, h1, ⟨fun h => (H5.out (List.length_pos_iff.2 h)).2, fun i hi => ?_⟩⟩, (fun b off n c e => by
      injection e with e _ _
      injection e with e
      injection e with e _ _
      subst e
      rcases H4.out with h | h
      · rw [h]; exact Nat.le_refl _
      · rw [h]; simp), bstep (below_alloc1 _ _) H3.out⟩
    rw [Nat.zero_add]
    exact H2.out i _ (by rw [List.getElem?_map, List.getElem?_eq_getElem hi]; rfl)
section
variable {B p g : Nat} {n : Int} {lg : Nat} {rv : Value} {x : Wl}
set_option maxHeartbeats 1000000 in
theorem wal_RecordsF (w : World) (h : LogAt w B p g n lg rv x) : Calls Tryz.prog 19 #[.pointer (some ⟨p, 0, none⟩)] w fun e w' => ∃ v, e = .returned v ∧ SlStrs w' v x.recs ∧ (∀ b off n c, v = .slice (some ⟨b, off, none⟩) n c → w.heap.size ≤ b) ∧ Below w.heap.size w w' := by
  have CL := Lib.hid (clone_strsF rv x.recs (by have := h.rl; have := h.us; have := h.l1; omega) w (SlStrs.of_own h.row))
  have hc := blk_cell h.blk
  unfold lgCells at hc
  clear h
  go_enter Tryz.func19, Tryz.ntmps19
  go_wp2_with fail
  refine CL.out.mono ?_; rintro e w1 ⟨v, rfl, hv, hn, hb⟩
  have HV := Lib.hid hv
  have HN := Lib.hid hn
  have HB := Lib.hid hb
  clear hv hn hb
  go_wp2_with fail
  go_ret
  exact ⟨v, rfl, HV.out, HN.out, HB.out⟩
end
end Go.Proofs.YtdbiebnnogjccaaGreatDoor

/- The log (layer 21): wakes. -/
namespace Go.Proofs.YtdbiebnnogjccaaGreatDoor
open Go.RowKit
/-- What an opening hands back, beside its disk. -/
theorem walAt_open {w0 w w' : World} {p g mb cb : Nat} {kv rv : Value} {n : Int} {lg : Nat} {x : Wl} {d : Dk} (hb : Below w0.heap.size w0 w) (hd : DiskAt w g mb cb 4096 kv d) (ok : d.Ok) (hn : d.n = n) (nl : (lg : Int) = (n - 2) / 4) (n32 : 32 ≤ n) (gB : ∀ b, DkS g mb cb b → w0.heap.size ≤ b) (kB : ∀ b off c m, kv = .slice (some ⟨b, off, none⟩) m c → b < w0.heap.size) (hbel : Below w.heap.size w w') (hp : w.heap.size ≤ p) (hl : LogAt w' w.heap.size p g n lg rv x) : WalAt w' w0.heap.size p g mb cb kv rv n lg x d := by
  have hg := hd.lt
  have hm := hd.hm.lt
  have hc := hd.hc.lt
  refine ⟨hl.base hb.size, hd.below hbel, ok, hn, nl, n32, Nat.le_trans hb.size hp, ?_, gB, fun b hb2 => ?_, kB⟩
  · rintro (e | e | e) <;> omega
  · have := (hl.row.lt b hb2).1
    rintro (e | e | e) <;> omega
theorem slStrs_one {w : World} {s : ByteArray} {G : Nat} {t : TypeId} (h : w.heap[G]? = some (.cells #[.string s] t (0, 0))) : SlStrs w (.slice (some ⟨G, 0, none⟩) 1 1) [s] := by
  refine .inr ⟨G, 0, 1, rfl, Nat.le_refl _, ⟨fun _ => blk_lt h, fun i hi => ?_⟩⟩
  have h0 : i = 0 := by simpa using hi
  subst h0
  rw [blk_cell h]; rfl
set_option maxRecDepth 20000 in
set_option maxHeartbeats 8000000 in
theorem wakes21 (a0 a1 a2 aD aA bD bL bF : Addr) (w : World) (hw : WlW w a0 a1 a2 aD aA bD bL bF) :
    Calls Tryz.prog 13 #[] w fun e w' => e = .returned (.bool true) ∧ Below w.heap.size w w' := by
  have HW := Lib.hid hw
  clear hw
  obtain ⟨d1, d3, C0, C1, C3, o1, p1, s1, p2, o2⟩ := wakes21_words
  have n0 : (Dk.new 64).n = 64 := rfl
  have NW := Lib.hid (disk_New 64 (by decide) (by decide) w)
  obtain ⟨g, hg⟩ : ∃ g, g = w.heap.size + 2 := ⟨_, rfl⟩
  obtain ⟨mb, hmb⟩ : ∃ g, g = w.heap.size := ⟨_, rfl⟩
  obtain ⟨cb, hcb⟩ : ∃ g, g = w.heap.size + 1 := ⟨_, rfl⟩
  have gB : Hid (∀ b, DkS g mb cb b → w.heap.size ≤ b) := by rintro b (h | h | h) <;> omega
  have NW' : Hid (Calls Tryz.prog 11 #[.int .i64 64] w fun e w' => e = .returned (.tuple #[.pointer (some ⟨g, 0, none⟩), .int .i64 0]) ∧ DiskAt w' g mb cb 0 (.slice none 0 0) (Dk.new 64) ∧ Below w.heap.size w w') := by rw [hg, hmb, hcb]; exact NW.out
  have O1 := Lib.hid (fun W k1 k2 => wal_Open 5 (by decide) (by decide) g mb cb (.slice none 0 0) (Dk.new 64) 15 (logs_of (n := 64) (lg := 15) rfl (by decide) (by decide) (by decide)).symm a0 a1 a2 aD aA W k1 k2 C0.ok)
  rw [o1] at O1
  unfold OpenP at O1
  dsimp only at O1
  have A1 := Lib.hid (fun p rv W k1 k2 => wal_Append (p := p) (g := g) (mb := mb) (cb := cb) (kv := .slice none 0 0) (rv := rv) (n := 64) (lg := 15) (x := ⟨[], 5, 0, false⟩) (d := Dk.new 64) wsA a0 a1 a2 aD aA bD bL bF w W HW.out k1 k2)
  rw [p1] at A1
  unfold AppP at A1
  dsimp only at A1
  have S1 := Lib.hid (fun p rv W k1 k2 => wal_Sync (B := w.heap.size) (p := p) (g := g) (mb := mb) (cb := cb) (kv := .slice none 0 0) (rv := rv) (n := 64) (lg := 15) (x := ⟨[wsA], 6, 1, false⟩) (d := d1) aD aA W k1 k2)
  rw [s1] at S1
  dsimp only at S1
  have A2 := Lib.hid (fun p rv W k1 k2 => wal_Append (p := p) (g := g) (mb := mb) (cb := cb) (kv := .slice none 0 0) (rv := rv) (n := 64) (lg := 15) (x := ⟨[wsA], 6, 1, false⟩) (d := d1.pour) wsB a0 a1 a2 aD aA bD bL bF w W HW.out k1 k2)
  rw [p2] at A2
  unfold AppP at A2
  dsimp only at A2
  have CK := Lib.hid (fun W h1 h2 h3 => disk_Crash (.slice none 0 0) [] (by decide) g mb cb (.slice none 0 0) d3 W h1 C3.ok.ok0 h2 h3)
  have ST := Lib.hid (fun W h1 => disk_Start g mb cb 4096 (.slice none 0 0) (d3.crash []) W h1)
  have C4 := calm_crashed C3 []
  have n4 : (d3.crash []).start.n = 64 := C4.n
  have O2 := Lib.hid (fun W k1 k2 => wal_Open 5 (by decide) (by decide) g mb cb (.slice none 0 0) (d3.crash []).start 15 (logs_of (n := 64) (lg := 15) C4.n (by decide) (by decide) (by decide)).symm a0 a1 a2 aD aA W k1 k2 C4.ok)
  rw [o2, n4] at O2
  rw [n0] at O1
  unfold OpenP at O2
  dsimp only at O2
  have RC := Lib.hid (fun p rv W k => wal_Records (B := w.heap.size) (p := p) (g := g) (n := 64) (lg := 15) (rv := rv) (x := ⟨[wsA], 6, 1, false⟩) W k)
  have NX := Lib.hid (fun p rv W k => wal_Next (B := w.heap.size) (p := p) (g := g) (n := 64) (lg := 15) (rv := rv) (x := ⟨[wsA], 6, 1, false⟩) W k)
  have LF := Lib.hid (fun p rv W k => wal_Left (B := w.heap.size) (p := p) (g := g) (n := 64) (lg := 15) (rv := rv) (x := ⟨[wsA], 6, 1, false⟩) W k)
  dsimp only at RC NX LF
  have TX := Lib.hid (fun v u W k1 k2 => keep_Texts v u [wsA] [wsA] (by decide) W k1 k2)
  have dt : decide ([wsA] = [wsA]) = true := decide_eq_true rfl
  rw [dt] at TX
  obtain ⟨D0, hD0⟩ : ∃ d, d = Dk.new 64 := ⟨_, rfl⟩
  obtain ⟨D2, hD2⟩ : ∃ d, d = d1.pour := ⟨_, rfl⟩
  obtain ⟨D4, hD4⟩ : ∃ d, d = d3.crash [] := ⟨_, rfl⟩
  obtain ⟨D5, hD5⟩ : ∃ d, d = D4.start := ⟨_, rfl⟩
  have OK0 : Hid (D0.Ok ∧ D0.n = 64) := by rw [hD0]; exact ⟨C0.ok, rfl⟩
  have OK5 : Hid (D5.Ok ∧ D5.n = 64) := by rw [hD5, hD4]; exact ⟨C4.ok, C4.n⟩
  rw [← hD0] at NW' O1 A1
  rw [← hD2] at S1 A2
  rw [← hD4] at CK ST O2
  rw [← hD5] at ST O2
  unfold wsA at A1 A2 S1 RC NX LF O2 TX
  unfold wsB at A2
  clear C0 C1 C3 C4 o1 p1 s1 p2 o2 n0 n4 hg hmb hcb hD0 hD2 hD4 hD5 NW dt
  go_enter Tryz.func13, Tryz.ntmps13
  go_wp2_with fail
  refine NW'.out.mono ?_; rintro e w1 ⟨rfl, hd, hb1⟩
  have H1 : Hid (DiskAt w1 g mb cb 4096 (.slice none 0 0) D0) := ⟨hd.blk, hd.hm.mono (by omega), hd.hc.mono (by omega), hd.hk, hd.n0, hd.n1, hd.gm, hd.gc, hd.mc, hd.kn⟩
  have B1 := Lib.hid hb1
  clear hd hb1 NW'
  go_wp2_with fail
  refine (O1.out _ (HW.out.below B1.out).h H1.out).mono ?_; rintro e w2 ⟨hb, p, rv, rfl, hp, hl⟩
  have W2 := Lib.hid (walAt_open B1.out H1.out OK0.out.1 OK0.out.2 (by decide) (by decide) gB.out (fun b off c m e => by cases e) hb hp hl)
  have B2 := Lib.hid (bstep B1.out hb)
  clear hb hp hl H1
  go_wp2_with fail
  refine (A1.out p rv _ B2.out W2.out).mono ?_; rintro e w3 ⟨rv3, rfl, hw3, hf, _⟩
  have W3 := Lib.hid hw3
  have B3 := Lib.hid (W2.out.bel B2.out rfl hf)
  clear hw3 hf W2
  go_wp2_with fail
  refine (S1.out p rv3 _ (HW.out.below B3.out).h.d W3.out).mono ?_; rintro e w4 ⟨rfl, hw4, hf⟩
  have W4 := Lib.hid hw4
  have B4 := Lib.hid (W3.out.bel B3.out rfl hf)
  clear hw4 hf W3
  go_wp2_with fail
  refine (A2.out p rv3 _ B4.out W4.out).mono ?_; rintro e w5 ⟨rv5, rfl, hw5, hf, _⟩
  have W5 := Lib.hid hw5
  have B5 := Lib.hid (W4.out.bel B4.out rfl hf)
  clear hw5 hf W4
  go_wp2_with fail
  refine (CK.out _ W5.out.dsk (.inl ⟨rfl, _, _, rfl⟩) (fun b off n c e => by cases e)).mono ?_; rintro e w6 ⟨rfl, hd, hf⟩
  have H6 := Lib.hid hd
  have B6 := Lib.hid (frb B5.out hf (gB.out _ (.inl rfl)) (gB.out _ (.inr (.inl rfl))) (gB.out _ (.inr (.inr rfl))))
  clear hd hf W5
  go_wp2_with fail
  refine (ST.out _ H6.out).mono ?_; rintro e w7 ⟨rfl, hd, hf⟩
  have H7 := Lib.hid hd
  have B7 := Lib.hid (frb B6.out (hf.mono (T := DkS g mb cb) (fun _ h => .inl h)) (gB.out _ (.inl rfl)) (gB.out _ (.inr (.inl rfl))) (gB.out _ (.inr (.inr rfl))))
  clear hd hf H6
  go_wp2_with fail
  refine (O2.out _ (HW.out.below B7.out).h H7.out).mono ?_; rintro e w8 ⟨hb, p8, rv8, rfl, hp, hl⟩
  have W8 := Lib.hid (walAt_open B7.out H7.out OK5.out.1 OK5.out.2 (by decide) (by decide) gB.out (fun b off c m e => by cases e) hb hp hl)
  have B8 := Lib.hid (bstep B7.out hb)
  clear hb hp hl H7
  go_wp2_with fail
  refine (RC.out p8 rv8 _ W8.out.log).mono ?_; rintro e w9 ⟨v, rfl, hv, hb⟩
  have V9 := Lib.hid hv
  have W9 := Lib.hid (W8.out.below hb)
  have B9 := Lib.hid (bstep B8.out hb)
  clear hb hv W8
  go_wp2_with fail
  refine (TX.out _ _ _ (V9.out.below (below_a1 _ _)) (slStrs_one (blk_new _ _))).mono ?_; rintro e w10 ⟨rfl, hb⟩
  have W10 := Lib.hid ((W9.out.below (below_a1 _ _)).below hb)
  have B10 := Lib.hid (bstep (bstep B9.out (below_a1 _ _)) hb)
  clear hb V9 W9
  go_wp2_with fail
  refine (NX.out p8 rv8 _ W10.out.log).mono ?_; rintro e w11 ⟨rfl, rfl⟩
  go_wp2_with fail
  refine (LF.out p8 rv8 _ W10.out.log).mono ?_; rintro e w12 ⟨rfl, k, rfl⟩
  have B12 := Lib.hid (bstep B10.out (below_dN _ k))
  go_wp2_with fail
  go_ret
  exact ⟨rfl, B12.out⟩
end Go.Proofs.YtdbiebnnogjccaaGreatDoor
