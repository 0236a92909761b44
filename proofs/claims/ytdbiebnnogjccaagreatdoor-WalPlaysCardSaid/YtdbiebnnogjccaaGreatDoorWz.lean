/- The log (layer 21): the reference's Open. -/
import Derived.Test.YtdbiebnnogjccaaGreatDoorWy
import Derived.Test.YtdbiebnnogjccaaGreatDoorJb
namespace Go.Proofs.YtdbiebnnogjccaaGreatDoor
open Go.RowKit
theorem below_d1 (w : World) : Below w.heap.size w w.drew := ⟨rfl, rfl, rfl, Nat.le_refl _, fun _ _ => rfl⟩
/-- The reference's log: its cells. -/
def rlCells (q : Nat) (n : Int) (lg : Nat) (vr : Value) (x : Wl) : Array Value := #[.pointer (some ⟨q, 0, none⟩), vr, .int .u32 x.next, .int .i64 2, .int .i64 (lg : Int), .int .i64 (2 + (lg : Int)), .int .i64 (n - 2 - (lg : Int)), .int .i64 (x.used : Int), .bool x.dead]
/-- The reference's log in memory. -/
structure RlAt (w : World) (y q : Nat) (n : Int) (lg : Nat) (vr : Value) (x : Wl) : Prop where
  blk : w.heap[y]? = some (.cells (rlCells q n lg vr x) 142 (0, 0))
  recs : SlStrs w vr x.recs
  x0 : 1 ≤ x.next
  x1 : x.next ≤ 2147483649
  us : x.used ≤ lg
  rl : x.recs.length ≤ x.used
  l1 : lg ≤ 1023
/-- Behind an opening. -/
def ROpenP (q : Nat) (n : Int) (lg : Nat) (r : Option Wl × Int) (w : World) (e : Ending) (w' : World) : Prop :=
  Below w.heap.size w w' ∧ match r.1 with
  | none => e = .returned (.tuple #[.pointer none, .int .i64 r.2])
  | some x => ∃ y vr, e = .returned (.tuple #[.pointer (some ⟨y, 0, none⟩), .int .i64 r.2]) ∧ w.heap.size ≤ y ∧ RlAt w' y q n lg vr x ∧ ∀ b off m c, vr = .slice (some ⟨b, off, none⟩) m c → m ≠ 0 → w.heap.size ≤ b ∧ b ≠ y
theorem ropenP_none {q : Nat} {n : Int} {lg : Nat} {c : Int} {w w' : World} {r : Option Wl × Int} (hr : r = (none, c)) (hb : Below w.heap.size w w') : ROpenP q n lg r w (.returned (.tuple #[.pointer none, .int .i64 c])) w' := by
  subst hr; exact ⟨hb, rfl⟩
theorem ropenP_some {q : Nat} {n : Int} {lg : Nat} {x : Wl} {w w' : World} {r : Option Wl × Int} {y : Nat} {vr : Value} (hr : r = (some x, 0)) (hb : Below w.heap.size w w') (hy : w.heap.size ≤ y) (hl : RlAt w' y q n lg vr x) (hv : ∀ b off m c, vr = .slice (some ⟨b, off, none⟩) m c → m ≠ 0 → w.heap.size ≤ b ∧ b ≠ y) : ROpenP q n lg r w (.returned (.tuple #[.pointer (some ⟨y, 0, none⟩), .int .i64 0])) w' := by
  subst hr; exact ⟨hb, y, vr, rfl, hy, hl, hv⟩
set_option maxRecDepth 20000 in
theorem strs_from {w : World} {p : Option Addr} {n c : Nat} {l : List ByteArray} (hn : n = l.length) (h : SlStrs w (.slice p n c) l) {u : Nat} (hu : u ≤ n) :
    ∃ V, (∀ W : World, (Instr.slice 34 (.slice p n c) (some (.int .i64 (u : Int))) none none).run Tryz.prog W = .ok V W) ∧ SlStrs w V (l.drop u) := by
  subst hn
  have hsz : ∀ W : World, (sizeOf (Tryz.prog.elem 34)).run Tryz.prog W = .ok 1 W := fun _ => by kernel_rfl
  refine ⟨sliced p u l.length c 1, fun W => ?_, ?_⟩
  · rw [run_slice_l W 34 p l.length c Tryz.underlying34 .i64 (u : Int) (by omega) (by omega), hsz]
    rfl
  · rcases h with ⟨e, hl⟩ | ⟨b, off, cap, e, hc, h⟩
    · injection e with e1 e2 e3
      subst e1 e3 hl
      obtain rfl : u = 0 := by simpa using hu
      exact .inl ⟨rfl, rfl⟩
    · injection e with e1 _ e3
      subst e1 e3
      unfold sliced
      by_cases k : c = u
      · rw [if_pos k]
        have hz : l.drop u = [] := List.drop_eq_nil_of_le (by omega)
        rw [hz]
        refine .inr ⟨b, off, c - u, by rw [show l.length - u = 0 by omega]; rfl, by simp, ?_⟩
        have := h.take 0
        rwa [List.take_zero] at this
      · rw [if_neg k]
        refine .inr ⟨b, off + u, c - u, ?_, by rw [List.length_drop]; omega, h.drop u⟩
        rw [List.length_drop]
        simp [Addr.add]
set_option maxRecDepth 20000 in
set_option maxHeartbeats 1000000 in
theorem ref21_Open_nil (first : Int) (w : World) : Calls Tryz.prog 23 #[.pointer none, .int .u32 first] w fun e w' => e = .returned (.tuple #[.pointer none, .int .i64 1]) ∧ w = w' := by
  go_enter Tryz.func23, Tryz.ntmps23
  go_wp2_with fail
  go_ret2
  exact ⟨rfl, rfl⟩
set_option maxRecDepth 20000 in
set_option maxHeartbeats 8000000 in
theorem ref21_Open (first : Int) (f0 : 0 ≤ first) (f1 : first < 4294967296) (q sb cb c1 c2 nn : Nat) (rn : Int) (kv : Value) (d : Dk) (lg : Nat) (hlg : lg = d.logs) (ok : d.Ok) (w : World) (hd : RefAt w q sb cb c1 c2 nn rn kv d) :
    Calls Tryz.prog 23 #[.pointer (some ⟨q, 0, none⟩), .int .u32 first] w (ROpenP q d.n lg (d.openW first) w) := by
  have HD := Lib.hid hd
  have OK := Lib.hid ok
  have HN := Lib.hid hd.hn
  by_cases c0 : first = 0
  · have FIN : Hid (∀ W, Below w.heap.size w W → ROpenP q d.n lg (d.openW first) w (.returned (.tuple #[.pointer none, .int .i64 1])) W) := fun W h => ropenP_none (by unfold Dk.openW; rw [if_pos c0]) h
    subst c0
    clear hd ok hlg f0 f1
    go_enter Tryz.func23, Tryz.ntmps23
    go_wp2_with fail
    go_ret2
    exact FIN.out _ (Below.refl _ _)
  have q0 : (first == 0) = false := by simpa using c0
  have n1 := ok.n1
  have LY := Lib.hid (fun W => ref20_Lay d.n W)
  have hc0 : w.cell? ⟨q, 0, none⟩ = some (.slice (some ⟨sb, 0, none⟩) nn c1) := blk_cell hd.blk 0
  have hc2 : w.cell? ⟨q, 2, none⟩ = some (.bool d.dead) := blk_cell hd.blk 2
  have CQ : Hid (∀ W, Below w.heap.size w W → W.cell? ⟨q, 0, none⟩ = some (.slice (some ⟨sb, 0, none⟩) nn c1) ∧ W.cell? ⟨q, 2, none⟩ = some (.bool d.dead)) := fun W h => ⟨dk_cell hc0 h, dk_cell hc2 h⟩
  clear hc2
  obtain ⟨n, hn⟩ : ∃ n, n = d.n := ⟨_, rfl⟩
  rw [← hn] at LY HN n1 ⊢
  have hnn : (nn : Int) = n := HN.out
  by_cases k1 : (layN n).2 ≠ 0
  · obtain ⟨y, c, hy⟩ : ∃ y c, layN n = (y, c) := ⟨_, _, rfl⟩
    have FIN : Hid (∀ W, Below w.heap.size w W → ROpenP q n lg (d.openW first) w (.returned (.tuple #[.pointer none, .int .i64 c])) W) := fun W h => ropenP_none (by unfold Dk.openW; rw [if_neg c0, ← hn, if_pos k1, hy]) h
    rw [hy] at LY k1
    obtain ⟨y0, y1, y2, y3⟩ := y
    unfold layV at LY
    dsimp only at LY k1
    have q1 : (c != 0) = true := by rw [bne_iff_ne]; exact k1
    clear hd ok hlg f0 f1 hy c0 k1 hn n1 HN
    go_enter Tryz.func23, Tryz.ntmps23
    go_wp2_with fail
    refine (LY.out _).mono ?_; rintro e w2 ⟨rfl, hb⟩
    have B2 := Lib.hid hb
    clear hb
    go_wp2_with fail
    go_ret2
    exact FIN.out _ (bstep B2.out (below_a1 _ _))
  have k1' : (layN n).2 = 0 := Decidable.not_not.1 k1
  obtain ⟨n0, n1⟩ : 32 ≤ n ∧ n ≤ 4096 := by
    unfold layN at k1'
    split at k1'
    · exact absurd k1' (by decide)
    · split at k1'
      · exact absurd k1' (by decide)
      · omega
  have hlq : (lg : Int) = (n - 2) / 4 := by
    rw [hlg]; unfold Dk.logs layN; rw [← hn, if_neg (by omega), if_neg (by omega)]; dsimp only; omega
  rw [lay_log n0 n1 hlq] at LY
  unfold layV at LY
  dsimp only at LY
  have l0 : 7 ≤ lg := by omega
  have l1 : lg ≤ 1023 := by omega
  have l0i : (0 : Int) < (lg : Int) := by omega
  have SE := Lib.hid (fun W k => ref21_Sectors lg q sb cb c1 c2 nn rn kv d ok hlg (by omega) l1 W k)
  have HNd := Lib.hid hn
  have HLG := Lib.hid hlg
  have HLQ : Hid ((lg : Int) = (n - 2) / 4 ∧ 32 ≤ n) := ⟨hlq, n0⟩
  have K1 := Lib.hid k1'
  have C0 := Lib.hid c0
  clear hd ok hlg hlq k1 k1' n0 n1 hn c0
  go_enter Tryz.func23, Tryz.ntmps23
  go_wp2_with fail
  refine (LY.out _).mono ?_; rintro e w2 ⟨rfl, hb⟩
  have B2 := Lib.hid hb
  clear hb hc0 LY
  obtain ⟨hc0, hc2⟩ := CQ.out _ B2.out
  clear hc0
  go_upto_region 4 with (fail)
  obtain ⟨w3, hw3⟩ : ∃ z, z = w2.alloc (.cells #[.int .i64 2, .int .i64 (lg : Int), .int .i64 (2 + (lg : Int)), .int .i64 (n - 2 - (lg : Int))] 136) := ⟨_, rfl⟩
  have B3 : Hid (Below w.heap.size w w3) := by show Below _ _ _; rw [hw3]; exact bstep B2.out (below_a1 _ _)
  have X3 : Hid (w3.heap[w2.heap.size]? = some (.cells #[.int .i64 2, .int .i64 (lg : Int), .int .i64 (2 + (lg : Int)), .int .i64 (n - 2 - (lg : Int))] 136 (0, 0))) := by show _ = _; rw [hw3]; exact blk_new _ _
  obtain ⟨z, hz⟩ : ∃ q, q = w2.heap.size := ⟨_, rfl⟩
  have zB : Hid (w.heap.size ≤ z) := by show _ ≤ _; rw [hz]; exact B2.out.size
  rw [← hz] at X3 ⊢
  rw [← hw3]
  clear hw3 hz hc2 B2
  obtain ⟨hc0, hc2⟩ := CQ.out _ B3.out
  clear hc0 CQ
  have hx := blk_cell X3.out
  by_cases hdd : d.dead = true
  · have FIN : Hid (∀ W, Below w.heap.size w W → ROpenP q n lg (d.openW first) w (.returned (.tuple #[.pointer none, .int .i64 74])) W) := fun W h => ropenP_none (by unfold Dk.openW; rw [if_neg C0.out, ← HNd.out, if_neg (fun k => k K1.out), if_pos hdd]) h
    rw [hdd] at hc2
    clear hdd
    go_wp2_with fail
    go_ret2
    exact FIN.out _ B3.out
  have hdf : d.dead = false := by simpa using hdd
  have HDF := Lib.hid hdf
  rw [hdf] at hc2
  clear hdd hdf
  have S2 := Lib.hid (secs_size OK.out)
  have SL : Hid (d.secs.length = lg) := (secs_length d).trans HLG.out.symm
  have TP := Lib.hid (fun v W k => ref21_Top v d.secs (by rw [SL.out]; omega) S2.out W k)
  obtain ⟨t, ht⟩ : ∃ t, t = topW d.secs := ⟨_, rfl⟩
  have tb := topW_bd S2.out
  rw [← ht] at TP tb
  have NX : Hid (nextW first d.secs = max (first - 1) t + 1) := by show _ = _; rw [ht]; exact topW_is S2.out (by have := C0.out; omega)
  have v1 : IntKind.u32.wrap (first - 1) = first - 1 := by rw [IntKind.wrap_u32]; have := C0.out; omega
  clear ht
  go_wp2_with fail
  refine (SE.out _ (HD.out.below B3.out)).mono ?_; rintro e w4 ⟨v, rfl, hv, hb⟩
  have V4 := Lib.hid hv
  have B4 := Lib.hid (bstep B3.out hb)
  have X4 := Lib.hid (blk_below X3.out hb)
  obtain ⟨pv, cv, rfl, hcv⟩ := hv.form
  rw [SL.out] at hcv V4 ⊢
  clear hv hb hx hc2 X3 B3 SE
  go_wp2_with fail
  refine (TP.out _ _ V4.out).mono ?_; rintro e w5 ⟨rfl, hb⟩
  have V5 := Lib.hid (V4.out.below hb)
  have B5 := Lib.hid (bstep B4.out hb)
  have X5 := Lib.hid (blk_below X4.out hb)
  clear hb V4 B4 X4 TP
  have v2 : IntKind.u32.wrap (max (first - 1) t + 1) = max (first - 1) t + 1 := by rw [IntKind.wrap_u32]; have := tb.2; omega
  obtain ⟨N, hN⟩ : ∃ N, N = max (first - 1) t + 1 := ⟨_, rfl⟩
  have N1 : Hid (1 ≤ N ∧ N ≤ 4294967295) := by show _ ∧ _; have := tb.1; have := tb.2; have := C0.out; omega
  have NF : Hid (first ≤ N) := by show _ ≤ _; omega
  have NE : Hid (nextW first d.secs = N) := by show _ = _; rw [NX.out, hN]
  have HNN := Lib.hid hN
  clear NX hN
  go_upto_region 10 with (fail)
  rw [← HNN.out]
  clear v2 HNN tb
  obtain ⟨n1', n2'⟩ := N1.out
  have nz : (N == 0) = false := by rw [beq_eq_false_iff_ne]; omega
  by_cases hmost : 2147483648 < N
  · have FIN : Hid (∀ W, Below w.heap.size w W → ROpenP q n lg (d.openW first) w (.returned (.tuple #[.pointer none, .int .i64 73])) W) := fun W h => ropenP_none (by unfold Dk.openW; rw [if_neg C0.out, ← HNd.out, if_neg (fun k => k K1.out), if_neg (by rw [HDF.out]; decide), if_pos (by rw [NE.out]; exact hmost)]) h
    clear n1' n2' nz
    go_wp2_with fail
    go_ret2
    exact FIN.out _ B5.out
  have hx := blk_cell X5.out
  go_upto_region 13 with (fail)
  obtain ⟨w6, hw6⟩ : ∃ z, z = w5.alloc (.cells (rlCells q n lg (.slice none 0 0) ⟨[], N, 0, false⟩) 142) := ⟨_, rfl⟩
  have hw6' : w6 = w5.alloc (.cells #[.pointer (some ⟨q, 0, none⟩), .slice none 0 0, .int .u32 N, .int .i64 2, .int .i64 (lg : Int), .int .i64 (2 + (lg : Int)), .int .i64 (n - 2 - (lg : Int)), .int .i64 0, .bool false] 142) := hw6
  have B6 : Hid (Below w.heap.size w w6) := by show Below _ _ _; rw [hw6]; exact bstep B5.out (below_a1 _ _)
  have X6 : Hid (w6.heap[z]? = some (.cells #[.int .i64 2, .int .i64 (lg : Int), .int .i64 (2 + (lg : Int)), .int .i64 (n - 2 - (lg : Int))] 136 (0, 0))) := by show _ = _; rw [hw6]; exact blk_below X5.out (below_a1 _ _)
  have P6 : Hid (w6.heap[w5.heap.size]? = some (.cells (rlCells q n lg (.slice none 0 0) ⟨[], N, 0, false⟩) 142 (0, 0))) := by show _ = _; rw [hw6]; exact blk_new _ _
  have V6 : Hid (SlStrs w6 (.slice pv lg cv) d.secs) := by show SlStrs _ _ _; rw [hw6]; exact V5.out.below (below_a1 _ _)
  obtain ⟨y, hy⟩ : ∃ p, p = w5.heap.size := ⟨_, rfl⟩
  have yB : Hid (w.heap.size ≤ y) := by show _ ≤ _; rw [hy]; exact B5.out.size
  have zy : Hid (z ≠ y) := by show _ ≠ _; have := blk_lt X5.out; omega
  obtain ⟨G, go, rfl, HS0, GY⟩ : ∃ G go, pv = some ⟨G, go, none⟩ ∧ StrsAt w6 G go d.secs ∧ G ≠ y := by
    have hv := V5.out
    rcases hv with ⟨_, h⟩ | ⟨G, off, cap, e, hcp, h⟩
    · have := SL.out; rw [h] at this; simp at this; omega
    · have h2 := h.lt (fun e => by have := SL.out; rw [e] at this; simp at this; omega)
      injection e with e _ _
      have h6 : StrsAt w6 G off d.secs := by rw [hw6]; exact h.below (below_a1 _ _)
      exact ⟨G, off, e, h6, by omega⟩
  rw [← hy] at P6 ⊢
  rw [← hw6']
  have S6 := Lib.hid HS0
  have GYH := Lib.hid GY
  clear hw6 hw6' hy HS0 GY V6 V5 X5 B5 hx
  have hx := blk_cell X6.out
  have FR := Lib.hid (fun v L hL W k => ref18_Read v L hL W k)
  obtain ⟨i0, ih, i1, i2, i3⟩ := info_parts Tryz.info9
  have NM : Hid (N ≤ 2147483649) := by show _ ≤ _; omega
  go_wp2_with fail
  go_loopw [11, 12] (fun lv c wr => ∃ (i u : Nat) (m : Int) (R : List ByteArray) (rv : Value), c = .int .i64 i ∧ lv = .int .u32 (m - 1) ∧ i ≤ u ∧ u ≤ lg ∧ R.length ≤ u ∧ 1 ≤ m ∧ m ≤ 4294967295 ∧ scanW d.secs lg first 0 = (R ++ (scanW d.secs lg m u).1, (scanW d.secs lg m u).2) ∧ wr.ownsRow w.heap.size 9 1 rv R.length (R.map Value.string) ∧ rv.ownBlock ≠ some y ∧ rv.ownBlock ≠ some z ∧ rv.ownBlock ≠ some G ∧ StrsAt wr G go d.secs ∧ wr.heap[y]? = some (.cells (rlCells q n lg rv ⟨R, N, u, false⟩) 142 (0, 0)) ∧ wr.heap[z]? = some (.cells #[.int .i64 2, .int .i64 (lg : Int), .int .i64 (2 + (lg : Int)), .int .i64 (n - 2 - (lg : Int))] 136 (0, 0)) ∧ Below w.heap.size w wr) (fun _ c _ => lg + 1 - (intOf c).toNat)
  case atStart => exact ⟨0, 0, first, [], .slice none 0 0, rfl, rfl, Nat.zero_le _, Nat.zero_le _, Nat.zero_le _, by have := C0.out; omega, by have := C0.out; omega, rfl, ⟨rfl, .inl ⟨rfl, rfl⟩⟩, (fun e => by cases e), (fun e => by cases e), (fun e => by cases e), S6.out, P6.out, X6.out, B6.out⟩
  case round =>
    clear S6 P6 X6 B6 hx
    obtain ⟨i, u, m, R, rv, rfl, rfl, hiu, hul, hRu, m0, m1, hSC, hRow, hry, hrz, hrG, hS, hP, hX, hB⟩ := hrel
    have SC := Lib.hid hSC; have HR := Lib.hid hRow; have RY := Lib.hid hry; have RZ := Lib.hid hrz; have RG := Lib.hid hrG; have HS := Lib.hid hS; have HP := Lib.hid hP; have HX := Lib.hid hX; have HB := Lib.hid hB
    clear hSC hRow hry hrz hrG hS hP hX hB
    have hpc := blk_cell HP.out
    have hpf := blk_frozen HP.out
    have hxc := blk_cell HX.out
    unfold rlCells at hpc
    have hil : (i : Int) ≤ (lg : Int) := by omega
    have ii : IntKind.i64.wrap ((i : Int) + 1) = (i : Int) + 1 := IntWalk.i64_in _ (by omega)
    have FIN : Hid (scanW d.secs lg m u = ([], u) → ∀ W, Below wr.heap.size wr W → ROpenP q n lg (d.openW first) w (.returned (.tuple #[.pointer (some ⟨y, 0, none⟩), .int .i64 0])) W) := fun hz W h => by
      have hR2 := row_bel HR.out h
      refine ropenP_some (x := ⟨R, N, u, false⟩) (vr := rv) ?_ (bstep HB.out h) yB.out ⟨blk_below HP.out h, SlStrs.of_own hR2, by show 1 ≤ N; exact N1.out.1, NM.out, hul, hRu, l1⟩ (fun b off mm c e _ => ?_)
      · have e := SC.out
        rw [hz] at e
        unfold Dk.openW
        rw [if_neg C0.out, ← HNd.out, if_neg (fun k => k K1.out), if_neg (by rw [HDF.out]; decide), if_neg (by rw [NE.out]; have := NM.out; omega), ← HLG.out, e, NE.out]
        simp
      · subst e
        exact ⟨(hR2.lt b rfl).1, fun e => RY.out (by rw [← e]; rfl)⟩
    obtain ⟨V, hVr, hV⟩ := strs_from SL.out.symm (.inr ⟨G, go, cv, by rw [SL.out], by rw [SL.out]; exact hcv, HS.out⟩ : SlStrs wr (.slice (some ⟨G, go, none⟩) lg cv) d.secs) hul
    have F1 := Lib.hid (FR.out V (d.secs.drop u) (by rw [List.length_drop, SL.out]; omega) wr hV)
    clear hV
    cases hr : readF (LL (d.secs.drop u)) with
    | none =>
      rw [hr, gotV_none] at F1
      have Z : Hid (scanW d.secs lg m u = ([], u)) := scanW_none hr
      clear hr
      go_wp2_with fail
      refine F1.out.mono ?_; rintro e w7 ⟨rfl, hb⟩
      have BL := Lib.hid hb
      clear hb hpc hpf hxc
      go_wp2_with fail
      go_ret2
      exact FIN.out Z.out _ (bstep BL.out (below_a1 _ _))
    | some r3 =>
      obtain ⟨s, nn, k⟩ := r3
      rw [hr, show gotV (some (s, nn, k)) = .agg #[.string (ofL s), .int .u32 nn, .int .i64 (k : Int), .bool true] from rfl] at F1
      have HRF := Lib.hid hr
      have hk := readF_pos hr
      rw [LL_length, List.length_drop, SL.out] at hk
      have hnb := readF_num hr
      clear hr
      by_cases h1 : nn < m ∨ 2147483648 < nn
      · have Z : Hid (scanW d.secs lg m u = ([], u)) := scanW_stop HRF.out h1
        by_cases h2 : nn ≤ m - 1
        · clear h1
          go_wp2_with fail
          refine F1.out.mono ?_; rintro e w7 ⟨rfl, hb⟩
          have BL := Lib.hid hb
          clear hb hpc hpf hxc
          go_wp2_with fail
          go_ret2
          exact FIN.out Z.out _ (bstep BL.out (below_a1 _ _))
        · have h4 : 2147483648 < nn := by omega
          clear h1
          go_wp2_with fail
          refine F1.out.mono ?_; rintro e w7 ⟨rfl, hb⟩
          have BL := Lib.hid hb
          clear hb hpc hpf hxc
          go_wp2_with fail
          go_ret2
          exact FIN.out Z.out _ (bstep BL.out (below_a1 _ _))
      · have h2 : ¬ nn ≤ m - 1 := by omega
        have h3 : ¬ 2147483648 < nn := fun h => h1 (.inr h)
        have ST := Lib.hid (scanW_step HRF.out h1 (f := lg) (by rw [SL.out]; omega))
        have z3 : IntKind.i64.wrap ((u : Int) + (k : Int)) = (u : Int) + (k : Int) := IntWalk.i64_in _ (by omega)
        clear h1 FIN
        go_wp2_with fail
        refine F1.out.mono ?_; rintro e w7 ⟨rfl, hb⟩
        have BL := Lib.hid hb
        clear hb hpc hpf hxc hVr
        go_upto_region 18 with (fail)
        obtain ⟨w8, hw8⟩ : ∃ z, z = w7.alloc (.cells #[.string (ofL s), .int .u32 nn, .int .i64 (k : Int), .bool true] 144) := ⟨_, rfl⟩
        have B8' : Below wr.heap.size wr w8 := by rw [hw8]; exact bstep BL.out (below_a1 _ _)
        have X8 : Hid (w8.heap[w7.heap.size]? = some (.cells #[.string (ofL s), .int .u32 nn, .int .i64 (k : Int), .bool true] 144 (0, 0))) := by show _ = _; rw [hw8]; exact blk_new _ _
        obtain ⟨X, hX⟩ : ∃ X, X = w7.heap.size := ⟨_, rfl⟩
        have XB : Hid (wr.heap.size ≤ X) := by show _ ≤ _; rw [hX]; exact BL.out.size
        rw [← hX] at X8 ⊢
        rw [← hw8]
        have P8 := Lib.hid (blk_below HP.out B8')
        have L8 := Lib.hid (blk_below HX.out B8')
        have R8 := Lib.hid (row_bel HR.out B8')
        have S8 := Lib.hid (HS.out.below B8')
        have B8 := Lib.hid (bstep HB.out B8')
        have RX : Hid (rv.ownBlock ≠ some X) := fun e => by have h1 := (HR.out.lt X e).2; have h2 := XB.out; omega
        have XY : Hid (X ≠ y ∧ X ≠ z ∧ X ≠ G) := by
          have h1 := blk_lt HP.out; have h2 := blk_lt HX.out; have h3 := XB.out
          have h4 := HS.out.lt (fun e => by have := SL.out; rw [e] at this; simp at this; omega)
          exact ⟨by omega, by omega, by omega⟩
        clear hw8 hX B8' BL HP HX HR HS HB
        have hxc := blk_cell X8.out
        go_upto_region 19 with (fail)
        have D0 : Hid (Below w8.heap.size w8 w8.drew) := ⟨rfl, rfl, rfl, Nat.le_refl _, fun _ _ => rfl⟩
        have DA : Hid (Below w8.heap.size w8 (w8.alloc (.cells #[.string (ofL s)] 9)).drew) := bstep (below_alloc1 _ _) ⟨rfl, rfl, rfl, Nat.le_refl _, fun _ _ => rfl⟩
        have A1 : Hid ((w8.alloc (.cells #[.string (ofL s)] 9)).drew.ownsRow w.heap.size 9 1 rv R.length (R.map Value.string)) := row_bel R8.out DA.out
        have A2 : Hid ((w8.alloc (.cells #[.string (ofL s)] 9)).drew.heap[y]? = some (.cells (rlCells q n lg rv ⟨R, N, u, false⟩) 142 (0, 0))) := blk_below P8.out DA.out
        have A3 : Hid ((w8.alloc (.cells #[.string (ofL s)] 9)).drew.heap[z]? = some (.cells #[.int .i64 2, .int .i64 (lg : Int), .int .i64 (2 + (lg : Int)), .int .i64 (n - 2 - (lg : Int))] 136 (0, 0))) := blk_below L8.out DA.out
        have A4 : Hid ((w8.alloc (.cells #[.string (ofL s)] 9)).drew.heap[X]? = some (.cells #[.string (ofL s), .int .u32 nn, .int .i64 (k : Int), .bool true] 144 (0, 0))) := blk_below X8.out DA.out
        have A5 := Lib.hid (S8.out.below DA.out)
        have A6 := Lib.hid (bstep B8.out DA.out)
        have hyc : ∀ o, w8.drew.cell? ⟨y, o, none⟩ = (rlCells q n lg rv ⟨R, N, u, false⟩)[o]? := blk_cell P8.out
        have hxd : ∀ o, w8.drew.cell? ⟨X, o, none⟩ = (#[.string (ofL s), .int .u32 nn, .int .i64 (k : Int), .bool true] : Array Value)[o]? := blk_cell X8.out
        have hya := blk_cell A2.out
        have hyf := blk_frozen A2.out
        have hxa := blk_cell A4.out
        unfold rlCells at hyc hya
        go_region_law
          (first | (refine step_append_lies _ (by rfl) _ _ _ (by rfl) w.heap.size 9 i0 (.string ⟨#[]⟩) 1 16 Tryz.underlying34 ih i1 i2 i3 (by rfl) (by decide) rv R.length (R.map Value.string) (by rfl) A1.out _ 1 _ [.string (ofL s)] (by rfl) rfl new_str (by simp [Value.oneCell']) (by decide) (by simp only [maxLen]; omega) (by omega) (by have := A6.out.size; omega) _ rfl ?_; intro g c w9 k1 k2 k3 k4; have K1 := Lib.hid k1; have K2 := Lib.hid k2; have K3 := Lib.hid k3; have P9 : Hid (w9.heap[y]? = some (.cells (rlCells q n lg rv ⟨R, N, u, false⟩) 142 (0, 0))) := (k2.block y (blk_lt A2.out) (fun e => RY.out e.symm)).trans A2.out; have hy9 := blk_cell P9.out; have hf9 := blk_frozen P9.out; unfold rlCells at hy9; clear k1 k2 k3 k4))
        all_goals
          have GN : Hid (g ≠ y ∧ g ≠ z ∧ g ≠ G ∧ g ≠ X) := by
            have l1 := blk_lt A2.out; have l2 := blk_lt A3.out; have l3 := blk_lt A4.out
            have l4 := A5.out.lt (fun e => by have := SL.out; rw [e] at this; simp at this; omega)
            rcases K3.out with h | h
            · exact ⟨fun e => RY.out (by rw [h, e]), fun e => RZ.out (by rw [h, e]), fun e => RG.out (by rw [h, e]), fun e => RX.out (by rw [h, e])⟩
            · exact ⟨by omega, by omega, by omega, by omega⟩
          have FG := Lib.hid ((Fr.refl (fun b => rv.ownBlock = some b) (w8.alloc (.cells #[.string (ofL s)] 9)).drew).grown K2.out (fun q hq => .inl hq))
          have L9 := Lib.hid (blk_fr A3.out FG.out RZ.out)
          have X9 := Lib.hid (blk_fr A4.out FG.out RX.out)
          have S9 := Lib.hid (A5.out.fr FG.out (fun _ => RG.out))
          have B9 := Lib.hid (bel_row A6.out (by have := A6.out.size; omega) A1.out K2.out)
          have Pz : Hid ((w9.setCell ⟨y, 1, none⟩ (.slice (some ⟨g, 0, none⟩) (R.length + 1) c)).heap[y]? = some (.cells (rlCells q n lg (.slice (some ⟨g, 0, none⟩) (R.length + 1) c) ⟨R ++ [ofL s], N, u, false⟩) 142 (0, 0))) := by show _ = _; rw [blk_set P9.out]; simp [rlCells]
          have fy := fr_set (S := fun b => b = y) (w := w9) rfl 1 (.slice (some ⟨g, 0, none⟩) (R.length + 1) c)
          have Lz := Lib.hid (blk_fr L9.out fy zy.out)
          have Xz := Lib.hid (blk_fr X9.out fy XY.out.1)
          have Sz := Lib.hid (S9.out.fr fy (fun _ => GYH.out))
          have Rz := Lib.hid (row_fr K1.out fy (fun b hb e => GN.out.1 (by injection hb with hb; exact hb.trans e)))
          have Bz := Lib.hid (B9.out.setCell (p := ⟨y, 1, none⟩) yB.out (.slice (some ⟨g, 0, none⟩) (R.length + 1) c))
          obtain ⟨z9, hz9⟩ : ∃ z, z = w9.setCell ⟨y, 1, none⟩ (.slice (some ⟨g, 0, none⟩) (R.length + 1) c) := ⟨_, rfl⟩
          rw [← hz9] at Pz Lz Xz Sz Rz Bz ⊢
          clear hz9 fy hyc hya hyf hxa hxd hy9 hf9 L9 X9 S9 B9 P9 FG K1 K2 K3 A1 A2 A3 A4 A5 A6 DA D0 P8 L8 X8 S8 R8 B8 hxc
          go_upto_region 20 with (fail)
          have hyc : ∀ o, z9.drew.cell? ⟨y, o, none⟩ = (rlCells q n lg (.slice (some ⟨g, 0, none⟩) (R.length + 1) c) ⟨R ++ [ofL s], N, u, false⟩)[o]? := blk_cell Pz.out
          have hyf : ∀ o, z9.drew.frozen? ⟨y, o, none⟩ = false := blk_frozen Pz.out
          have hxd : ∀ o, z9.drew.cell? ⟨X, o, none⟩ = (#[.string (ofL s), .int .u32 nn, .int .i64 (k : Int), .bool true] : Array Value)[o]? := blk_cell Xz.out
          unfold rlCells at hyc
          go_region
          all_goals
            have fy := (fr_set (S := fun b => b = y) (w := z9) rfl 7 (.int .i64 ((u : Int) + (k : Int)))).trans (Fr.of_below (S := fun b => b = y) (below_d1 _))
            have Pq : Hid ((z9.setCell ⟨y, 7, none⟩ (.int .i64 ((u : Int) + (k : Int)))).drew.heap[y]? = some (.cells (rlCells q n lg (.slice (some ⟨g, 0, none⟩) (R.length + 1) c) ⟨R ++ [ofL s], N, u + k, false⟩) 142 (0, 0))) := by show (z9.setCell ⟨y, 7, none⟩ (.int .i64 ((u : Int) + (k : Int)))).heap[y]? = _; rw [blk_set Pz.out]; simp [rlCells]
            have Lq := Lib.hid (blk_fr Lz.out fy zy.out)
            have Xq := Lib.hid (blk_fr Xz.out fy XY.out.1)
            have Sq := Lib.hid (Sz.out.fr fy (fun _ => GYH.out))
            have Rq := Lib.hid (row_fr Rz.out fy (fun b hb e => GN.out.1 (by injection hb with hb; exact hb.trans e)))
            have Bq := Lib.hid ((Bz.out.setCell (p := ⟨y, 7, none⟩) yB.out (.int .i64 ((u : Int) + (k : Int)))).drew)
            have SC8 : Hid (scanW d.secs lg first 0 = ((R ++ [ofL s]) ++ (scanW d.secs lg (nn + 1) (u + k)).1, (scanW d.secs lg (nn + 1) (u + k)).2)) := by show _ = _; rw [SC.out, ST.out]; simp
            obtain ⟨zq, hzq⟩ : ∃ z, z = (z9.setCell ⟨y, 7, none⟩ (.int .i64 ((u : Int) + (k : Int)))).drew := ⟨_, rfl⟩
            rw [← hzq] at Pq Lq Xq Sq Rq Bq ⊢
            clear hzq fy hyc hyf hxd Pz Lz Xz Sz Rz Bz
            have hxd := blk_cell Xq.out
            go_wp2_with fail
            go_roundw
            case rel => exact ⟨i + 1, u + k, nn + 1, R ++ [ofL s], _, by go_num, by rw [show nn + 1 - 1 = nn by omega], by omega, by omega, by simp; omega, by omega, by omega, SC8.out, by rw [show (R ++ [ofL s]).length = R.length + 1 by simp, List.map_append]; exact Rq.out, fun e => GN.out.1 (by injection e), fun e => GN.out.2.1 (by injection e), fun e => GN.out.2.2.1 (by injection e), Sq.out, Pq.out, Lq.out, Bq.out⟩
            case measure => simp [intOf]; omega
end Go.Proofs.YtdbiebnnogjccaaGreatDoor
