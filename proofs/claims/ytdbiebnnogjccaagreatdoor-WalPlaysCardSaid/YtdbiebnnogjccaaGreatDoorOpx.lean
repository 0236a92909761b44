/- What the log rows' condition on the laid variables gives a walk; a world that meets it. -/
import Derived.Test.YtdbiebnnogjccaaGreatDoorLaidH
import Derived.Test.YtdbiebnnogjccaaGreatDoorFq
import Derived.Test.YtdbiebnnogjccaaGreatDoorWa
import Derived.ProofKit
import Derived.OpenShut
import Derived.Below
import Derived.Carry
import Derived.Test.YtdbiebnnogjccaaGreatDoorDu
namespace Go.Proofs.YtdbiebnnogjccaaGreatDoor
open Go.ChangeShapes Go.WideShapes Go.RowKit
theorem laidMet_skip {P : Program} {x y : String × DataW Unit} {r : List (String × DataW Unit)} {W : World} (h : laidMet P (x :: y :: r) W) : laidMet P (x :: r) W := by
  obtain ⟨ps, hl, hnd, hrow⟩ := h
  obtain ⟨n, d⟩ := x
  obtain ⟨n2, d2⟩ := y
  obtain ⟨g, t, cs, fuel, p, q, e1, e2, e3, e4, ⟨g', t', cs', fuel', p', q', f1, f2, f3, f4, f5, rfl⟩, rfl⟩ := hl
  refine ⟨_, ⟨g, t, cs, fuel, p, q', e1, e2, e3, e4, f5, rfl⟩, ?_, fun b off hb => hrow b off ?_⟩
  · obtain ⟨h1, h2, h3⟩ := List.nodup_append.1 hnd
    obtain ⟨_, h5, _⟩ := List.nodup_append.1 h2
    exact List.nodup_append.2 ⟨h1, h5, fun a ha b hb => h3 a ha b (List.mem_append_right _ hb)⟩
  · rcases List.mem_append.1 hb with h | h
    · exact List.mem_append_left _ h
    · exact List.mem_append_right _ (List.mem_append_right _ h)
theorem wl_gD : Tryz.prog.globalNamed "pannier/wal.errDead" = some 5 := by kernel_rfl
theorem wl_tD : (Tryz.prog.globals[5]?).map (·.type) = some 122 := by kernel_rfl
theorem wl_gL : Tryz.prog.globalNamed "pannier/wal.errLong" = some 6 := by kernel_rfl
theorem wl_tL : (Tryz.prog.globals[6]?).map (·.type) = some 122 := by kernel_rfl
theorem wl_gF : Tryz.prog.globalNamed "pannier/wal.errFull" = some 7 := by kernel_rfl
theorem wl_tF : (Tryz.prog.globals[7]?).map (·.type) = some 122 := by kernel_rfl
/-- What the laid variables give a walk. -/
theorem wl_of_laid {W : World} (h : laidMetH Tryz.prog [("pannier/crc.table", Rows.laid_pannier_crc_table), ("unicode/utf8.acceptRanges", Rows.laid_unicode_utf8_acceptRanges), ("errors.errorType", Rows.laid_errors_errorType), ("pannier/disk.errDead", Rows.laid_pannier_disk_errDead), ("pannier/disk.errArg", Rows.laid_pannier_disk_errArg), ("pannier/frame.errTorn", Rows.laid_pannier_frame_errTorn), ("pannier/frame.errOther", Rows.laid_pannier_frame_errOther), ("pannier/frame.errSum", Rows.laid_pannier_frame_errSum), ("pannier/wal.errDead", Rows.laid_pannier_wal_errDead), ("pannier/wal.errLong", Rows.laid_pannier_wal_errLong), ("pannier/wal.errFull", Rows.laid_pannier_wal_errFull), ("unicode/utf8.first", Rows.laid_unicode_utf8_first)] W) : ∃ a0 a1 a2 aD aA bD bL bF, WlW W a0 a1 a2 aD aA bD bL bF := by
  have h' : laidMet Tryz.prog [("pannier/crc.table", Rows.laid_pannier_crc_table), ("unicode/utf8.acceptRanges", Rows.laid_unicode_utf8_acceptRanges), ("pannier/disk.errDead", Rows.laid_pannier_disk_errDead), ("pannier/disk.errArg", Rows.laid_pannier_disk_errArg), ("pannier/frame.errTorn", Rows.laid_pannier_frame_errTorn), ("pannier/frame.errOther", Rows.laid_pannier_frame_errOther), ("pannier/frame.errSum", Rows.laid_pannier_frame_errSum), ("pannier/wal.errDead", Rows.laid_pannier_wal_errDead), ("pannier/wal.errLong", Rows.laid_pannier_wal_errLong), ("pannier/wal.errFull", Rows.laid_pannier_wal_errFull), ("unicode/utf8.first", Rows.laid_unicode_utf8_first)] W ∧ handlesMet Tryz.prog [("errors.errorType", Rows.laid_errors_errorType)] W := h
  obtain ⟨h1, h2⟩ := h'
  have ht := tbl_of_met (laidMet_one h1)
  have h3 := laidMet_tail (laidMet_tail h1)
  obtain ⟨aD, aA, hd⟩ := dk_of_met h3
  have h4 := laidMet_tail (laidMet_tail h3)
  have h5 := laidMet_tail h4
  have he : EtIs W := et_of_laid (show laidMetH Tryz.prog [("errors.errorType", Rows.laid_errors_errorType)] W from ⟨⟨[], rfl, List.nodup_nil, fun _ _ h => absurd h (by simp)⟩, h2⟩)
  obtain ⟨a0, a1, _, _, c0, c1, t0, t1, hv0, hv1, _, _, _, _, _, _, _, hb0, hb1⟩ := laid_sentinels2 h4 gl_errTorn gt_errTorn gl_errOther gt_errOther Tryz.underlying122 es_row Tryz.underlying308 Tryz.underlying326 rfl rfl Tryz.underlying9 es_cells st_cells
  obtain ⟨b1, a2, _, _, _, c2, _, t2, hv1', hv2, _, _, _, _, _, _, _, _, hb2⟩ := laid_sentinels2 h5 gl_errOther gt_errOther gl_errSum gt_errSum Tryz.underlying122 es_row Tryz.underlying308 Tryz.underlying326 rfl rfl Tryz.underlying9 es_cells st_cells
  have h7 := laidMet_tail (laidMet_tail h5)
  obtain ⟨x0, x1, _, _, d0, d1, s0, s1, hw0, hw1, _, _, _, _, _, _, ne01, hd0, hd1⟩ := laid_sentinels2 h7 wl_gD wl_tD wl_gL wl_tL Tryz.underlying122 es_row Tryz.underlying308 Tryz.underlying326 rfl rfl Tryz.underlying9 es_cells st_cells
  obtain ⟨y1, x2, _, _, _, d2, _, s2, hw1', hw2, _, _, _, _, _, _, ne12, _, hd2⟩ := laid_sentinels2 (laidMet_tail h7) wl_gL wl_tL wl_gF wl_tF Tryz.underlying122 es_row Tryz.underlying308 Tryz.underlying326 rfl rfl Tryz.underlying9 es_cells st_cells
  obtain ⟨y0, y2, _, _, _, _, _, _, hw0', hw2', _, _, _, _, _, _, ne02, _, _⟩ := laid_sentinels2 (laidMet_skip h7) wl_gD wl_tD wl_gF wl_tF Tryz.underlying122 es_row Tryz.underlying308 Tryz.underlying326 rfl rfl Tryz.underlying9 es_cells st_cells
  have e0 : y0 = x0 := by rw [hw0] at hw0'; simpa using hw0'.symm
  have e1 : y1 = x1 := by rw [hw1] at hw1'; simpa using hw1'.symm
  have e2 : y2 = x2 := by rw [hw2] at hw2'; simpa using hw2'.symm
  subst e0 e1 e2
  exact ⟨a0, a1, a2, aD, aA, y0, y1, y2, ⟨⟨he, ht, by simpa using World.var?_cell gl_errTorn hv0 0, by simpa using World.var?_cell gl_errOther hv1 0, by simpa using World.var?_cell gl_errSum hv2 0, ⟨c0, t0, hb0⟩, ⟨c1, t1, hb1⟩, ⟨c2, t2, hb2⟩⟩, hd⟩, by simpa using World.var?_cell wl_gD hw0 0, by simpa using World.var?_cell wl_gL hw1 0, by simpa using World.var?_cell wl_gF hw2 0, ⟨d0, s0, hd0⟩, ⟨d1, s1, hd1⟩, ⟨d2, s2, hd2⟩, ne01, ne02, ne12⟩
noncomputable def lowW : Nat := (World.holding Tryz.prog default ⟨#[], #[], []⟩).heap.size
/-- A world that meets the condition. -/
noncomputable def laidWorldW (os : Os) : World :=
  let w0 := World.holding Tryz.prog os ⟨#[.cells #[.string ⟨#[105, 116, 32, 99, 114, 97, 115, 104, 101, 100]⟩] 326, .cells #[.string ⟨#[110, 111, 32, 115, 117, 99, 104, 32, 115, 101, 99, 116, 111, 114]⟩] 326, .cells #[.string ⟨#[110, 111, 116, 32, 119, 104, 111, 108, 101]⟩] 326, .cells #[.string ⟨#[111, 102, 32, 97, 110, 111, 116, 104, 101, 114, 32, 114, 101, 99, 111, 114, 100]⟩] 326, .cells #[.string ⟨#[97, 32, 119, 114, 111, 110, 103, 32, 115, 117, 109]⟩] 326, .cells #[.string ⟨#[97, 32, 119, 114, 105, 116, 101, 32, 102, 97, 105, 108, 101, 100]⟩] 326, .cells #[.string ⟨#[116, 111, 111, 32, 108, 111, 110, 103]⟩] 326, .cells #[.string ⟨#[110, 111, 32, 114, 111, 111, 109]⟩] 326], #[], []⟩
  { w0 with heap := (fun h => h.modify 14 fun
      | .cells _ t frozen => .cells #[.int .u32 0, .int .u32 498536548, .int .u32 997073096, .int .u32 651767980, .int .u32 1994146192, .int .u32 1802195444, .int .u32 1303535960, .int .u32 1342533948, .int .u32 3988292384, .int .u32 4027552580, .int .u32 3604390888, .int .u32 3412177804, .int .u32 2607071920, .int .u32 2262029012, .int .u32 2685067896, .int .u32 3183342108] t frozen
      | o => o) ((fun h => h.modify 17 fun
      | .cells _ t frozen => .cells #[.int .u8 128, .int .u8 191, .int .u8 160, .int .u8 191, .int .u8 128, .int .u8 159, .int .u8 144, .int .u8 191, .int .u8 128, .int .u8 143, .int .u8 0, .int .u8 0, .int .u8 0, .int .u8 0, .int .u8 0, .int .u8 0, .int .u8 0, .int .u8 0, .int .u8 0, .int .u8 0, .int .u8 0, .int .u8 0, .int .u8 0, .int .u8 0, .int .u8 0, .int .u8 0, .int .u8 0, .int .u8 0, .int .u8 0, .int .u8 0, .int .u8 0, .int .u8 0] t frozen
      | o => o) ((fun h => h.modify 13 fun
      | .cells _ t frozen => .cells #[.iface 238 (.agg #[.pointer (some ⟨18, 122, none⟩)])] t frozen
      | o => o) ((fun h => h.modify 16 fun
      | .cells _ t frozen => .cells (Go.Pinned.utf8FirstZ.map fun n : Nat => Value.int .u8 (n : Int)).toArray t frozen
      | o => o) ((fun h => h.modify 8 fun
      | .cells _ t frozen => .cells #[.iface 308 (.pointer (some ⟨lowW + 0, 0, none⟩))] t frozen
      | o => o) ((fun h => h.modify 0 fun
      | .cells _ t frozen => .cells #[.iface 308 (.pointer (some ⟨lowW + 1, 0, none⟩))] t frozen
      | o => o) ((fun h => h.modify 2 fun
      | .cells _ t frozen => .cells #[.iface 308 (.pointer (some ⟨lowW + 2, 0, none⟩))] t frozen
      | o => o) ((fun h => h.modify 3 fun
      | .cells _ t frozen => .cells #[.iface 308 (.pointer (some ⟨lowW + 3, 0, none⟩))] t frozen
      | o => o) ((fun h => h.modify 4 fun
      | .cells _ t frozen => .cells #[.iface 308 (.pointer (some ⟨lowW + 4, 0, none⟩))] t frozen
      | o => o) ((fun h => h.modify 5 fun
      | .cells _ t frozen => .cells #[.iface 308 (.pointer (some ⟨lowW + 5, 0, none⟩))] t frozen
      | o => o) ((fun h => h.modify 6 fun
      | .cells _ t frozen => .cells #[.iface 308 (.pointer (some ⟨lowW + 6, 0, none⟩))] t frozen
      | o => o) ((fun h => h.modify 7 fun
      | .cells _ t frozen => .cells #[.iface 308 (.pointer (some ⟨lowW + 7, 0, none⟩))] t frozen
      | o => o) w0.heap))))))))))) }
theorem laidWorldW_met (os : Os) (args : Array Value) : laidMetH Tryz.prog [("pannier/crc.table", Rows.laid_pannier_crc_table), ("unicode/utf8.acceptRanges", Rows.laid_unicode_utf8_acceptRanges), ("errors.errorType", Rows.laid_errors_errorType), ("pannier/disk.errDead", Rows.laid_pannier_disk_errDead), ("pannier/disk.errArg", Rows.laid_pannier_disk_errArg), ("pannier/frame.errTorn", Rows.laid_pannier_frame_errTorn), ("pannier/frame.errOther", Rows.laid_pannier_frame_errOther), ("pannier/frame.errSum", Rows.laid_pannier_frame_errSum), ("pannier/wal.errDead", Rows.laid_pannier_wal_errDead), ("pannier/wal.errLong", Rows.laid_pannier_wal_errLong), ("pannier/wal.errFull", Rows.laid_pannier_wal_errFull), ("unicode/utf8.first", Rows.laid_unicode_utf8_first)] ((laidWorldW os).forCall (fun _ _ => 0) ⟨#[], args, []⟩).memory :=
  laidMetH_of_parts (laidMet_of_run' 20 (by kernel_rfl) (by kernel_rfl)) (by kernel_rfl)
end Go.Proofs.YtdbiebnnogjccaaGreatDoor

/- How an argument of the type [2]uint64 is opened. -/
namespace Go.Proofs.YtdbiebnnogjccaaGreatDoor
open Go.ChangeShapes Go.WideShapes Go.RowKit
theorem laidOutB_ok : laidOutB Tryz.prog = true := by kernel_rfl
theorem arr2_under : Tryz.prog.underlying 117 = some (.array 2 114) := by kernel_rfl
theorem arr2_cells : Tryz.prog.cellsOf 117 = 2 := by kernel_rfl
theorem u64_cells : Tryz.prog.cellsOf 114 = 1 := by kernel_rfl
theorem u64_bd {x : Int} (h : (Lit.int .u64 x).wf = true) : 0 ≤ x ∧ x < 18446744073709551616 := by
  simp [Lit.wf, IntKind.min, IntKind.max, IntKind.signed, IntKind.bits] at h; omega
section
variable {H : Type} {enc : TypeId × Value → H} {W : World} {base : Nat} {sp : Nat → Bool} {held : Bool}
set_option maxRecDepth 100000 in
theorem open_a2u64 {r : Reach} {b0 : Nat} {v : Value} {d : DataW H} {p : List MemPlace} (hv : Value.okWide Tryz.prog W r b0 117 v) (h : DataW.Trod enc Tryz.prog W base sp held 117 v d p) :
    ∃ x y : Int, v = .agg #[.int .u64 x, .int .u64 y] ∧ (Lit.int .u64 x).wf = true ∧ (Lit.int .u64 y).wf = true := by
  unfold Value.okWide at hv
  rw [arr2_under] at hv
  obtain ⟨cs, rfl, hsz, _⟩ := hv
  rw [arr2_cells] at hsz
  obtain ⟨c0, c1, rfl⟩ : ∃ c0 c1, cs = #[c0, c1] := by
    obtain ⟨l⟩ := cs
    match l, hsz with
    | [c0, c1], _ => exact ⟨c0, c1, rfl⟩
  obtain ⟨fuel, hf⟩ := h
  obtain ⟨xs, m, _, _, _, hl, hi⟩ := DataW.trod_array arr2_under hf
  have h0 := hi 0 (by decide)
  have h1 := hi 1 (by decide)
  rw [u64_cells] at h0 h1
  simp only [Value.cells, Nat.zero_mul, Nat.one_mul, List.drop_zero, List.take_succ_cons, List.take_zero, List.drop_succ_cons] at h0 h1
  rw [List.getElem?_eq_getElem (by omega)] at h0 h1
  obtain ⟨x, e0, _, wx⟩ := DataW.trod_int Tryz.underlying114 h0
  obtain ⟨y, e1, _, wy⟩ := DataW.trod_int Tryz.underlying114 h1
  simp at e0 e1
  exact ⟨x, y, by rw [e0, e1], wx, wy⟩
end
end Go.Proofs.YtdbiebnnogjccaaGreatDoor

/- How an argument of the type []pannierlaw21.Step is opened. -/
namespace Go.Proofs.YtdbiebnnogjccaaGreatDoor
open Go.ChangeShapes Go.WideShapes Go.RowKit
section
variable {H : Type} {enc : TypeId × Value → H} {W : World} {base : Nat} {sp : Nat → Bool} {held : Bool}
theorem od_stepW : Tryz.prog.cellsOf 53 = 4 := by kernel_rfl
set_option maxRecDepth 100000 in
/-- One step's cells. -/
theorem open_step4W {m : Nat} {cs : List Value} (hlen : cs.length = 4) {y : DataW H × List MemPlace} (h : DataW.trod enc Tryz.prog W base sp held m 53 cs = some y) :
    ∃ (x : Stp) (v : Value), cs = [.int .i64 x.k, .int .i64 x.n, .string x.s, v] ∧ SlKept W v x.l ∧ x.l.length ≤ 9223372036854775807 ∧ wf64 x.k ∧ wf64 x.n ∧ x.s.size ≤ 9223372036854775807 := by
  obtain ⟨ys, n2, _, _, _, hl2, hj⟩ := DataW.trod_struct Tryz.underlying53 h
  match cs, hlen, ys, hl2 with
  | [d0, d1, d2, d3], _, [z0, z1, z2, z3], _ =>
    have g0 := hj 0 _ rfl
    have g1 := hj 1 _ rfl
    have g2 := hj 2 _ rfl
    have g3 := hj 3 _ rfl
    simp [od_int, od_str, od_slk] at g0 g1 g2 g3
    obtain ⟨k, e0, _, w0⟩ := DataW.trod_int Tryz.underlying3 g0
    obtain ⟨n, e1, _, w1⟩ := DataW.trod_int Tryz.underlying3 g1
    obtain ⟨s, e2, _, hs⟩ := DataW.trod_string Tryz.underlying9 g2
    obtain ⟨l, hl, hll, _⟩ := open_kepts g3
    simp at e0 e1 e2
    subst e0 e1 e2
    exact ⟨⟨k, n, s, l⟩, d3, rfl, hl, hll, w0, w1, hs⟩
set_option maxRecDepth 100000 in
theorem open_stepsW {r : Reach} {b0 : Nat} {c : Value} {d : DataW H} {p : List MemPlace} (hv : Value.okWide Tryz.prog W r b0 43 c) (h : DataW.Trod enc Tryz.prog W base sp held 43 c d p) :
    ∃ L : List Stp, SlStps W c L ∧ L.length ≤ 9223372036854775807 ∧ ∀ x ∈ L, wf64 x.k ∧ wf64 x.n ∧ x.s.size ≤ 9223372036854775807 := by
  unfold Value.okWide at hv
  rw [Tryz.underlying43] at hv
  obtain ⟨fuel, h⟩ := h
  have e0 : c.cells.toList = [c] := by
    cases c with
    | agg cs => simp [Cell.okWide, Cell.ok, Tryz.underlying43] at hv
    | _ => rfl
  rw [e0] at h
  rcases DataW.trod_slice Tryz.underlying43 h with ⟨e1, _⟩ | ⟨a, len, cap, elems, rest, n, _, e1, _, _, hl, hm, hlen, hel, _, _⟩
  · have e1 : c = .slice none 0 0 := by simpa using e1
    exact ⟨[], .inl ⟨e1, rfl⟩, Nat.zero_le _, fun x hx => absurd hx (by simp)⟩
  · have e1 : c = .slice (some a) len cap := by simpa using e1
    subst e1
    have hs : a.spot = none := by
      have h' : Cell.ok Tryz.prog W r b0 43 (.slice (some a) len cap) := by
        have hv : Cell.okWide Tryz.prog W r b0 43 (.slice (some a) len cap) := hv
        unfold Cell.okWide at hv; rw [Tryz.underlying43] at hv; exact hv
      unfold Cell.ok at h'
      rw [Tryz.underlying43] at h'
      obtain ⟨_, _, _, hs, _⟩ := h'
      exact hs
    have each : ∀ i, i < len → ∃ x : Stp, (W.cell? ⟨a.block, a.off + i * 4, none⟩ = some (.int .i64 x.k) ∧ W.cell? ⟨a.block, a.off + i * 4 + 1, none⟩ = some (.int .i64 x.n) ∧ W.cell? ⟨a.block, a.off + i * 4 + 2, none⟩ = some (.string x.s) ∧ ∃ v, W.cell? ⟨a.block, a.off + i * 4 + 3, none⟩ = some v ∧ SlKept W v x.l) ∧ wf64 x.k ∧ wf64 x.n ∧ x.s.size ≤ 9223372036854775807 := by
      intro i hi
      have hx := hel i hi
      rw [List.getElem?_eq_getElem (by omega), od_stepW, Option.bind_eq_some_iff] at hx
      obtain ⟨cs, h1, h2⟩ := hx
      obtain ⟨_, hlen2, hcell⟩ := World.cells?_some h1
      obtain ⟨x, v, rfl, hk, _, w0, w1, w2⟩ := open_step4W hlen2 h2
      have k0 := hcell 0 (by decide)
      have k1 := hcell 1 (by decide)
      have k2 := hcell 2 (by decide)
      have k3 := hcell 3 (by decide)
      rw [od_form hs, od_add, od_add] at k0 k1 k2 k3
      exact ⟨x, ⟨by simpa using k0, by simpa using k1, by simpa using k2, v, by simpa using k3, hk⟩, w0, w1, w2⟩
    obtain ⟨f, hf⟩ := Go.Deep.choose_lt each
    have hll : ((List.range len).map f).length = len := by simp
    have hget : ∀ i (h : i < ((List.range len).map f).length), ((List.range len).map f)[i] = f i := fun i h => by simp
    rw [od_form hs]
    refine ⟨(List.range len).map f, .inr ⟨a.block, a.off, cap, by rw [hll], by rw [hll]; exact hl, ⟨fun hne => ?_, fun i hi => ?_, fun i hi => ?_, fun i hi => ?_, fun i hi => ?_⟩⟩, by rw [hll]; have := hm; simp only [maxLen] at this; omega, fun x hx => ?_⟩
    · have h0 : 0 < len := by
        rcases Nat.eq_zero_or_pos len with h | h
        · subst h; simp at hne
        · exact h
      exact World.block_lt_of_cell? W ⟨a.block, a.off + 0 * 4, none⟩ (hf 0 h0).1.1
    · rw [hget]; exact (hf i (by omega)).1.1
    · rw [hget]; exact (hf i (by omega)).1.2.1
    · rw [hget]; exact (hf i (by omega)).1.2.2.1
    · rw [hget]; exact (hf i (by omega)).1.2.2.2
    · obtain ⟨i, hi, rfl⟩ := List.mem_map.1 hx
      exact (hf i (List.mem_range.1 hi)).2
end
end Go.Proofs.YtdbiebnnogjccaaGreatDoor
