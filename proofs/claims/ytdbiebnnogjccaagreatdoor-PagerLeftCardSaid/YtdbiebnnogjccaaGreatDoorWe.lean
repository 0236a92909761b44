/- The log (layer 21): Open. -/
import Derived.Test.YtdbiebnnogjccaaGreatDoorBk
import Derived.Test.YtdbiebnnogjccaaGreatDoorWb
import Derived.Test.YtdbiebnnogjccaaGreatDoorFi
import Derived.Test.YtdbiebnnogjccaaGreatDoorWw
namespace Go.Proofs.YtdbiebnnogjccaaGreatDoor
open Go.RowKit
theorem row_mono {w : World} {B B' : Nat} {e : TypeId} {s n : Nat} {v : Value} {xs : List Value} (h : w.ownsRow B e s v n xs) (hB : B' ≤ B) : w.ownsRow B' e s v n xs := by
  refine ⟨h.1, ?_⟩
  rcases h.2 with hn | ⟨g, cap, cur, rfl, hb, rest⟩
  · exact .inl hn
  · exact .inr ⟨g, cap, cur, rfl, Nat.le_trans hB hb, rest⟩
theorem LogAt.base {w : World} {B B' p g : Nat} {n : Int} {lg : Nat} {rv : Value} {x : Wl} (h : LogAt w B p g n lg rv x) (hB : B' ≤ B) : LogAt w B' p g n lg rv x := ⟨h.blk, row_mono h.row hB, h.rp, h.x0, h.x1, h.us, h.rl, h.l1⟩
theorem row_formW {w : World} {B : Nat} {e : TypeId} {s n : Nat} {v : Value} {xs : List Value} (h : w.ownsRow B e s v n xs) (h0 : n ≠ 0) : ∃ G c, v = .slice (some ⟨G, 0, none⟩) n c := by
  rcases h.2 with ⟨_, e⟩ | ⟨g, cap, cur, e, _⟩
  · exact absurd e h0
  · exact ⟨g, cap, e⟩
theorem readF_num {L : List (List UInt8)} {s : List UInt8} {n : Int} {k : Nat} (h : readF L = some (s, n, k)) : 0 ≤ n ∧ n < 4294967296 := by
  cases L with
  | nil => cases h
  | cons x L =>
    rw [(readF_head h).1]
    unfold numF
    split
    · rename_i hx
      have := valLE_bd (l := x.take 4) (n := 4) (by rw [List.length_take, hx.1]; rfl)
      omega
    · omega
/-- Behind an opening. -/
def OpenP (g : Nat) (n : Int) (lg : Nat) (r : Option Wl × Int) (w : World) (e : Ending) (w' : World) : Prop :=
  Below w.heap.size w w' ∧ match r.1 with
  | none => e = .returned (.tuple #[.pointer none, .int .i64 r.2])
  | some x => ∃ p rv, e = .returned (.tuple #[.pointer (some ⟨p, 0, none⟩), .int .i64 r.2]) ∧ w.heap.size ≤ p ∧ LogAt w' w.heap.size p g n lg rv x
theorem openP_none {g : Nat} {n : Int} {lg : Nat} {c : Int} {w w' : World} {r : Option Wl × Int} (hr : r = (none, c)) (hb : Below w.heap.size w w') : OpenP g n lg r w (.returned (.tuple #[.pointer none, .int .i64 c])) w' := by
  subst hr; exact ⟨hb, rfl⟩
theorem openP_some {g : Nat} {n : Int} {lg : Nat} {x : Wl} {w w' : World} {r : Option Wl × Int} {p : Nat} {rv : Value} (hr : r = (some x, 0)) (hb : Below w.heap.size w w') (hp : w.heap.size ≤ p) (hl : LogAt w' w.heap.size p g n lg rv x) : OpenP g n lg r w (.returned (.tuple #[.pointer (some ⟨p, 0, none⟩), .int .i64 0])) w' := by
  subst hr; exact ⟨hb, p, rv, rfl, hp, hl⟩
set_option maxRecDepth 20000 in
set_option maxHeartbeats 1000000 in
theorem wal_Open_nil (first : Int) (w : World) : Calls Tryz.prog 12 #[.pointer none, .int .u32 first] w fun e w' => e = .returned (.tuple #[.pointer none, .int .i64 1]) ∧ w = w' := by
  go_enter Tryz.func12, Tryz.ntmps12
  go_wp2_with fail
  go_ret2
  exact ⟨rfl, rfl⟩
theorem secs_length (d : Dk) : d.secs.length = d.logs := by unfold Dk.secs; rw [List.length_map, List.length_range]
theorem secs_get (d : Dk) (i : Nat) (h : i < d.secs.length) : d.secs[i] = d.tell (2 + (i : Int)) := by simp [Dk.secs]
theorem secs_size {d : Dk} (ok : d.Ok) : ∀ b ∈ d.secs, b.size = 256 := by
  intro b hb
  unfold Dk.secs at hb
  obtain ⟨i, _, rfl⟩ := List.mem_map.1 hb
  exact ok.tell_size _
theorem lay_log {n : Int} {lg : Nat} (h0 : 32 ≤ n) (h1 : n ≤ 4096) (hl : (lg : Int) = (n - 2) / 4) : layN n = ((2, (lg : Int), 2 + (lg : Int), n - 2 - (lg : Int)), 0) := by
  unfold layN; rw [if_neg (by omega), if_neg (by omega), hl]
theorem ends_bd {b : ByteArray} (h : b.size = 256) : (0 ≤ endA b ∧ endA b < 4294967296) ∧ (0 ≤ endB b ∧ endB b < 4294967296) := by
  have h1 := valLE_bd (l := b.data.toList.take 4) (n := 4) (by rw [List.length_take, size_list, h]; rfl)
  have h2 := valLE_bd (l := b.data.toList.drop 252) (n := 4) (by rw [List.length_drop, size_list, h])
  exact ⟨by unfold endA; omega, by unfold endB; omega⟩
set_option maxRecDepth 20000 in
set_option maxHeartbeats 8000000 in
theorem wal_Open (first : Int) (f0 : 0 ≤ first) (f1 : first < 4294967296) (g mb cb : Nat) (kv : Value) (d : Dk) (lg : Nat) (hlg : lg = d.logs) (a0 a1 a2 aD aA : Addr) (w : World) (hw : HwW w a0 a1 a2 aD aA) (hd : DiskAt w g mb cb 4096 kv d) (ok : d.Ok) :
    Calls Tryz.prog 12 #[.pointer (some ⟨g, 0, none⟩), .int .u32 first] w (OpenP g d.n lg (d.openW first) w) := by
  have HW := Lib.hid hw
  have HD := Lib.hid hd
  have OK := Lib.hid ok
  by_cases c0 : first = 0
  · have FIN : Hid (∀ W, Below w.heap.size w W → OpenP g d.n lg (d.openW first) w (.returned (.tuple #[.pointer none, .int .i64 1])) W) := fun W h => openP_none (by unfold Dk.openW; rw [if_pos c0]) h
    subst c0
    clear hw hd ok hlg f0 f1
    go_enter Tryz.func12, Tryz.ntmps12
    go_wp2_with fail
    go_ret2
    exact FIN.out _ (Below.refl _ _)
  have q0 : (first == 0) = false := by simpa using c0
  have SZ := Lib.hid (fun W h => disk_Size g mb cb 4096 kv d W h)
  have LY := Lib.hid (fun W => head_Lay d.n W)
  by_cases c1 : (layN d.n).2 ≠ 0
  · obtain ⟨y, c, hy⟩ : ∃ y c, layN d.n = (y, c) := ⟨_, _, rfl⟩
    have FIN : Hid (∀ W, Below w.heap.size w W → OpenP g d.n lg (d.openW first) w (.returned (.tuple #[.pointer none, .int .i64 c])) W) := fun W h => openP_none (by unfold Dk.openW; rw [if_neg c0, if_pos c1, hy]) h
    rw [hy] at LY c1
    obtain ⟨y0, y1, y2, y3⟩ := y
    unfold layV at LY
    dsimp only at LY c1
    have q1 : (c != 0) = true := by rw [bne_iff_ne]; exact c1
    clear hw hd ok hlg f0 f1 hy c0 c1
    go_enter Tryz.func12, Tryz.ntmps12
    go_wp2_with fail
    refine (SZ.out _ HD.out).mono ?_; rintro e w1 ⟨rfl, rfl⟩
    go_wp2_with fail
    refine (LY.out _).mono ?_; rintro e w2 ⟨rfl, hb⟩
    have B2 := Lib.hid hb
    clear hb
    go_wp2_with fail
    go_ret2
    exact FIN.out _ (bstep B2.out (below_a1 _ _))
  have c1' : (layN d.n).2 = 0 := Decidable.not_not.1 c1
  obtain ⟨n0, n1⟩ : 32 ≤ d.n ∧ d.n ≤ 4096 := by
    unfold layN at c1'
    split at c1'
    · exact absurd c1' (by decide)
    · split at c1'
      · exact absurd c1' (by decide)
      · omega
  have hlq : (lg : Int) = (d.n - 2) / 4 := by
    rw [hlg]; unfold Dk.logs layN; rw [if_neg (by omega), if_neg (by omega)]; dsimp only; omega
  rw [lay_log n0 n1 hlq] at LY
  unfold layV at LY
  dsimp only at LY
  have l0 : 7 ≤ lg := by omega
  have l1 : lg ≤ 1023 := by omega
  have l0i : (0 : Int) < (lg : Int) := by omega
  have u1 : IntKind.u64.wrap first = first := by rw [IntKind.wrap_u64]; omega
  obtain ⟨n, hn⟩ : ∃ n, n = d.n := ⟨_, rfl⟩
  rw [← hn] at LY SZ ⊢
  have HN := Lib.hid hn
  have HLG := Lib.hid hlg
  have HLQ : Hid ((lg : Int) = (n - 2) / 4 ∧ 32 ≤ n) := by show _ ∧ _; rw [hn]; exact ⟨hlq, n0⟩
  clear hw hd ok hlg hlq hn c1 n0 n1
  go_enter Tryz.func12, Tryz.ntmps12
  go_wp2_with fail
  refine (SZ.out _ HD.out).mono ?_; rintro e w1 ⟨rfl, rfl⟩
  go_wp2_with fail
  refine (LY.out _).mono ?_; rintro e w2 ⟨rfl, hb⟩
  have B2 := Lib.hid hb
  clear hb
  go_upto_region 4 with (fail)
  obtain ⟨w3, hw3⟩ : ∃ z, z = w2.alloc (.cells #[.int .i64 2, .int .i64 (lg : Int), .int .i64 (2 + (lg : Int)), .int .i64 (n - 2 - (lg : Int))] 111) := ⟨_, rfl⟩
  have B3 : Hid (Below w.heap.size w w3) := by show Below _ _ _; rw [hw3]; exact bstep B2.out (below_a1 _ _)
  have X3 : Hid (w3.heap[w2.heap.size]? = some (.cells #[.int .i64 2, .int .i64 (lg : Int), .int .i64 (2 + (lg : Int)), .int .i64 (n - 2 - (lg : Int))] 111 (0, 0))) := by show _ = _; rw [hw3]; exact blk_new _ _
  obtain ⟨q, hq⟩ : ∃ q, q = w2.heap.size := ⟨_, rfl⟩
  have qB : Hid (w.heap.size ≤ q) := by show _ ≤ _; rw [hq]; exact B2.out.size
  rw [← hq] at X3 ⊢
  rw [← hw3]
  clear hw3 hq
  have hx := blk_cell X3.out
  go_upto_region 7 with (fail)
  obtain ⟨w4, hw4⟩ : ∃ z, z = w3.alloc (.cells (lgCells g n lg (.slice none 0 0) ⟨[], first, 0, false⟩) 116) := ⟨_, rfl⟩
  have hw4' : w4 = w3.alloc (.cells #[.pointer (some ⟨g, 0, none⟩), .int .i64 2, .int .i64 (lg : Int), .int .i64 (2 + (lg : Int)), .int .i64 (n - 2 - (lg : Int)), .slice none 0 0, .int .u64 first, .int .i64 0, .bool false] 116) := hw4
  have B4 : Hid (Below w.heap.size w w4) := by show Below _ _ _; rw [hw4]; exact bstep B3.out (below_a1 _ _)
  have X4 : Hid (w4.heap[q]? = some (.cells #[.int .i64 2, .int .i64 (lg : Int), .int .i64 (2 + (lg : Int)), .int .i64 (n - 2 - (lg : Int))] 111 (0, 0))) := by show _ = _; rw [hw4]; exact blk_below X3.out (below_a1 _ _)
  have P4 : Hid (w4.heap[w3.heap.size]? = some (.cells (lgCells g n lg (.slice none 0 0) ⟨[], first, 0, false⟩) 116 (0, 0))) := by show _ = _; rw [hw4]; exact blk_new _ _
  obtain ⟨p, hp⟩ : ∃ p, p = w3.heap.size := ⟨_, rfl⟩
  have pB : Hid (w.heap.size ≤ p) := by show _ ≤ _; rw [hp]; exact B3.out.size
  have qp : Hid (q ≠ p) := by show _ ≠ _; have := blk_lt X3.out; omega
  rw [← hp] at P4 ⊢
  rw [← hw4']
  clear hw4 hw4' hp hx X3 B3
  have hx := blk_cell X4.out
  have D4 := Lib.hid (HD.out.below B4.out)
  obtain ⟨i0, ih, i1, i2, i3⟩ := info_parts Tryz.info9
  by_cases hdd : d.dead = true
  · have FIN : Hid (∀ W, Below w.heap.size w W → OpenP g n lg (d.openW first) w (.returned (.tuple #[.pointer none, .int .i64 74])) W) := fun W h => openP_none (by unfold Dk.openW; rw [if_neg c0, if_neg (fun k => k c1'), if_pos hdd]) h
    have RD := Lib.hid (fun W k1 k2 => disk_Read 2 (wf64_of (by omega) (by omega)) g mb cb 4096 kv d aD aA W k1 k2)
    rw [show d.read 2 = (⟨#[]⟩, 74) by unfold Dk.read Dk.may; rw [if_pos hdd]; rfl] at RD
    clear hdd c1'
    go_wp2_with fail
    go_loopw [43] (fun c wr => c = .int .i64 0 ∧ wr.heap[q]? = some (.cells #[.int .i64 2, .int .i64 (lg : Int), .int .i64 (2 + (lg : Int)), .int .i64 (n - 2 - (lg : Int))] 111 (0, 0)) ∧ Below w.heap.size w wr) (fun _ _ => 0)
    case atStart => exact ⟨rfl, X4.out, B4.out⟩
    case round =>
      obtain ⟨rfl, hX, hB⟩ := hrel
      have HB := Lib.hid hB
      have hx := blk_cell hX
      clear hX hB
      go_wp2_with fail
      refine (RD.out _ (HW.out.below HB.out).d (HD.out.below HB.out)).mono ?_; rintro e w5 ⟨rfl, hb⟩
      have B5 := Lib.hid (bstep HB.out hb)
      clear hb hx
      go_wp2_with fail
      go_ret2
      exact FIN.out _ B5.out
  have hdf : d.dead = false := by simpa using hdd
  have EN := Lib.hid wal_ends
  have SL : Hid (d.secs.length = lg) := (secs_length d).trans HLG.out.symm
  have RD := Lib.hid (fun (i : Nat) (hi : i < lg) W k1 k2 => disk_Read (2 + (i : Int)) (wf64_of (by omega) (by omega)) g mb cb 4096 kv d aD aA W k1 k2)
  have RK : Hid (∀ i : Nat, i < lg → d.read (2 + (i : Int)) = (d.tell (2 + (i : Int)), 0)) := fun i hi => read_ok hdf ⟨by omega, by have h1 := HN.out; have h2 := HLQ.out; rw [← h1]; omega⟩
  have HDF := Lib.hid hdf
  clear hdd hdf
  go_wp2_with fail
  go_loopw [9, 43] (fun bv c wr => ∃ i : Nat, i ≤ lg ∧ c = .int .i64 i ∧ wr.ownsRow w.heap.size 9 1 bv (d.secs.take i).length ((d.secs.take i).map Value.string) ∧ bv.ownBlock ≠ some p ∧ bv.ownBlock ≠ some q ∧ wr.heap[p]? = some (.cells (lgCells g n lg (.slice none 0 0) ⟨[], nextW first (d.secs.take i), 0, false⟩) 116 (0, 0)) ∧ wr.heap[q]? = some (.cells #[.int .i64 2, .int .i64 (lg : Int), .int .i64 (2 + (lg : Int)), .int .i64 (n - 2 - (lg : Int))] 111 (0, 0)) ∧ Below w.heap.size w wr) (fun _ c _ => lg - (intOf c).toNat)
  case atStart => exact ⟨0, Nat.zero_le _, rfl, ⟨rfl, .inl ⟨rfl, rfl⟩⟩, (fun e => by cases e), (fun e => by cases e), P4.out, X4.out, B4.out⟩
  case round =>
    clear hx X4 P4 B4 D4 B2
    obtain ⟨i, hik, rfl, hRow, hbp, hbq, hP, hX, hB⟩ := hrel
    have HR := Lib.hid hRow; have HBP := Lib.hid hbp; have HBQ := Lib.hid hbq; have HP := Lib.hid hP; have HX := Lib.hid hX; have HB := Lib.hid hB
    have hx := blk_cell hX
    clear hRow hbp hbq hP hX hB
    by_cases hlt : i < lg
    · have hi : (i : Int) < (lg : Int) := by omega
      have hi0 : (0 : Int) ≤ (i : Int) := by omega
      have v1 : IntKind.i64.wrap (2 + (i : Int)) = 2 + (i : Int) := IntWalk.i64_in _ (by omega)
      have R1 := Lib.hid (RD.out i hlt)
      have T1 : Hid (d.secs.take (i + 1) = d.secs.take i ++ [d.tell (2 + (i : Int))]) := by
        show _ = _
        have hl : i < d.secs.length := by rw [SL.out]; exact hlt
        rw [List.take_succ_eq_append_getElem hl, secs_get]
      have Y1 : Hid ((d.tell (2 + (i : Int))).size = 256) := OK.out.tell_size _
      rw [RK.out i hlt] at R1
      obtain ⟨y, hy⟩ : ∃ y, y = d.tell (2 + (i : Int)) := ⟨_, rfl⟩
      rw [← hy] at R1 T1 Y1
      clear hy
      have E1 := Lib.hid (fun W => EN.out y Y1.out W)
      obtain ⟨⟨a0', a1'⟩, ⟨b0', b1'⟩⟩ := ends_bd Y1.out
      obtain ⟨m, hm⟩ : ∃ m, m = nextW first (d.secs.take i) := ⟨_, rfl⟩
      rw [← hm] at HP
      have NX : Hid (nextW first (d.secs.take (i + 1)) = upN (upN m (endA y)) (endB y)) := by show _ = _; rw [T1.out, nextW_append, ← hm]; rfl
      obtain ⟨a, ha⟩ : ∃ a, a = endA y := ⟨_, rfl⟩
      obtain ⟨b, hb⟩ : ∃ b, b = endB y := ⟨_, rfl⟩
      rw [← ha, ← hb] at E1 NX
      rw [← ha] at a0' a1'
      rw [← hb] at b0' b1'
      have Tl : (d.secs.take i).length ≤ 65536 := by rw [List.length_take]; omega
      have HM := Lib.hid hm
      clear ha hb hm
      go_wp2_with fail
      refine (R1.out _ (HW.out.below HB.out).d (HD.out.below HB.out)).mono ?_; rintro e w5 ⟨rfl, hb⟩
      have R5 := Lib.hid (row_bel HR.out hb)
      have P5 := Lib.hid (blk_below HP.out hb)
      have X5 := Lib.hid (blk_below HX.out hb)
      have B5 := Lib.hid (bstep HB.out hb)
      clear hb hx
      go_wp2_with (at_builtin; refine wpList_append_s1 rfl _ _ _ rfl 9 i0 _ Tryz.underlying34 ih i1 i2 i3 (by decide) w.heap.size u9 (d.secs.take i) rfl (R5.out.alloc _) w5.heap.size 1 rfl y (blk_cell (blk_new _ _) 0) Tl (by have := B5.out.size; simp; omega) ?_; intro v' w6 k1 k2 k3; have K1 := Lib.hid k1; have K2 := Lib.hid k2; have K3 := Lib.hid k3; clear k1 k2 k3)
      have B6 := Lib.hid (bel_row (B5.out.alloc B5.out.size _) (by have := B5.out.size; simp; omega) (R5.out.alloc _) K2.out)
      have P6 : Hid (w6.heap[p]? = some (.cells (lgCells g n lg (.slice none 0 0) ⟨[], m, 0, false⟩) 116 (0, 0))) := (K2.out.block p (by have := blk_lt P5.out; simp; omega) (fun e => HBP.out e.symm)).trans (blk_alloc P5.out)
      have X6 : Hid (w6.heap[q]? = some (.cells #[.int .i64 2, .int .i64 (lg : Int), .int .i64 (2 + (lg : Int)), .int .i64 (n - 2 - (lg : Int))] 111 (0, 0))) := (K2.out.block q (by have := blk_lt X5.out; simp; omega) (fun e => HBQ.out e.symm)).trans (blk_alloc X5.out)
      have N6 : Hid (v'.ownBlock ≠ some p ∧ v'.ownBlock ≠ some q) := by
        have hlp := blk_lt P5.out
        have hlq := blk_lt X5.out
        rcases K3.out with h | h
        · exact ⟨by rw [h]; exact HBP.out, by rw [h]; exact HBQ.out⟩
        · rw [h]
          refine ⟨fun e => ?_, fun e => ?_⟩ <;> (injection e with e; simp at e; omega)
      have R6 : Hid (w6.ownsRow w.heap.size 9 1 v' (d.secs.take (i + 1)).length ((d.secs.take (i + 1)).map Value.string)) := by show World.ownsRow _ _ _ _ _ _ _; rw [T1.out]; exact K1.out
      clear K1 K2 K3 P5 X5 B5 R5 HR HBP HBQ HP HX HB T1 Tl
      refine (E1.out _).mono ?_; rintro e w7 ⟨rfl, hb⟩
      have R7 := Lib.hid (row_bel R6.out hb)
      have P7 := Lib.hid (blk_below P6.out hb)
      have X7 := Lib.hid (blk_below X6.out hb)
      have B7 := Lib.hid (bstep B6.out hb)
      clear hb P6 X6 B6 R6
      have j0 : ∀ W : World, (Instr.index 117 (.agg #[.int .u64 a, .int .u64 b]) (.int .i64 0)).run Tryz.prog W = .ok (.int .u64 a) W := fun _ => by kernel_rfl
      have j1 : ∀ W : World, (Instr.index 117 (.agg #[.int .u64 a, .int .u64 b]) (.int .i64 1)).run Tryz.prog W = .ok (.int .u64 b) W := fun _ => by kernel_rfl
      go_wp2_with fail
      go_loopw [64] (fun c wr => ∃ (j : Nat) (M : Int), c = .int .i64 j ∧ ((j = 0 ∧ M = m) ∨ (j = 1 ∧ M = upN m a) ∨ (j = 2 ∧ M = upN (upN m a) b)) ∧ wr.ownsRow w.heap.size 9 1 v' (d.secs.take (i + 1)).length ((d.secs.take (i + 1)).map Value.string) ∧ wr.heap[p]? = some (.cells (lgCells g n lg (.slice none 0 0) ⟨[], M, 0, false⟩) 116 (0, 0)) ∧ wr.heap[q]? = some (.cells #[.int .i64 2, .int .i64 (lg : Int), .int .i64 (2 + (lg : Int)), .int .i64 (n - 2 - (lg : Int))] 111 (0, 0)) ∧ Below w.heap.size w wr) (fun c _ => 2 - (intOf c).toNat)
      case atStart => exact ⟨0, m, rfl, .inl ⟨rfl, rfl⟩, R7.out, P7.out, X7.out, B7.out⟩
      case round =>
        clear R7 P7 X7 B7
        obtain ⟨j, M, rfl, hcase, hR, hP, hX, hB⟩ := hrel
        have HR := Lib.hid hR; have HP := Lib.hid hP; have HX := Lib.hid hX; have HB := Lib.hid hB
        have hpc := blk_cell hP
        have hpf := blk_frozen hP
        unfold lgCells at hpc
        clear hR hP hX hB
        rcases hcase with ⟨rfl, hMm⟩ | ⟨rfl, hMm⟩ | ⟨rfl, hMm⟩
        · rw [show ((0 : Nat) : Int) = 0 from rfl]
          have HMM := Lib.hid hMm
          clear hMm
          by_cases hc : a ≤ 2147483648
          · have z1 : IntKind.u64.wrap (a + 1) = a + 1 := by rw [IntKind.wrap_u64]; omega
            have UP : Hid (upN m a = max M (a + 1)) := by show _ = _; rw [← HMM.out]; exact if_pos hc
            go_wp2_with fail
            go_roundw
            case rel => exact ⟨1, _, by go_num, .inr (.inl ⟨rfl, UP.out.symm⟩), row_fr HR.out (fr_set (S := fun x => x = p) rfl 6 _) (fun b hb e => N6.out.1 (by rw [hb, e])), by rw [blk_set HP.out]; simp [lgCells], blk_set_far HX.out qp.out _, HB.out.setCell pB.out _⟩
            case measure => simp [intOf]
          · have UP : Hid (upN m a = M) := by show _ = _; rw [← HMM.out]; exact if_neg hc
            go_wp2_with fail
            go_roundw
            case rel => exact ⟨1, M, by go_num, .inr (.inl ⟨rfl, UP.out.symm⟩), HR.out, HP.out, HX.out, HB.out⟩
            case measure => simp [intOf]
        · rw [show ((1 : Nat) : Int) = 1 from rfl]
          have HMM := Lib.hid hMm
          clear hMm
          by_cases hc : b ≤ 2147483648
          · have z1 : IntKind.u64.wrap (b + 1) = b + 1 := by rw [IntKind.wrap_u64]; omega
            have UP : Hid (upN (upN m a) b = max M (b + 1)) := by show _ = _; rw [← HMM.out]; exact if_pos hc
            go_wp2_with fail
            go_roundw
            case rel => exact ⟨2, _, by go_num, .inr (.inr ⟨rfl, UP.out.symm⟩), row_fr HR.out (fr_set (S := fun x => x = p) rfl 6 _) (fun b hb e => N6.out.1 (by rw [hb, e])), by rw [blk_set HP.out]; simp [lgCells], blk_set_far HX.out qp.out _, HB.out.setCell pB.out _⟩
            case measure => simp [intOf]
          · have UP : Hid (upN (upN m a) b = M) := by show _ = _; rw [← HMM.out]; exact if_neg hc
            go_wp2_with fail
            go_roundw
            case rel => exact ⟨2, M, by go_num, .inr (.inr ⟨rfl, UP.out.symm⟩), HR.out, HP.out, HX.out, HB.out⟩
            case measure => simp [intOf]
        · rw [show ((2 : Nat) : Int) = 2 from rfl]
          have P9 : Hid (wr.heap[p]? = some (.cells (lgCells g n lg (.slice none 0 0) ⟨[], nextW first (d.secs.take (i + 1)), 0, false⟩) 116 (0, 0))) := by show _ = _; rw [NX.out, ← hMm]; exact HP.out
          clear hMm hpc hpf
          go_wp2_with fail
          go_roundw
          case rel => exact ⟨i + 1, by omega, by go_num, HR.out, N6.out.1, N6.out.2, P9.out, HX.out, HB.out⟩
          case measure => simp [intOf]; omega
    · have hi : ¬ (i : Int) < (lg : Int) := by omega
      obtain rfl : i = lg := by omega
      have ht : d.secs.take i = d.secs := List.take_of_length_le (by rw [SL.out]; exact Nat.le_refl _)
      rw [ht] at HR HP
      have HSL : Hid (d.secs.length = i) := SL.out
      rw [HSL.out] at HR
      obtain ⟨N, hN⟩ : ∃ N, N = nextW first d.secs := ⟨_, rfl⟩
      rw [← hN] at HP
      have N1 : Hid (1 ≤ N) := by show _ ≤ _; rw [hN]; have := nextW_ge d.secs first; omega
      have HNN := Lib.hid hN
      clear ht hN hx
      have hpc := blk_cell HP.out
      unfold lgCells at hpc
      by_cases hmost : 2147483648 < N
      · have FIN : Hid (∀ W, Below w.heap.size w W → OpenP g n i (d.openW first) w (.returned (.tuple #[.pointer none, .int .i64 73])) W) := fun W h => openP_none (by unfold Dk.openW; rw [if_neg c0, if_neg (fun k => k c1'), if_neg (by rw [HDF.out]; decide), if_pos (by rw [← HNN.out]; exact hmost)]) h
        go_wp2_with fail
        go_ret2
        exact FIN.out _ HB.out
      · obtain ⟨G, cap, rfl, HS0, GN⟩ : ∃ G cap, u9 = .slice (some ⟨G, 0, none⟩) i cap ∧ StrsAt wr G 0 d.secs ∧ i ≤ cap := by
          rcases SlStrs.of_own (show wr.ownsRow w.heap.size 9 1 u9 d.secs.length (d.secs.map Value.string) by rw [HSL.out]; exact HR.out) with ⟨_, h⟩ | ⟨G, off, cap, e, hcp, h⟩
          · have := HSL.out; rw [h] at this; simp at this; omega
          · rcases HR.out.2 with ⟨e2, _⟩ | ⟨G2, cap2, _, e2, _⟩
            · rw [e] at e2; cases e2
            · rw [e] at e2
              injection e2 with e3 _ _
              injection e3 with e3
              injection e3 with e3 e4 _
              subst e4
              rw [HSL.out] at e hcp
              exact ⟨G, cap, e, h, hcp⟩
        have GP : Hid (G ≠ p) := fun e => HBP.out (by rw [← e]; rfl)
        have S0 := Lib.hid HS0
        have FR := Lib.hid (fun v L hL W k1 k2 => frame_Read v L hL a0 a1 a2 W k1 k2)
        clear HS0 HR HBP HBQ HX hpc RD RK EN
        have hpc := blk_cell HP.out
        unfold lgCells at hpc
        go_wp2_with fail
        go_loopw [15] (fun c wr => ∃ (R : List ByteArray) (u : Nat) (m : Int) (rv : Value), c = .int .u64 m ∧ u ≤ i ∧ R.length ≤ u ∧ 0 ≤ m ∧ m ≤ 4294967296 ∧ scanW d.secs i first 0 = (R ++ (scanW d.secs i m u).1, (scanW d.secs i m u).2) ∧ wr.ownsRow w.heap.size 9 1 rv R.length (R.map Value.string) ∧ rv.ownBlock ≠ some p ∧ rv.ownBlock ≠ some G ∧ StrsAt wr G 0 d.secs ∧ wr.heap[p]? = some (.cells (lgCells g n i rv ⟨R, N, u, false⟩) 116 (0, 0)) ∧ Below w.heap.size w wr) (fun c _ => 8589934592 - (intOf c).toNat)
        case atStart => exact ⟨[], 0, first, .slice none 0 0, rfl, Nat.zero_le _, Nat.le_refl _, f0, by omega, rfl, ⟨rfl, .inl ⟨rfl, rfl⟩⟩, (fun e => by cases e), (fun e => by cases e), S0.out, HP.out, HB.out⟩
        case round =>
          clear hpc S0 HP HB
          obtain ⟨R, u, m, rv, rfl, hu, hRu, m0, m1, hSC, hRow, hrp, hrG, hS, hP, hB⟩ := hrel
          have SC := Lib.hid hSC; have HR := Lib.hid hRow; have RP := Lib.hid hrp; have RG := Lib.hid hrG; have HS := Lib.hid hS; have HP := Lib.hid hP; have HB := Lib.hid hB
          have hpc := blk_cell hP
          have hpf := blk_frozen hP
          unfold lgCells at hpc
          clear hSC hRow hrp hrG hS hP hB
          have FIN : Hid (scanW d.secs i m u = ([], u) → ∀ W, Below wr.heap.size wr W → OpenP g n i (d.openW first) w (.returned (.tuple #[.pointer (some ⟨p, 0, none⟩), .int .i64 0])) W) := fun hz W h => by
            refine openP_some (x := ⟨R, N, u, false⟩) (rv := rv) ?_ (bstep HB.out h) pB.out ⟨blk_below HP.out h, row_bel HR.out h, RP.out, N1.out, by show N ≤ 2147483649; omega, hu, hRu, l1⟩
            have e := SC.out
            rw [hz] at e
            unfold Dk.openW
            rw [if_neg c0, if_neg (fun k => k c1'), if_neg (by rw [HDF.out]; decide), if_neg (by rw [← HNN.out]; omega), ← HLG.out, e, ← HNN.out]
            simp
          by_cases hul : u < i
          · have q1 : (u : Int) < (i : Int) := by omega
            have q2 : (0 : Int) ≤ (u : Int) := by omega
            have q3 : ¬ cap = u := by omega
            have q4 : (u : Int) ≤ (i : Int) := by omega
            have q5 : (u : Int) ≤ (cap : Int) := by omega
            have q6 : (i : Int) ≤ (cap : Int) := by omega
            go_upto_region 26 with (fail)
            go_wp2_with fail
            have HV : Hid (SlStrs wr (.slice (some ⟨G, u, none⟩) (i - u) (cap - u)) (d.secs.drop u)) := by
              refine .inr ⟨G, u, cap - u, by rw [List.length_drop, HSL.out], by rw [List.length_drop, HSL.out]; omega, ?_⟩
              have := HS.out.drop u
              rwa [Nat.zero_add] at this
            refine (FR.out _ (d.secs.drop u) (by rw [List.length_drop, HSL.out]; omega) _ (HW.out.below HB.out).f HV.out).mono ?_; rintro e w5 ⟨hq, hb⟩
            have BL := Lib.hid hb
            clear hb hpc hpf
            cases hr : readF (LL (d.secs.drop u)) with
            | none =>
              rw [hr] at hq
              obtain rfl : e = _ := hq
              have Z : Hid (scanW d.secs i m u = ([], u)) := scanW_none hr
              clear hr
              go_wp2_with fail
              go_ret2
              exact FIN.out Z.out _ BL.out
            | some z =>
              obtain ⟨s, nn, k⟩ := z
              rw [hr] at hq
              obtain rfl : e = _ := hq
              have HRF := Lib.hid hr
              have hk := readF_pos hr
              rw [LL_length, List.length_drop, HSL.out] at hk
              have hnb := readF_num hr
              have z1 : IntKind.u64.wrap nn = nn := by rw [IntKind.wrap_u64]; omega
              clear hr
              by_cases h1 : nn < m ∨ 2147483648 < nn
              · have Z : Hid (scanW d.secs i m u = ([], u)) := scanW_stop HRF.out h1
                by_cases h2 : nn < m
                · go_wp2_with fail
                  go_ret2
                  exact FIN.out Z.out _ BL.out
                · have h4 : 2147483648 < nn := h1.resolve_left h2
                  clear h1
                  go_wp2_with fail
                  go_ret2
                  exact FIN.out Z.out _ BL.out
              · have h2 : ¬ nn < m := fun h => h1 (.inl h)
                have h3 : ¬ 2147483648 < nn := fun h => h1 (.inr h)
                have ST := Lib.hid (scanW_step HRF.out h1 (f := i) (by rw [HSL.out]; omega))
                have z2 : IntKind.u64.wrap (nn + 1) = nn + 1 := by rw [IntKind.wrap_u64]; omega
                have z3 : IntKind.i64.wrap ((u : Int) + (k : Int)) = (u : Int) + (k : Int) := IntWalk.i64_in _ (by omega)
                have P5 := Lib.hid (blk_below HP.out BL.out)
                have R5 := Lib.hid (row_bel HR.out BL.out)
                have S5 := Lib.hid (HS.out.below BL.out)
                have B5 := Lib.hid (bstep HB.out BL.out)
                have hpc := blk_cell P5.out
                unfold lgCells at hpc
                clear h1 FIN HP HR HS HB BL
                go_wp2_with (at_builtin; refine wpList_append_s1 rfl _ _ _ rfl 9 i0 _ Tryz.underlying34 ih i1 i2 i3 (by decide) w.heap.size rv R rfl (R5.out.alloc _) w5.heap.size 1 rfl (ofL s) (blk_cell (blk_new _ _) 0) (by omega) (by have := B5.out.size; simp; omega) ?_; intro v' w6 k1 k2 k3; obtain ⟨G5, c5, hv5⟩ := row_formW k1 (by simp); rw [show (R ++ [ofL s]).length = R.length + 1 from (by simp)] at hv5; subst hv5; have K1 := Lib.hid k1; have K2 := Lib.hid k2; have K3 := Lib.hid k3; have b5 : w6.heap[p]? = some (.cells (lgCells g n i rv ⟨R, N, u, false⟩) 116 (0, 0)) := (k2.block p (by have := blk_lt P5.out; simp; omega) (fun e => RP.out e.symm)).trans (blk_alloc P5.out); have b6 : (w6.setCell ⟨p, 5, none⟩ (.slice (some ⟨G5, 0, none⟩) (R.length + 1) c5)).heap[p]? = some (.cells (lgCells g n i (.slice (some ⟨G5, 0, none⟩) (R.length + 1) c5) ⟨R, N, u, false⟩) 116 (0, 0)) := (by rw [blk_set b5]; simp [lgCells]); have b7 : ((w6.setCell ⟨p, 5, none⟩ (.slice (some ⟨G5, 0, none⟩) (R.length + 1) c5)).setCell ⟨p, 7, none⟩ (.int .i64 ((u : Int) + (k : Int)))).heap[p]? = some (.cells (lgCells g n i (.slice (some ⟨G5, 0, none⟩) (R.length + 1) c5) ⟨R ++ [ofL s], N, u + k, false⟩) 116 (0, 0)) := (by rw [blk_set b6]; simp [lgCells]); have BL7 := Lib.hid b7; have hq5 := blk_cell b5; have hf5 := blk_frozen b5; have hq6 := blk_cell b6; have hf6 := blk_frozen b6; unfold lgCells at hq5 hq6; clear k1 k2 k3 b5 b6 b7 hpc)
                have GPn : ∀ o, o = p ∨ o = G → (Value.slice (some ⟨G5, 0, none⟩) (R.length + 1) c5).ownBlock ≠ some o := by
                  intro o ho
                  have hlp := blk_lt P5.out
                  have hlG := S5.out.lt (fun e => by have := HSL.out; rw [e] at this; simp at this; omega)
                  rcases K3.out with h | h
                  · rw [h]; rcases ho with rfl | rfl
                    · exact RP.out
                    · exact RG.out
                  · rw [h]; intro e; injection e with e; simp at e; rcases ho with rfl | rfl <;> omega
                have hrow : ∀ b, (Value.slice (some ⟨G5, 0, none⟩) (R.length + 1) c5).ownBlock = some b → ¬ (b = p) := fun b hb e => GPn p (.inl rfl) (by rw [hb, e])
                have SG := ((Fr.of_below (S := fun x => x = p ∨ rv.ownBlock = some x) (below_alloc1 w5 (.cells #[.string (ofL s)] 9))).grown K2.out (fun q hq => .inl (.inr hq)))
                have S6 := S5.out.fr SG (fun _ => by rintro (e | e); exact GP.out e; exact RG.out e)
                have S8 := (S6.fr (fr_set (S := fun x => x = p) rfl 5 (.slice (some ⟨G5, 0, none⟩) (R.length + 1) c5)) (fun _ => GP.out)).fr (fr_set (S := fun x => x = p) rfl 7 (.int .i64 ((u : Int) + (k : Int)))) (fun _ => GP.out)
                have R8 := row_fr (row_fr K1.out (fr_set (S := fun q => q = p) rfl 5 (.slice (some ⟨G5, 0, none⟩) (R.length + 1) c5)) hrow) (fr_set (S := fun q => q = p) rfl 7 (.int .i64 ((u : Int) + (k : Int)))) hrow
                have B6 := bel_row (B5.out.alloc B5.out.size _) (by have := B5.out.size; simp; omega) (R5.out.alloc _) K2.out
                have B8 := (B6.setCell (p := ⟨p, 5, none⟩) pB.out (.slice (some ⟨G5, 0, none⟩) (R.length + 1) c5)).setCell (p := ⟨p, 7, none⟩) pB.out (.int .i64 ((u : Int) + (k : Int)))
                have SC8 : scanW d.secs i first 0 = ((R ++ [ofL s]) ++ (scanW d.secs i (nn + 1) (u + k)).1, (scanW d.secs i (nn + 1) (u + k)).2) := by rw [SC.out, ST.out]; simp
                go_roundw
                case rel => exact ⟨R ++ [ofL s], u + k, nn + 1, _, rfl, by omega, by simp; omega, by omega, by omega, SC8, R8, GPn p (.inl rfl), GPn G (.inr rfl), S8, BL7.out, B8⟩
                case measure => simp [intOf]; omega
          · have q1 : ¬ (u : Int) < (i : Int) := by omega
            have Z : Hid (scanW d.secs i m u = ([], u)) := scanW_none (by rw [List.drop_eq_nil_of_le (by rw [HSL.out]; omega)]; rfl)
            go_wp2_with fail
            go_ret2
            exact FIN.out Z.out _ (Below.refl _ _)
end Go.Proofs.YtdbiebnnogjccaaGreatDoor
