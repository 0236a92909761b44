/- Heads (layer 20): the heads of a disk. -/
import Derived.Test.YtoebldemcgahnaaGreatDoorJe
import Derived.Test.YtoebldemcgahnaaGreatDoorJc
import Derived.Test.YtoebldemcgahnaaGreatDoorAp
import Derived.Test.YtoebldemcgahnaaGreatDoorDq
import Derived.Deep.DeepAppendWide
namespace Go.Proofs.YtoebldemcgahnaaGreatDoor
open Go.RowKit
theorem Tryz.info54 : (Tryz.prog.info? 54).map (fun i => (i.zero, i.size, i.bytes)) = some (some (.agg #[.int .u32 0, .int .i64 0, .int .u32 0]), 3, 24) := by kernel_rfl
/-- The head of a sector, if it counts there. -/
noncomputable def pickH (P : Int) (b : ByteArray) (i : Int) : List Hd := if (decH b).2 = 0 ∧ (decH b).1.e % 2 = i ∧ (decH b).1.r < P then [(decH b).1] else []
theorem pickH_def (P : Int) (b : ByteArray) (i : Int) : pickH P b i = if (decH b).2 = 0 ∧ (decH b).1.e % 2 = i ∧ (decH b).1.r < P then [(decH b).1] else [] := rfl
noncomputable def accH (P : Int) (b0 b1 : ByteArray) : Nat → List Hd
  | 0 => []
  | 1 => pickH P b0 0
  | _ => pickH P b0 0 ++ pickH P b1 1
def secB (b0 b1 : ByteArray) (k : Nat) : ByteArray := if k = 0 then b0 else b1
theorem pick_len (P : Int) (b : ByteArray) (i : Int) : (pickH P b i).length ≤ 1 := by unfold pickH; split <;> simp
theorem acc_len (P : Int) (b0 b1 : ByteArray) (k : Nat) : (accH P b0 b1 k).length ≤ 2 := by
  have h0 := pick_len P b0 0; have h1 := pick_len P b1 1
  unfold accH
  split
  · simp
  · omega
  · rw [List.length_append]; omega
theorem acc_step {P : Int} {b0 b1 : ByteArray} {k : Nat} (hk : k < 2) : accH P b0 b1 (k + 1) = accH P b0 b1 k ++ pickH P (secB b0 b1 k) (k : Int) := by
  rcases (show k = 0 ∨ k = 1 by omega) with rfl | rfl
  · simp [accH, secB]
  · simp [accH, secB]
noncomputable def Dk.heads (d : Dk) : List Hd × Int :=
  if (layN d.n).2 ≠ 0 then ([], (layN d.n).2) else if d.dead then ([], 74) else (sortH (accH (layN d.n).1.2.2.2 (d.tell 0) (d.tell 1) 2), 0)
theorem heads_lay {d : Dk} (c : (layN d.n).2 ≠ 0) : d.heads = ([], (layN d.n).2) := by unfold Dk.heads; rw [if_pos c]
theorem heads_dead {d : Dk} (c : (layN d.n).2 = 0) (h : d.dead = true) : d.heads = ([], 74) := by unfold Dk.heads; rw [if_neg (fun k => k c), if_pos h]
theorem heads_ok {d : Dk} (c : (layN d.n).2 = 0) (h : d.dead = false) : d.heads = (sortH (accH (layN d.n).1.2.2.2 (d.tell 0) (d.tell 1) 2), 0) := by unfold Dk.heads; rw [if_neg (fun k => k c), if_neg (by rw [h]; decide)]
/-- What Read hands back. -/
def HeadsP (L : List Hd × Int) (w : World) (e : Ending) (w' : World) : Prop := ∃ v, e = .returned (.tuple #[v, .int .i64 L.2]) ∧ SlHds w' v L.1 ∧ Below w.heap.size w w'
theorem acc_skip {P : Int} {b0 b1 : ByteArray} {k : Nat} (h : k < 2 ∧ pickH P (secB b0 b1 k) (k : Int) = []) : accH P b0 b1 (k + 1) = accH P b0 b1 k := by rw [acc_step h.1, h.2, List.append_nil]
theorem acc_put {P : Int} {b0 b1 : ByteArray} {k : Nat} {h : Hd} (hp : k < 2 ∧ pickH P (secB b0 b1 k) (k : Int) = [h]) : accH P b0 b1 (k + 1) = accH P b0 b1 k ++ [h] := by rw [acc_step hp.1, hp.2]
theorem new_hd {w : World} {h : Hd} : ∀ j u, (hdCells [h])[j]? = some u → (w.alloc (.cells #[.int .u32 h.e, .int .i64 h.r, .int .u32 h.f] 54)).cell? ((⟨w.heap.size, 0, none⟩ : Addr).add j) = some u := by
  intro j u hj
  have hadd : (⟨w.heap.size, 0, none⟩ : Addr).add j = ⟨w.heap.size, j, none⟩ := by unfold Addr.add; split <;> simp_all
  rw [hadd, blk_cell (blk_new _ _), ← Array.getElem?_toList]
  simpa [hdCells, Hd.enc] using hj
theorem fr_at {w w' : World} (h : Fr (fun x => w.heap.size ≤ x) w w') : Below w.heap.size w w' := ⟨h.os, h.tape, h.output, h.size, fun k hk => h.block k hk (by omega)⟩
theorem dec_bd (b : ByteArray) : 0 ≤ (decH b).1.e ∧ (decH b).1.e ≤ 2147483648 := by
  rcases dec_cases b with ⟨h, g, e⟩ | e
  · rw [e]; dsimp only; exact ⟨by have := g.1.1; omega, g.1.2⟩
  · rw [e]; exact ⟨by decide, by decide⟩
set_option maxRecDepth 20000 in
set_option maxHeartbeats 8000000 in
theorem head_Read (g mb cb : Nat) (kv : Value) (d : Dk) (a0 a1 a2 aD aA : Addr) (w : World) (hf : FrW w a0 a1 a2) (hw : DkW w aD aA) (hd : DiskAt w g mb cb 4096 kv d) :
    Calls Tryz.prog 38 #[.pointer (some ⟨g, 0, none⟩)] w (HeadsP d.heads w) := by
  have LY := Lib.hid (head_lay g mb cb 4096 kv d w hd)
  have HW := Lib.hid hw; have HF := Lib.hid hf; have HD := Lib.hid hd
  obtain ⟨x, c, hx⟩ : ∃ x c, layN d.n = (x, c) := ⟨_, _, rfl⟩
  obtain ⟨x0, x1, x2, P⟩ := x
  have hH1 : c ≠ 0 → d.heads = ([], c) := fun h => by have := heads_lay (d := d) (by rw [hx]; exact h); rw [hx] at this; exact this
  have hH2 : c = 0 → d.dead = true → d.heads = ([], 74) := fun h => heads_dead (by rw [hx]; exact h)
  have hH3 : c = 0 → d.dead = false → d.heads = (sortH (accH P (d.tell 0) (d.tell 1) 2), 0) := fun h h' => by have := heads_ok (d := d) (by rw [hx]; exact h) h'; rw [hx] at this; exact this
  rw [hx] at LY
  unfold layV at LY
  dsimp only at LY
  have FIN : Hid (∀ (L : List Hd × Int) v W, d.heads = L → SlHds W v L.1 → Below w.heap.size w W → HeadsP d.heads w (.returned (.tuple #[v, .int .i64 L.2])) W) := fun L v W e h1 h2 => by rw [e]; exact ⟨v, rfl, h1, h2⟩
  have NILS : Hid (∀ W, SlHds W (.slice none 0 0) []) := fun _ => .inl ⟨rfl, rfl⟩
  by_cases c0 : c = 0
  · subst c0
    have hn32 : 32 ≤ d.n := by
      unfold layN at hx
      split at hx
      · injection hx with _ h; omega
      · omega
    have H2 := Lib.hid (hH2 rfl); have H3 := Lib.hid (hH3 rfl)
    clear hw hf hd hH1 hH2 hH3
    go_enter Tryz.func38, Tryz.ntmps38
    go_wp2_with fail
    refine LY.out.mono ?_; rintro z w1 ⟨rfl, hb⟩
    have B1 := Lib.hid hb
    clear hb
    go_upto_region 2 with (fail)
    obtain ⟨w2, hw2⟩ : ∃ w2, w2 = w1.alloc (.cells #[.int .i64 x0, .int .i64 x1, .int .i64 x2, .int .i64 P] 56) := ⟨_, rfl⟩
    have B2 : Hid (Below w.heap.size w w2) := by show Below _ _ _; rw [hw2]; exact bstep B1.out (below_a1 _ _)
    have Y2 : Hid (w2.heap[w1.heap.size]? = some (.cells #[.int .i64 x0, .int .i64 x1, .int .i64 x2, .int .i64 P] 56 (0, 0))) := by show _ = _; rw [hw2]; exact blk_new _ _
    rw [← hw2]
    clear hw2
    have D2 := Lib.hid (HD.out.below B2.out)
    have W2 := Lib.hid (HW.out.below B2.out)
    have F2 := Lib.hid (HF.out.below B2.out)
    obtain ⟨b0, hb0⟩ : ∃ b, b = d.tell 0 := ⟨_, rfl⟩
    obtain ⟨b1, hb1⟩ : ∃ b, b = d.tell 1 := ⟨_, rfl⟩
    rw [← hb0, ← hb1] at H3
    have HB0 := Lib.hid hb0; have HB1 := Lib.hid hb1
    obtain ⟨i0, ih, i1, i2, i3⟩ := info_parts Tryz.info54
    have HX := Lib.hid hx
    clear hb0 hb1 hx
    cases hdd : d.dead with
    | true =>
      have HH := Lib.hid (H2.out hdd)
      have RD := Lib.hid (fun W h1 h2 => disk_Read 0 (wf64_of (by omega) (by omega)) g mb cb 4096 kv d aD aA W h1 h2)
      rw [show d.read 0 = (⟨#[]⟩, 74) by unfold Dk.read Dk.may; rw [hdd]; rfl] at RD
      clear hdd H2 H3
      go_wp2_with fail
      go_loopw [6, 20] (fun v c wr => v = .slice none 0 0 ∧ c = .int .i64 0 ∧ wr = w2) (fun _ _ _ => 0)
      case atStart => exact ⟨rfl, rfl, rfl⟩
      case round =>
        obtain ⟨rfl, rfl, rfl⟩ := hrel
        go_wp2_with fail
        refine (RD.out _ W2.out D2.out).mono ?_; rintro z w3 ⟨rfl, hb⟩
        have B3 := Lib.hid (bstep B2.out hb)
        clear hb
        go_wp2_with fail
        go_ret2
        exact FIN.out _ _ _ HH.out (NILS.out _) B3.out
    | false =>
      have HH := Lib.hid (H3.out hdd)
      have RD : Hid (∀ k : Nat, k < 2 → ∀ W, DkW W aD aA → DiskAt W g mb cb 4096 kv d → Calls Tryz.prog 24 #[.pointer (some ⟨g, 0, none⟩), .int .i64 (k : Int)] W fun e w' => e = .returned (.tuple #[.string (secB b0 b1 k), .int .i64 0]) ∧ Below W.heap.size W w') := by
        intro k hk W h1 h2
        have := disk_Read (k : Int) (wf64_of (by omega) (by omega)) g mb cb 4096 kv d aD aA W h1 h2
        rw [read_ok hdd (by omega)] at this
        have e : d.tell (k : Int) = secB b0 b1 k := by
          unfold secB
          rcases (show k = 0 ∨ k = 1 by omega) with rfl | rfl
          · rw [HB0.out]; rfl
          · rw [HB1.out]; rfl
        rw [e] at this; exact this
      clear hdd H2 H3
      go_wp2_with fail
      go_loopw [6, 20] (fun v c wr => ∃ k : Nat, k ≤ 2 ∧ c = .int .i64 k ∧ wr.ownsRow w2.heap.size 54 3 v (accH P b0 b1 k).length (hdCells (accH P b0 b1 k)) ∧ Below w2.heap.size w2 wr) (fun _ c _ => 2 - (intOf c).toNat)
      case atStart => exact ⟨0, by decide, rfl, World.ownsRow_nil _ _ _ _, Below.refl _ _⟩
      case round =>
        obtain ⟨k, hk, rfl, hR, hB⟩ := hrel
        have RW := Lib.hid hR; have BW := Lib.hid hB
        clear hR hB
        by_cases hlt : k < 2
        · have hki : (k : Int) < 2 := by omega
          have R1 := Lib.hid (RD.out k hlt)
          obtain ⟨b, hb⟩ : ∃ b, b = secB b0 b1 k := ⟨_, rfl⟩
          have HBk := Lib.hid hb
          rw [← hb] at R1
          have bd := dec_bd b
          have DE := Lib.hid (fun W h => head_Decode b a0 a1 a2 W h)
          have hP := pickH_def P b (k : Int)
          obtain ⟨h, cd, hdc⟩ : ∃ h cd, decH b = (h, cd) := ⟨_, _, rfl⟩
          rw [hdc] at DE hP bd
          obtain ⟨e, r, f⟩ := h
          unfold Hd.v at DE
          dsimp only at DE hP bd
          have m1 : e.tmod 2 = e % 2 := Int.tmod_eq_emod_of_nonneg bd.1
          have m2 : IntKind.i64.wrap (e % 2) = e % 2 := IntWalk.i64_in _ (by omega)
          clear hb hdc
          go_wp2_with fail
          refine (R1.out _ (W2.out.below BW.out) (D2.out.below BW.out)).mono ?_; rintro z w3 ⟨rfl, hb⟩
          have B3 := Lib.hid (bstep BW.out hb)
          have RB3 := Lib.hid hb
          clear hb
          go_wp2_with fail
          refine (DE.out _ (F2.out.below B3.out)).mono ?_; rintro z w4 ⟨rfl, hb⟩
          have B4 := Lib.hid (bstep B3.out hb)
          have RB4 := Lib.hid (bstep RB3.out hb)
          clear hb
          go_upto_region 12 with (fail)
          obtain ⟨w5, hw5⟩ : ∃ w5, w5 = w4.alloc (.cells #[.int .u32 e, .int .i64 r, .int .u32 f] 54) := ⟨_, rfl⟩
          have B5 : Hid (Below w2.heap.size w2 w5) := by show Below _ _ _; rw [hw5]; exact bstep B4.out (below_a1 _ _)
          have R5 : Hid (Below wr.heap.size wr w5) := by show Below _ _ _; rw [hw5]; exact bstep RB4.out (below_a1 _ _)
          have X5 : Hid (w5.heap[w4.heap.size]? = some (.cells #[.int .u32 e, .int .i64 r, .int .u32 f] 54 (0, 0))) := by show _ = _; rw [hw5]; exact blk_new _ _
          have Y5 : Hid (w5.heap[w1.heap.size]? = some (.cells #[.int .i64 x0, .int .i64 x1, .int .i64 x2, .int .i64 P] 56 (0, 0))) := blk_below Y2.out B5.out
          rw [← hw5]
          clear hw5
          have hx5 := blk_cell X5.out
          have hy5 := blk_cell Y5.out
          by_cases q1 : cd = 0
          · subst q1
            by_cases q2 : e % 2 = (k : Int)
            · have q2b : (e % 2 == (k : Int)) = true := by rw [beq_iff_eq]; exact q2
              by_cases q3 : r < P
              · rw [if_pos ⟨rfl, q2, q3⟩] at hP
                obtain ⟨h, hh⟩ : ∃ h, h = Hd.mk e r f := ⟨_, rfl⟩
                rw [← hh] at hP
                have PK : Hid (k < 2 ∧ pickH P (secB b0 b1 k) (k : Int) = [h]) := ⟨hlt, by rw [← HBk.out]; exact hP⟩
                obtain ⟨rfl, rfl, rfl⟩ : e = h.e ∧ r = h.r ∧ f = h.f := by rw [hh]; exact ⟨rfl, rfl, rfl⟩
                clear hP hh q2
                go_wp2_with (at_builtin; refine wpList_append_own_wide _ rfl _ _ _ rfl w2.heap.size 54 i0 _ 3 24 Tryz.underlying77 ih i1 i2 i3 (by decide) (by decide) _ (accH P b0 b1 k).length (hdCells (accH P b0 b1 k)) rfl ((row_bel RW.out R5.out).alloc _) ⟨w5.heap.size, 0, none⟩ 1 1 (hdCells [h]) rfl rfl new_hd (by simp [hdCells, Hd.enc, Value.oneCell']) (by have := acc_len P b0 b1 k; simp only [maxLen]; omega) (by have := acc_len P b0 b1 k; omega) (by have := B5.out.size; simp; omega) ?_; intro v' w6 k1 k2 _; have K1 := Lib.hid k1; have K2 := Lib.hid (bel_row (B5.out.alloc B5.out.size _) (by have := B5.out.size; simp; omega) ((row_bel RW.out R5.out).alloc _) k2); clear k1 k2)
                go_roundw
                case rel =>
                  refine ⟨k + 1, by omega, by go_num, ?_, K2.out⟩
                  have := K1.out
                  rw [← hdCells_append, ← acc_put PK.out] at this
                  rw [show (accH P b0 b1 (k + 1)).length = (accH P b0 b1 k).length + 1 by rw [acc_put PK.out]; simp]
                  exact this
                case measure => simp [intOf]; omega
              · rw [if_neg (fun h => q3 h.2.2)] at hP
                have PK : Hid (k < 2 ∧ pickH P (secB b0 b1 k) (k : Int) = []) := ⟨hlt, by rw [← HBk.out]; exact hP⟩
                clear hP q2
                go_wp2_with fail
                go_roundw
                case rel =>
                  refine ⟨k + 1, by omega, by go_num, ?_, B5.out⟩
                  rw [acc_skip PK.out]
                  exact row_bel RW.out R5.out
                case measure => simp [intOf]; omega
            · have q2b : (e % 2 == (k : Int)) = false := by rw [beq_eq_false_iff_ne]; exact q2
              rw [if_neg (fun h => q2 h.2.1)] at hP
              have PK : Hid (k < 2 ∧ pickH P (secB b0 b1 k) (k : Int) = []) := ⟨hlt, by rw [← HBk.out]; exact hP⟩
              clear hP q2
              go_wp2_with fail
              go_roundw
              case rel =>
                refine ⟨k + 1, by omega, by go_num, ?_, B5.out⟩
                rw [acc_skip PK.out]
                exact row_bel RW.out R5.out
              case measure => simp [intOf]; omega
          · have q1b : (cd == 0) = false := by rw [beq_eq_false_iff_ne]; exact q1
            rw [if_neg (fun h => q1 h.1)] at hP
            have PK : Hid (k < 2 ∧ pickH P (secB b0 b1 k) (k : Int) = []) := ⟨hlt, by rw [← HBk.out]; exact hP⟩
            clear hP q1
            go_wp2_with fail
            go_roundw
            case rel =>
              refine ⟨k + 1, by omega, by go_num, ?_, B5.out⟩
              rw [acc_skip PK.out]
              exact row_bel RW.out R5.out
            case measure => simp [intOf]; omega
        · have hki : ¬ (k : Int) < 2 := by omega
          obtain rfl : k = 2 := by omega
          go_wp2_with fail
          refine (sort_heads _ _ (acc_len P b0 b1 2) w2.heap.size wr RW.out).mono ?_; rintro z w3 ⟨rfl, hs, hf⟩
          have S3 := Lib.hid hs
          have B3 : Hid (Below w2.heap.size w2 w3) := ⟨hf.os.trans BW.out.os, hf.tape.trans BW.out.tape, hf.output.trans BW.out.output, Nat.le_trans BW.out.size hf.size, fun k hk => (hf.block k (Nat.lt_of_lt_of_le hk BW.out.size) (by omega)).trans (BW.out.block k hk)⟩
          clear hs hf
          go_wp2_with fail
          go_ret2
          exact FIN.out _ _ _ HH.out S3.out (bstep B2.out B3.out)
  · have HH := Lib.hid (hH1 c0)
    have q0 : (c != 0) = true := by rw [bne_iff_ne]; exact c0
    clear hH1 hH2 hH3 hx c0 hw hf hd
    go_enter Tryz.func38, Tryz.ntmps38
    go_wp2_with fail
    refine LY.out.mono ?_; rintro z w1 ⟨rfl, hb⟩
    have B1 := Lib.hid hb
    clear hb
    go_wp2_with fail
    go_ret2
    exact FIN.out _ _ _ HH.out (NILS.out _) (bstep B1.out (below_a1 _ _))
end Go.Proofs.YtoebldemcgahnaaGreatDoor
