/- Heads (layer 20): the heads of the document's disk. -/
import Derived.Test.YtoebldemcgahnaaGreatDoorJi
import Derived.Test.YtoebldemcgahnaaGreatDoorJd
import Derived.Test.YtoebldemcgahnaaGreatDoorJf
import Derived.StillTailTactics
namespace Go.Proofs.YtoebldemcgahnaaGreatDoor
open Go.RowKit
theorem Tryz.info65 : (Tryz.prog.info? 65).map (fun i => (i.zero, i.size, i.bytes)) = some (some (.agg #[.int .u32 0, .int .i64 0, .int .u32 0]), 3, 24) := by kernel_rfl
theorem new_hdr {w : World} {h : Hd} {t : TypeId} : ∀ j u, (hdCells [h])[j]? = some u → (w.alloc (.cells #[.int .u32 h.e, .int .i64 h.r, .int .u32 h.f] t)).cell? ((⟨w.heap.size, 0, none⟩ : Addr).add j) = some u := by
  intro j u hj
  have hadd : (⟨w.heap.size, 0, none⟩ : Addr).add j = ⟨w.heap.size, j, none⟩ := by unfold Addr.add; split <;> simp_all
  rw [hadd, blk_cell (blk_new _ _), ← Array.getElem?_toList]
  simpa [hdCells, Hd.enc] using hj
theorem sortH_one {l : List Hd} (h : l.length ≤ 1) : sortH l = l := by
  match l, h with
  | [], _ => rfl
  | [_], _ => rfl
  | _ :: _ :: _, h => simp at h
theorem acc_few {P : Int} {b0 b1 : ByteArray} {k : Nat} (hk : k < 2) : (accH P b0 b1 k).length ≤ 1 := by
  rcases (show k = 0 ∨ k = 1 by omega) with rfl | rfl
  · simp [accH]
  · exact pick_len P b0 0
theorem own_hds {w : World} {B : Nat} {e : TypeId} {n : Nat} {v : Value} {l : List Hd} (h : w.ownsRow B e 3 v n (hdCells l)) (hn : n = l.length) : SlHds w v l := by
  subst hn
  rcases h.2 with ⟨rfl, h0⟩ | ⟨g, cap, cur, rfl, hB, hb, h1, h3, h4, h5⟩
  · exact .inl ⟨rfl, List.eq_nil_of_length_eq_zero h0⟩
  · exact .inr ⟨g, 0, cap, rfl, h1, HdsAt.of_holds (holdsK_heads hb h5) (blk_lt hb)⟩
theorem own_two (w : World) (a b : Hd) (t : TypeId) {B : Nat} (hB : B ≤ w.heap.size) : (w.alloc (.cells #[.int .u32 a.e, .int .i64 a.r, .int .u32 a.f, .int .u32 b.e, .int .i64 b.r, .int .u32 b.f] t)).ownsRow B t 3 (.slice (some ⟨w.heap.size, 0, none⟩) 2 2) 2 (hdCells [a, b]) :=
  ⟨rfl, .inr ⟨w.heap.size, 2, _, rfl, hB, blk_new _ _, Nat.le_refl _, by simp [maxLen], rfl, rfl⟩⟩
set_option maxRecDepth 20000 in
set_option maxHeartbeats 16000000 in
theorem ref20_Read (q sb cb c1 c2 n : Nat) (kv : Value) (d : Dk) (ok : d.Ok) (w : World) (hd : RefAny w q sb cb c1 c2 n kv d) :
    Calls Tryz.prog 56 #[.pointer (some ⟨q, 0, none⟩)] w (HeadsP d.heads w) := by
  have hnn : (n : Int) = d.n := by obtain ⟨rn, h⟩ := hd; exact h.hn
  have LY := Lib.hid (fun W => ref20_Lay (n : Int) W)
  rw [hnn] at LY
  have hq0 := (ref_two hd).1
  have HD := Lib.hid hd
  obtain ⟨x, c, hx⟩ : ∃ x c, layN d.n = (x, c) := ⟨_, _, rfl⟩
  obtain ⟨x0, x1, x2, P⟩ := x
  have hH1 : c ≠ 0 → d.heads = ([], c) := fun h => by have := heads_lay (d := d) (by rw [hx]; exact h); rw [hx] at this; exact this
  have hH2 : c = 0 → d.dead = true → d.heads = ([], 74) := fun h => heads_dead (by rw [hx]; exact h)
  have hH3 : c = 0 → d.dead = false → d.heads = (sortH (accH P (d.tell 0) (d.tell 1) 2), 0) := fun h h' => by have := heads_ok (d := d) (by rw [hx]; exact h) h'; rw [hx] at this; exact this
  rw [hx] at LY
  rw [← hnn] at LY
  unfold layV at LY
  dsimp only at LY
  have FIN : Hid (∀ (L : List Hd × Int) v W, d.heads = L → SlHds W v L.1 → Below w.heap.size w W → HeadsP d.heads w (.returned (.tuple #[v, .int .i64 L.2])) W) := fun L v W e h1 h2 => by rw [e]; exact ⟨v, rfl, h1, h2⟩
  have NILS : Hid (∀ W, SlHds W (.slice none 0 0) []) := fun _ => .inl ⟨rfl, rfl⟩
  by_cases c0 : c = 0
  · subst c0
    have hn32 : 32 ≤ d.n := by
      unfold layN at hx
      split at hx
      · injection hx with _ h; omega
      · omega
    have H2 := Lib.hid (hH2 rfl); have H3 := Lib.hid (hH3 rfl)
    have Hnn := Lib.hid hnn
    clear hd hH1 hH2 hH3 hnn
    go_enter Tryz.func56, Tryz.ntmps56
    go_wp2_with fail
    refine (LY.out _).mono ?_; rintro z w1 ⟨rfl, hb⟩
    have B1 := Lib.hid hb
    clear hb hq0
    go_upto_region 4 with (fail)
    obtain ⟨w2, hw2⟩ : ∃ w2, w2 = w1.alloc (.cells #[.int .i64 x0, .int .i64 x1, .int .i64 x2, .int .i64 P] 59) := ⟨_, rfl⟩
    have B2 : Hid (Below w.heap.size w w2) := by show Below _ _ _; rw [hw2]; exact bstep B1.out (below_a1 _ _)
    have Y2 : Hid (w2.heap[w1.heap.size]? = some (.cells #[.int .i64 x0, .int .i64 x1, .int .i64 x2, .int .i64 P] 59 (0, 0))) := by show _ = _; rw [hw2]; exact blk_new _ _
    rw [← hw2]
    clear hw2
    have D2 := Lib.hid (HD.out.below B2.out)
    obtain ⟨b0, hb0⟩ : ∃ b, b = d.tell 0 := ⟨_, rfl⟩
    obtain ⟨b1, hb1⟩ : ∃ b, b = d.tell 1 := ⟨_, rfl⟩
    rw [← hb0, ← hb1] at H3
    have HB0 := Lib.hid hb0; have HB1 := Lib.hid hb1
    obtain ⟨i0, ih, i1, i2, i3⟩ := info_parts Tryz.info65
    clear hb0 hb1 hx
    cases hdd : d.dead with
    | true =>
      have HH := Lib.hid (H2.out hdd)
      have RD : Hid (∀ W, RefAny W q sb cb c1 c2 n kv d → Calls Tryz.prog 100 #[.pointer (some ⟨q, 0, none⟩), .int .i64 0] W fun e w' => e = .returned (.tuple #[.string ⟨#[]⟩, .int .i64 74]) ∧ W = w') := by
        intro W h
        obtain ⟨rn, h⟩ := h
        have := ref_Read 0 q sb cb c1 c2 n rn kv d ok.sc W h
        rw [show d.read 0 = (⟨#[]⟩, 74) by unfold Dk.read Dk.may; rw [hdd]; rfl] at this
        exact this
      clear hdd H2 H3
      go_wp2_with fail
      go_loopw [6, 7] (fun v c wr => v = .slice none 0 0 ∧ c = .int .i64 0 ∧ wr = w2) (fun _ _ _ => 0)
      case atStart => exact ⟨rfl, rfl, rfl⟩
      case round =>
        obtain ⟨rfl, rfl, rfl⟩ := hrel
        go_wp2_with fail
        refine (RD.out _ D2.out).mono ?_; rintro z w3 ⟨rfl, rfl⟩
        go_wp2_with fail
        go_ret2
        exact FIN.out _ _ _ HH.out (NILS.out _) B2.out
    | false =>
      have HH := Lib.hid (H3.out hdd)
      have RD : Hid (∀ k : Nat, k < 2 → ∀ W, RefAny W q sb cb c1 c2 n kv d → Calls Tryz.prog 100 #[.pointer (some ⟨q, 0, none⟩), .int .i64 (k : Int)] W fun e w' => e = .returned (.tuple #[.string (secB b0 b1 k), .int .i64 0]) ∧ W = w') := by
        intro k hk W h
        obtain ⟨rn, h⟩ := h
        have := ref_Read (k : Int) q sb cb c1 c2 n rn kv d ok.sc W h
        rw [read_ok hdd (by omega)] at this
        have e : d.tell (k : Int) = secB b0 b1 k := by
          unfold secB
          rcases (show k = 0 ∨ k = 1 by omega) with rfl | rfl
          · rw [HB0.out]; rfl
          · rw [HB1.out]; rfl
        rw [e] at this; exact this
      clear hdd H2 H3
      go_wp2_with fail
      go_loopw [6, 7] (fun v c wr => ∃ k : Nat, k ≤ 2 ∧ c = .int .i64 k ∧ wr.ownsRow w2.heap.size 65 3 v (sortH (accH P b0 b1 k)).length (hdCells (sortH (accH P b0 b1 k))) ∧ Below w2.heap.size w2 wr) (fun _ c _ => 2 - (intOf c).toNat)
      case atStart => exact ⟨0, by decide, rfl, World.ownsRow_nil _ _ _ _, Below.refl _ _⟩
      case round =>
        obtain ⟨k, hk, rfl, hR, hB⟩ := hrel
        have RW := Lib.hid hR; have BW := Lib.hid hB
        clear hR hB
        by_cases hlt : k < 2
        · have hki : (k : Int) < 2 := by omega
          have R1 := Lib.hid (RD.out k hlt)
          obtain ⟨b, hb⟩ : ∃ b, b = secB b0 b1 k := ⟨_, rfl⟩
          have HBk := Lib.hid hb
          rw [← hb] at R1
          have bd := dec_bd b
          have DE := Lib.hid (fun W => ref20_Decode b W)
          have hP := pickH_def P b (k : Int)
          obtain ⟨h, cd, hdc⟩ : ∃ h cd, decH b = (h, cd) := ⟨_, _, rfl⟩
          rw [hdc] at DE hP bd
          obtain ⟨e, r, f⟩ := h
          unfold Hd.v at DE
          dsimp only at DE hP bd
          have m1 : e.tmod 2 = e % 2 := Int.tmod_eq_emod_of_nonneg bd.1
          have m2 : IntKind.i64.wrap (e % 2) = e % 2 := IntWalk.i64_in _ (by omega)
          clear hb hdc
          go_wp2_with fail
          refine (R1.out _ (D2.out.below BW.out)).mono ?_; rintro z w3 ⟨rfl, rfl⟩
          go_wp2_with fail
          refine (DE.out _).mono ?_; rintro z w4 ⟨rfl, hb⟩
          have B4 := Lib.hid (bstep BW.out hb)
          have RB4 := Lib.hid hb
          clear hb
          go_upto_region 14 with (fail)
          obtain ⟨w5, hw5⟩ : ∃ w5, w5 = w4.alloc (.cells #[.int .u32 e, .int .i64 r, .int .u32 f] 65) := ⟨_, rfl⟩
          have B5 : Hid (Below w2.heap.size w2 w5) := by show Below _ _ _; rw [hw5]; exact bstep B4.out (below_a1 _ _)
          have R5 : Hid (Below wr.heap.size wr w5) := by show Below _ _ _; rw [hw5]; exact bstep RB4.out (below_a1 _ _)
          have X5 : Hid (w5.heap[w4.heap.size]? = some (.cells #[.int .u32 e, .int .i64 r, .int .u32 f] 65 (0, 0))) := by show _ = _; rw [hw5]; exact blk_new _ _
          have Y5 : Hid (w5.heap[w1.heap.size]? = some (.cells #[.int .i64 x0, .int .i64 x1, .int .i64 x2, .int .i64 P] 59 (0, 0))) := blk_below Y2.out B5.out
          rw [← hw5]
          clear hw5
          have hx5 := blk_cell X5.out
          have hy5 := blk_cell Y5.out
          by_cases q1 : cd = 0
          · subst q1
            by_cases q2 : e % 2 = (k : Int)
            · have q2b : (e % 2 != (k : Int)) = false := by rw [bne_eq_false_iff_eq]; exact q2
              by_cases q3 : r < P
              · have q3n : ¬ P ≤ r := by omega
                rw [if_pos ⟨rfl, q2, q3⟩] at hP
                obtain ⟨h, hh⟩ : ∃ h, h = Hd.mk e r f := ⟨_, rfl⟩
                rw [← hh] at hP
                have PK : Hid (k < 2 ∧ pickH P (secB b0 b1 k) (k : Int) = [h]) := ⟨hlt, by rw [← HBk.out]; exact hP⟩
                obtain ⟨rfl, rfl, rfl⟩ : e = h.e ∧ r = h.r ∧ f = h.f := by rw [hh]; exact ⟨rfl, rfl, rfl⟩
                clear hP hh q2
                have hf1 := acc_few (P := P) (b0 := b0) (b1 := b1) hlt
                have NX : Hid (accH P b0 b1 (k + 1) = accH P b0 b1 k ++ [h]) := acc_put PK.out
                obtain ⟨L, hL⟩ : ∃ L, L = accH P b0 b1 k := ⟨_, rfl⟩
                rw [← hL] at hf1 NX RW
                rw [sortH_one hf1] at RW
                clear hL
                match L, hf1, NX, RW with
                | [], _, NX, RW =>
                  have RW2 : Hid (w5.ownsRow w2.heap.size 65 3 u6 0 (hdCells [])) := row_bel RW.out R5.out
                  have SE : Hid (sortH (accH P b0 b1 (k + 1)) = [h]) := by show _ = _; rw [NX.out]; rfl
                  obtain ⟨p, cp, hu⟩ : ∃ p cp, u6 = .slice p 0 cp := by
                    rcases RW2.out.2 with ⟨h, _⟩ | ⟨g, cap, cur, h, _⟩
                    · exact ⟨_, _, h⟩
                    · exact ⟨_, _, h⟩
                  subst hu
                  clear RW
                  go_wp2_with fail
                  go_quiet (fail)
                  obtain ⟨w6, hw6⟩ : ∃ w6, w6 = w5.drewN nq := ⟨_, rfl⟩
                  have R6 : Hid (Below w5.heap.size w5 w6) := by show Below _ _ _; rw [hw6]; exact below_dN _ _
                  have B6 := Lib.hid (bstep B5.out R6.out)
                  have RW6 := Lib.hid (row_bel RW2.out R6.out)
                  have hx6 := blk_cell (blk_below X5.out R6.out)
                  rw [← hw6]
                  clear hw6 hx5 hy5
                  go_wp2_with (at_builtin; refine wpList_append_own_wide _ rfl _ _ _ rfl w2.heap.size 65 i0 _ 3 24 Tryz.underlying103 ih i1 i2 i3 (by decide) (by decide) _ 0 (hdCells []) rfl (RW6.out.alloc _) ⟨w6.heap.size, 0, none⟩ 1 1 (hdCells [h]) rfl rfl new_hdr (by simp [hdCells, Hd.enc, Value.oneCell']) (by simp only [maxLen]; omega) (by omega) (by have := B6.out.size; simp; omega) ?_; intro v' w8 k1 k2 _; have K1 := Lib.hid k1; have K2 := Lib.hid (bel_row (B6.out.alloc B6.out.size _) (by have := B6.out.size; simp; omega) (RW6.out.alloc _) k2); clear k1 k2)
                  go_roundw
                  case rel =>
                    refine ⟨k + 1, by omega, by go_num, ?_, K2.out⟩
                    rw [SE.out]
                    exact K1.out
                  case measure => simp [intOf]; omega
                | [a], _, NX, RW =>
                  have RW2 : Hid (w5.ownsRow w2.heap.size 65 3 u6 1 (hdCells [a])) := row_bel RW.out R5.out
                  obtain ⟨g, cp, hu, hat⟩ : ∃ g cp, u6 = .slice (some ⟨g, 0, none⟩) 1 cp ∧ HdsAt w5 g 0 [a] := by
                    rcases RW2.out.2 with ⟨_, h⟩ | ⟨g, cap, cur, h, hB, hb, h1, h3, h4, h5⟩
                    · exact absurd h (by decide)
                    · exact ⟨g, cap, h, HdsAt.of_holds (holdsK_heads (l := [a]) hb h5) (blk_lt hb)⟩
                  subst hu
                  have ca : w5.cell? ⟨g, 0, none⟩ = some (.int .u32 a.e) := hat.ce 0 (by simp)
                  have HA := Lib.hid hat
                  clear RW hat
                  by_cases hgt : a.e < h.e
                  · have SE : Hid (sortH (accH P b0 b1 (k + 1)) = [h, a]) := by show _ = _; rw [NX.out]; unfold sortH; simp only [List.cons_append, List.nil_append]; rw [if_pos hgt]
                    go_wp2_with fail
                    go_quiet (fail)
                    obtain ⟨w6, hw6⟩ : ∃ w6, w6 = w5.drewN nq := ⟨_, rfl⟩
                    have R6 : Hid (Below w5.heap.size w5 w6) := by show Below _ _ _; rw [hw6]; exact below_dN _ _
                    have B6 := Lib.hid (bstep B5.out R6.out)
                    have RW6 := Lib.hid (row_bel RW2.out R6.out)
                    have hx6 := blk_cell (blk_below X5.out R6.out)
                    rw [← hw6]
                    clear hw6 hx5 hy5
                    have HA6 := HA.out.below R6.out
                    have ca0 : w6.cell? ⟨g, 0, none⟩ = some (.int .u32 a.e) := HA6.ce 0 (by simp)
                    have ca1 : w6.cell? ⟨g, 1, none⟩ = some (.int .i64 a.r) := HA6.cr 0 (by simp)
                    have ca2 : w6.cell? ⟨g, 2, none⟩ = some (.int .u32 a.f) := HA6.cf 0 (by simp)
                    obtain ⟨w7, hw7⟩ : ∃ w7, w7 = w6.drew := ⟨_, rfl⟩
                    have B7 : Hid (Below w2.heap.size w2 w7) := by show Below _ _ _; rw [hw7]; exact bstep B6.out ⟨rfl, rfl, rfl, Nat.le_refl _, fun _ _ => rfl⟩
                    have hx7 : ∀ o, w6.drew.cell? ⟨w4.heap.size, o, none⟩ = (#[.int .u32 h.e, .int .i64 h.r, .int .u32 h.f] : Array Value)[o]? := hx6
                    have cb0 : w6.drew.cell? ⟨g, 0, none⟩ = some (.int .u32 a.e) := ca0
                    have cb1 : w6.drew.cell? ⟨g, 1, none⟩ = some (.int .i64 a.r) := ca1
                    have cb2 : w6.drew.cell? ⟨g, 2, none⟩ = some (.int .u32 a.f) := ca2
                    go_wp2_with fail
                    go_still_tail 4, (by kernel_rfl)
                    change wpList _ _ _ _ _ w6.drew
                    rw [← hw7]
                    clear hw7 hx6 ca0 ca1 ca2 hx7 cb0 cb1 cb2 HA6
                    go_wp2_with fail
                    go_roundw
                    case rel =>
                      refine ⟨k + 1, by omega, by go_num, ?_, B7.out.alloc B7.out.size _⟩
                      rw [SE.out]
                      exact own_two w7 h a _ B7.out.size
                    case measure => simp [intOf]; omega
                  · have SE : Hid (sortH (accH P b0 b1 (k + 1)) = [a, h]) := by show _ = _; rw [NX.out]; unfold sortH; simp only [List.cons_append, List.nil_append]; rw [if_neg hgt]
                    go_wp2_with fail
                    go_quiet (fail)
                    obtain ⟨w6, hw6⟩ : ∃ w6, w6 = w5.drewN nq := ⟨_, rfl⟩
                    have R6 : Hid (Below w5.heap.size w5 w6) := by show Below _ _ _; rw [hw6]; exact below_dN _ _
                    have B6 := Lib.hid (bstep B5.out R6.out)
                    have RW6 := Lib.hid (row_bel RW2.out R6.out)
                    have hx6 := blk_cell (blk_below X5.out R6.out)
                    rw [← hw6]
                    clear hw6 hx5 hy5
                    go_wp2_with (at_builtin; refine wpList_append_own_wide _ rfl _ _ _ rfl w2.heap.size 65 i0 _ 3 24 Tryz.underlying103 ih i1 i2 i3 (by decide) (by decide) _ 1 (hdCells [a]) rfl (RW6.out.alloc _) ⟨w6.heap.size, 0, none⟩ 1 1 (hdCells [h]) rfl rfl new_hdr (by simp [hdCells, Hd.enc, Value.oneCell']) (by simp only [maxLen]; omega) (by omega) (by have := B6.out.size; simp; omega) ?_; intro v' w8 k1 k2 _; have K1 := Lib.hid k1; have K2 := Lib.hid (bel_row (B6.out.alloc B6.out.size _) (by have := B6.out.size; simp; omega) (RW6.out.alloc _) k2); clear k1 k2)
                    go_roundw
                    case rel =>
                      refine ⟨k + 1, by omega, by go_num, ?_, K2.out⟩
                      rw [SE.out]
                      exact K1.out
                    case measure => simp [intOf]; omega
                | _ :: _ :: _, hf1, _, _ => exact absurd hf1 (by simp)
              · have q3n : P ≤ r := by omega
                rw [if_neg (fun h => q3 h.2.2)] at hP
                have PK : Hid (k < 2 ∧ pickH P (secB b0 b1 k) (k : Int) = []) := ⟨hlt, by rw [← HBk.out]; exact hP⟩
                clear hP q2
                go_wp2_with fail
                go_roundw
                case rel =>
                  refine ⟨k + 1, by omega, by go_num, ?_, B5.out⟩
                  rw [acc_skip PK.out]
                  exact row_bel RW.out R5.out
                case measure => simp [intOf]; omega
            · have q2b : (e % 2 != (k : Int)) = true := by rw [bne_iff_ne]; exact q2
              rw [if_neg (fun h => q2 h.2.1)] at hP
              have PK : Hid (k < 2 ∧ pickH P (secB b0 b1 k) (k : Int) = []) := ⟨hlt, by rw [← HBk.out]; exact hP⟩
              clear hP q2
              go_wp2_with fail
              go_roundw
              case rel =>
                refine ⟨k + 1, by omega, by go_num, ?_, B5.out⟩
                rw [acc_skip PK.out]
                exact row_bel RW.out R5.out
              case measure => simp [intOf]; omega
          · have q1b : (cd != 0) = true := by rw [bne_iff_ne]; exact q1
            rw [if_neg (fun h => q1 h.1)] at hP
            have PK : Hid (k < 2 ∧ pickH P (secB b0 b1 k) (k : Int) = []) := ⟨hlt, by rw [← HBk.out]; exact hP⟩
            clear hP q1
            go_wp2_with fail
            go_roundw
            case rel =>
              refine ⟨k + 1, by omega, by go_num, ?_, B5.out⟩
              rw [acc_skip PK.out]
              exact row_bel RW.out R5.out
            case measure => simp [intOf]; omega
        · have hki : ¬ (k : Int) < 2 := by omega
          obtain rfl : k = 2 := by omega
          go_wp2_with fail
          go_ret2
          exact FIN.out _ _ _ HH.out (own_hds RW.out rfl) (bstep B2.out BW.out)
  · have HH := Lib.hid (hH1 c0)
    have q0 : (c != 0) = true := by rw [bne_iff_ne]; exact c0
    clear hH1 hH2 hH3 hx c0 hd hnn
    go_enter Tryz.func56, Tryz.ntmps56
    go_wp2_with fail
    refine (LY.out _).mono ?_; rintro z w1 ⟨rfl, hb⟩
    have B1 := Lib.hid hb
    clear hb hq0
    go_wp2_with fail
    go_ret2
    exact FIN.out _ _ _ HH.out (NILS.out _) (bstep B1.out (below_a1 _ _))
end Go.Proofs.YtoebldemcgahnaaGreatDoor
