/- The log (layer 21): the law WalPlays. -/
import Derived.Test.YtdbiebnnogjccaaGreatDoorWzf
import Derived.Test.YtdbiebnnogjccaaGreatDoorDzg
namespace Go.Proofs.YtdbiebnnogjccaaGreatDoor
open Go.RowKit
section
variable {w w' w0 : World} {X : Nat} {OX : Obj} {g mb cb q sb rb c1 c2 nn : Nat} {v u : Value} {ox : Option Wl} {d e : Dk}
theorem Bth.nilP {oy : Option Wl} (h : Bth w0 w X OX g mb cb q sb rb c1 c2 nn v none d u oy e) : v = .pointer none := by
  obtain ⟨F, K, G, R, ⟨kv, _, _, _, _, hv, _⟩, _⟩ := h.ex; exact hv
theorem Bth.nilR (h : Bth w0 w X OX g mb cb q sb rb c1 c2 nn v ox d u none e) : u = .pointer none := by
  obtain ⟨F, K, G, R, _, ⟨kr, _, _, _, hu, _⟩, _⟩ := h.ex; exact hu
theorem Bth.ptrP {oy : Option Wl} {x : Wl} (h : Bth w0 w X OX g mb cb q sb rb c1 c2 nn v (some x) d u oy e) : ∃ p, v = .pointer (some ⟨p, 0, none⟩) := by
  obtain ⟨F, K, G, R, ⟨kv, _, _, _, _, p, rv, hv, _⟩, _⟩ := h.ex; exact ⟨p, hv⟩
theorem Bth.ptrR {x : Wl} (h : Bth w0 w X OX g mb cb q sb rb c1 c2 nn v ox d u (some x) e) : ∃ y, u = .pointer (some ⟨y, 0, none⟩) := by
  obtain ⟨F, K, G, R, _, ⟨kr, _, _, _, y, vr, hu, _⟩, _⟩ := h.ex; exact ⟨y, hu⟩
theorem b_same (h : Bth w0 w X OX g mb cb q sb rb c1 c2 nn v ox d u ox d) : Calls Tryz.prog 24 #[v, u] w fun z w' => z = .returned (.bool true) ∧ Below w.heap.size w w' := by
  cases ox with
  | none =>
    obtain rfl := h.nilP
    obtain rfl := h.nilR
    exact same_nil w
  | some x =>
    obtain ⟨F, K, G, R, hp, hr, _⟩ := h.ex
    obtain ⟨kv, p, rv, _, rfl, hq, _⟩ := hp.log
    obtain ⟨kr, y, vr, rfl, hy, _⟩ := hr.log
    exact same_some w hq.log hy.log
theorem b_Same {aD aA : Addr} (hn : (nn : Int) = d.n) (hw : DkW w aD aA) (h : Bth w0 w X OX g mb cb q sb rb c1 c2 nn v ox d u ox d) :
    Calls Tryz.prog 37 #[.pointer (some ⟨g, 0, none⟩), .pointer (some ⟨q, 0, none⟩)] w fun z w' => z = .returned (.bool true) ∧ Below w.heap.size w w' := by
  obtain ⟨F, K, G, R, ⟨kv, hd, ok, _⟩, ⟨kr, hr, _⟩, _⟩ := h.ex
  exact law19_Same g mb cb q sb rb c1 c2 nn kv kr d aD aA w hw hd hr ok hn
end
theorem start_nW (d : Dk) : d.start.n = d.n := rfl
theorem sync_nW (d : Dk) (x : Wl) : (d.sync x).1.n = d.n := by unfold Dk.sync; split; rfl; exact flush_nW d
set_option maxRecDepth 100000 in
set_option maxHeartbeats 16000000 in
theorem law21_WalPlays (n first : Int) (v : Value) (L : List Stp) (f0 : 0 ≤ first) (f1 : first < 4294967296) (a0 a1 a2 aD aA bD bL bF : Addr) (w : World) (hl : L.length ≤ 9223372036854775807) (ht : ∀ x ∈ L, wf64 x.k ∧ wf64 x.n ∧ x.s.size ≤ 9223372036854775807) (hv : SlStps w v L) (hw : WlW w a0 a1 a2 aD aA bD bL bF) :
    Calls Tryz.prog 4 #[.int .i64 n, .int .u32 first, v] w fun e w' => e = .returned (.bool true) ∧ Below w.heap.size w w' := by
  have HW := Lib.hid hw
  have WK := Lib.hid (fun W h => wakes21 a0 a1 a2 aD aA bD bL bF W h)
  have HV := Lib.hid hv
  have HT := Lib.hid ht
  have FA := Lib.hid (law21_Fair v L hl w hv)
  obtain ⟨pv, cv, rfl, _⟩ := hv.form
  clear hw hv hl ht
  obtain ⟨m, hm⟩ : ∃ m, m = L.length := ⟨_, rfl⟩
  rw [← hm] at HV FA ⊢
  have HM := Lib.hid hm
  clear hm
  have DB := Lib.hid (fun hn W => disk_New_bad n hn W)
  have RB := Lib.hid (fun hn W => ref_New_bad n hn W)
  go_enter Tryz.func4, Tryz.ntmps4
  go_wp2_with fail
  refine FA.out.mono ?_; rintro e w3 ⟨rfl, fb, rfl, hfb⟩
  cases fb with
  | false =>
    clear hfb
    go_wp2_with fail
    refine (WK.out _ HW.out).mono ?_; rintro e w3 ⟨rfl, hb⟩
    have B3 := Lib.hid hb
    clear hb
    go_wp2_with fail
    go_ret
    exact ⟨rfl, B3.out⟩
  | true =>
  obtain ⟨hf60, hfx⟩ := hfb rfl
  have HF := Lib.hid hfx
  have m60 : m ≤ 60 := by have := HM.out; omega
  clear hfb hfx FA hf60
  by_cases n4 : 400 < n
  · clear DB RB
    go_wp2_with fail
    refine (WK.out _ HW.out).mono ?_; rintro e w3 ⟨rfl, hb⟩
    have B3 := Lib.hid hb
    clear hb
    go_wp2_with fail
    go_ret
    exact ⟨rfl, B3.out⟩
  by_cases n1 : n < 1
  · have D1 := Lib.hid (DB.out (.inl n1))
    have R1 := Lib.hid (RB.out (.inl n1))
    clear DB RB n1
    go_wp2_with fail
    refine (D1.out _).mono ?_; rintro e w1 ⟨rfl, rfl⟩
    go_wp2_with fail
    refine (R1.out _).mono ?_; rintro e w1 ⟨rfl, rfl⟩
    go_wp2_with fail
    refine (WK.out _ HW.out).mono ?_; rintro e w3 ⟨rfl, hb⟩
    have B3 := Lib.hid hb
    clear hb
    go_wp2_with fail
    go_ret
    exact ⟨rfl, B3.out⟩
  clear DB RB
  obtain ⟨nn, rfl⟩ : ∃ k : Nat, n = (k : Int) := ⟨n.toNat, by omega⟩
  have NW := Lib.hid (fun W => disk_New (nn : Int) (by omega) (by omega) W)
  have RN := Lib.hid (fun W => ref_New nn (by omega) (by omega) W)
  have O0 : Hid (Dk.new (nn : Int)).Ok := Dk.Ok.new (by omega) (by omega)
  have N0 : Hid ((nn : Int) = (Dk.new (nn : Int)).n) := rfl
  obtain ⟨d0, hd0⟩ : ∃ d, d = Dk.new (nn : Int) := ⟨_, rfl⟩
  unfold NewP at RN
  rw [← hd0] at NW RN O0 N0
  clear hd0 n1
  go_wp2_with fail
  refine (NW.out _).mono ?_; rintro e w1 ⟨rfl, hd, hb⟩
  obtain ⟨g, hg⟩ : ∃ g, g = w.heap.size + 2 := ⟨_, rfl⟩
  obtain ⟨cb, hcb⟩ : ∃ cb, cb = w.heap.size + 1 := ⟨_, rfl⟩
  obtain ⟨mb, hmb⟩ : ∃ mb, mb = w.heap.size := ⟨_, rfl⟩
  rw [← hg, ← hcb] at hd
  rw [← hg]
  have D1 : Hid (DiskAt w1 g mb cb 4096 (.slice none 0 0) d0) := by rw [hmb]; exact ⟨hd.blk, hd.hm.mono (by omega), hd.hc.mono (by omega), hd.hk, hd.n0, hd.n1, hd.gm, hd.gc, hd.mc, hd.kn⟩
  have LD : Hid (∀ x, DkS g mb cb x → w.heap.size ≤ x) := by rintro x (h | h | h) <;> omega
  have B1 := Lib.hid hb
  clear hd hb hg hcb hmb
  go_wp2_with fail
  refine (RN.out _).mono ?_; rintro e w2 ⟨q, sb, rb, c1, c2, rfl, hq, hsb, hrb, hr, hb⟩
  have B2 := Lib.hid (bstep B1.out hb)
  obtain ⟨OX, hOX⟩ : ∃ o, w.heap[8]? = some o := by
    have := World.block_lt_of_cell? w ⟨8, 0, none⟩ HW.out.h.d.vD
    exact ⟨_, Array.getElem?_eq_getElem this⟩
  have BT : Hid (Bth w w2 8 OX g mb cb q sb rb c1 c2 nn (.pointer none) none d0 (.pointer none) none d0) := by
    have hX := blk_lt hOX
    have s1 := B1.out.size
    have hD2 := D1.out.below hb
    have lD : ∀ b, DkS g mb cb b → b < w1.heap.size := by
      rintro x (rfl | rfl | rfl)
      · exact D1.out.lt
      · exact D1.out.hm.lt
      · exact D1.out.hc.lt
    have gR : ∀ b, RfS q sb rb b → w1.heap.size ≤ b := by rintro x (rfl | rfl | rfl) <;> omega
    refine ⟨⟨DkS g mb cb, kb d0 (.slice none 0 0), RfS q sb rb, kb d0 (.slice none 0 0), ⟨_, hD2, O0.out, rfl, LD.out, rfl, rfl⟩, ⟨_, hr, O0.out, (fun b hb => by have := gR b hb; omega), rfl, rfl, rfl⟩, fun b hb => ⟨fun h => by have := gR b h; have := lD b hb; omega, (fun ⟨_, off, m, c, e⟩ => by cases e), fun e => by have := LD.out b hb; omega⟩, fun b hb => ⟨(fun ⟨_, off, m, c, e⟩ => by cases e), fun e => by have := gR b hb; omega⟩⟩, B2.out, blk_below hOX B2.out⟩
  clear hr hb hq hsb hrb D1 B1 B2 NW RN LD hOX
  go_wp2_with fail
  have OP := Lib.hid (fun W k1 h => bp_Open (w := W) (w0 := w) (X := 8) (OX := OX) (g := g) (mb := mb) (cb := cb) (q := q) (sb := sb) (rb := rb) (c1 := c1) (c2 := c2) (nn := nn) (v := .pointer none) (u := .pointer none) (oy := none) (d := d0) (e := d0) first f0 f1 (a0 := a0) (a1 := a1) (a2 := a2) (aD := aD) (aA := aA) k1 h)
  have OR := Lib.hid (fun W v ox h => br_Open (w := W) (w0 := w) (X := 8) (OX := OX) (g := g) (mb := mb) (cb := cb) (q := q) (sb := sb) (rb := rb) (c1 := c1) (c2 := c2) (nn := nn) (v := v) (ox := ox) (u := .pointer none) (d := d0) (e := d0) first f0 f1 h)
  obtain ⟨ox, oc, hr⟩ : ∃ ox oc, d0.openW first = (ox, oc) := ⟨_, _, rfl⟩
  rw [hr] at OP OR
  clear hr
  unfold OpenB at OP
  unfold OpenR at OR
  dsimp only at OP OR
  have oo := int_self oc
  refine (OP.out _ (HW.out.h.below BT.out.bel) BT.out).mono ?_; rintro e w3 ⟨xv, rfl, hxn, hbt⟩
  have BT := Lib.hid hbt
  clear hbt hxn
  go_wp2_with fail
  refine (OR.out _ _ _ BT.out).mono ?_; rintro e w4 ⟨yv, rfl, hyn, hbt⟩
  have BT := Lib.hid hbt
  clear hbt hyn OP OR
  go_wp2_with fail
  refine (b_same BT.out).mono ?_; rintro e w5 ⟨rfl, hb⟩
  have BT := Lib.hid (BT.out.below hb)
  clear hb
  go_wp2_with fail
  go_loopw [11, 13, 15] (fun xv yv c wr => ∃ (i X : Nat) (OX : Obj) (ox : Option Wl) (d : Dk), c = .int .i64 i ∧ i ≤ m ∧ (nn : Int) = d.n ∧ Bth w wr X OX g mb cb q sb rb c1 c2 nn xv ox d yv ox d) (fun _ _ c _ => m - (intOf c).toNat)
  case atStart => exact ⟨0, _, _, _, d0, rfl, Nat.zero_le _, N0.out, BT.out⟩
  case round =>
    clear BT N0 oo
    obtain ⟨i, X0, OX0, ox, d, rfl, hik, hnn, hB⟩ := hrel
    have NN := Lib.hid hnn; have HB := Lib.hid hB
    clear hnn hB
    by_cases hlt : i < m
    · have hi : (i : Int) < (m : Int) := by omega
      have hi0 : (0 : Int) ≤ (i : Int) := by omega
      have v1 : IntKind.i64.wrap ((i : Int) + 1) = (i : Int) + 1 := IntWalk.i64_in _ (by omega)
      have hl : i < L.length := by have := HM.out; omega
      obtain ⟨b, off, rfl, hS⟩ := SlStps.atN HM.out HV.out hl
      obtain ⟨x, hx⟩ : ∃ x, x = L[i] := ⟨_, rfl⟩
      have c0 := hS.kind i hl
      have cc1 := hS.num i hl
      have cc2 := hS.str i hl
      obtain ⟨kv, c3, hk⟩ := hS.kep i hl
      have hxs := HF.out L[i] (List.getElem_mem hl)
      have hxt := HT.out L[i] (List.getElem_mem hl)
      rw [← hx] at c0 cc1 cc2 hk hxs hxt
      obtain ⟨kq, kc, rfl⟩ := hk.form
      obtain ⟨xk, xn, xs, xl⟩ := x
      dsimp only at c0 cc1 cc2 c3 hk hxs hxt
      have HK := Lib.hid hk
      have d0' := dk_cell c0 HB.out.bel
      have d1' := dk_cell cc1 HB.out.bel
      have d2' := dk_cell cc2 HB.out.bel
      have d3' := dk_cell c3 HB.out.bel
      have HX := Lib.hid hxs
      have HXT := Lib.hid hxt
      clear c0 cc1 cc2 c3 hk hxs hxt hx hS hl
      go_upto_region 17 with (fail)
      have BX := Lib.hid (HB.out.setX (.cells #[.int .i64 xk, .int .i64 xn, .string xs, .slice kq xl.length kc] 53))
      obtain ⟨y, hy⟩ : ∃ y, y = wr.alloc (.cells #[.int .i64 xk, .int .i64 xn, .string xs, .slice kq xl.length kc] 53) := ⟨_, rfl⟩
      obtain ⟨X, hX⟩ : ∃ Z, Z = wr.heap.size := ⟨_, rfl⟩
      rw [← hX, ← hy] at BX
      rw [← hX, ← hy]
      clear hy hX HB d0' d1' d2' d3'
      have hyc := blk_cell BX.out.blk
      go_upto_block 2 with (fail)
      go_cut [11, 13, 17, 18, 19, 20, 21, 22] (fun xv yv a b _ _ _ _ wc => ∃ (A : Int) (ox : Option Wl) (d : Dk), a = .int .i64 A ∧ b = .int .i64 A ∧ (nn : Int) = d.n ∧ Bth w wc X (.cells #[.int .i64 xk, .int .i64 xn, .string xs, .slice kq xl.length kc] 53 (0, 0)) g mb cb q sb rb c1 c2 nn xv ox d yv ox d)
      case first =>
        by_cases k0 : xk = 0
        · subst k0
          cases ox with
          | none =>
            obtain rfl := BX.out.nilR
            go_wp2_with fail
            go_meet
            exact ⟨0, _, _, rfl, rfl, NN.out, BX.out⟩
          | some x =>
            obtain ⟨py, hpy⟩ := BX.out.ptrR
            subst hpy
            have XO : Hid (∀ W : World, W.heap[X]? = some (.cells #[.int .i64 0, .int .i64 xn, .string xs, .slice kq xl.length kc] 53 (0, 0)) → W.cell? ⟨X, 1, none⟩ = some (.int .i64 xn) ∧ W.cell? ⟨X, 2, none⟩ = some (.string xs) ∧ W.cell? ⟨X, 3, none⟩ = some (.slice kq xl.length kc)) := fun W h => ⟨blk_cell h 1, blk_cell h 2, blk_cell h 3⟩
            have AP := Lib.hid (fun W oy e h => bp_Append (w := W) (w0 := w) (X := X) (OX := .cells #[.int .i64 0, .int .i64 xn, .string xs, .slice kq xl.length kc] 53 (0, 0)) (g := g) (mb := mb) (cb := cb) (q := q) (sb := sb) (rb := rb) (c1 := c1) (c2 := c2) (nn := nn) (v := u11) (u := .pointer (some ⟨py, 0, none⟩)) (oy := oy) (d := d) (e := e) (x := x) xs HW.out h)
            have AR := Lib.hid (fun W ox dd h => br_Append (w := W) (w0 := w) (X := X) (OX := .cells #[.int .i64 0, .int .i64 xn, .string xs, .slice kq xl.length kc] 53 (0, 0)) (g := g) (mb := mb) (cb := cb) (q := q) (sb := sb) (rb := rb) (c1 := c1) (c2 := c2) (nn := nn) (v := u11) (u := .pointer (some ⟨py, 0, none⟩)) (ox := ox) (d := dd) (e := d) (x := x) xs (by have := HX.out.1; omega) h)
            have N2 : Hid ((nn : Int) = (d.append x d.logs xs).1.n) := by show _ = _; rw [append_nW]; exact NN.out
            obtain ⟨d2, x2, e2, hr⟩ : ∃ d2 x2 e2, d.append x d.logs xs = (d2, x2, e2) := ⟨_, _, _, rfl⟩
            rw [hr] at AP AR N2
            dsimp only at AP AR N2
            clear hr
            go_upto_region 21 with (fail)
            have BT := Lib.hid (BX.out.below (below_d1 _))
            have S0 := XO.out _ BT.out.blk
            clear hyc BX
            go_region_held3 (fun w' => w'.cell? ⟨X, 1, none⟩ = some (.int .i64 xn) ∧ w'.cell? ⟨X, 2, none⟩ = some (.string xs) ∧ w'.cell? ⟨X, 3, none⟩ = some (.slice kq xl.length kc)) (first | exact S0 | assumption)
              (first
                | (go_at_call 14; refine (AP.out _ _ _ BT.out).mono ?_; rintro z' y' ⟨rfl, h⟩; have BT := Lib.hid h; have S0 := XO.out _ BT.out.blk; clear h)
                | (go_at_call 25; refine (AR.out _ _ _ BT.out).mono ?_; rintro z' y' ⟨rfl, h⟩; have BT := Lib.hid h; have S0 := XO.out _ BT.out.blk; clear h))
            all_goals
              clear S0
              go_wp2_with fail
              go_meet
              exact ⟨e2, _, _, rfl, rfl, N2.out, BT.out⟩
        have q0 : (xk == 0) = false := by rw [beq_eq_false_iff_ne]; exact k0
        by_cases k1 : xk = 1
        · subst k1
          cases ox with
          | none =>
            obtain rfl := BX.out.nilR
            go_wp2_with fail
            go_meet
            exact ⟨0, _, _, rfl, rfl, NN.out, BX.out⟩
          | some x =>
            obtain ⟨py, hpy⟩ := BX.out.ptrR
            subst hpy
            have AP := Lib.hid (bp_Sync (x := x) (HW.out.h.d.below BX.out.bel) BX.out)
            have N2 : Hid ((nn : Int) = (d.sync x).1.n) := by show _ = _; rw [sync_nW]; exact NN.out
            have AR := Lib.hid (fun W ox dd h => br_Sync (w := W) (w0 := w) (X := X) (OX := .cells #[.int .i64 1, .int .i64 xn, .string xs, .slice kq xl.length kc] 53 (0, 0)) (g := g) (mb := mb) (cb := cb) (q := q) (sb := sb) (rb := rb) (c1 := c1) (c2 := c2) (nn := nn) (v := u11) (u := .pointer (some ⟨py, 0, none⟩)) (ox := ox) (d := dd) (e := d) (x := x) h)
            obtain ⟨d2, x2, e2, hr⟩ : ∃ d2 x2 e2, d.sync x = (d2, x2, e2) := ⟨_, _, _, rfl⟩
            rw [hr] at AP AR N2
            dsimp only at AP AR N2
            clear hr
            go_wp2_with fail
            refine AP.out.mono ?_; rintro e z1 ⟨rfl, h⟩
            have BT := Lib.hid h
            clear h BX hyc
            go_wp2_with fail
            refine (AR.out _ _ _ BT.out).mono ?_; rintro e z2 ⟨rfl, h⟩
            have BT := Lib.hid h
            clear h
            go_wp2_with fail
            go_meet
            exact ⟨e2, _, _, rfl, rfl, N2.out, BT.out⟩
        have q1 : (xk == 1) = false := by rw [beq_eq_false_iff_ne]; exact k1
        by_cases k2 : xk = 2
        · subst k2
          have l60 : xl.length ≤ 65536 := by have := HX.out.2; omega
          have AP := Lib.hid (bp_Crash _ xl l60 HK.out BX.out)
          have AR := Lib.hid (fun W dd h => br_Crash (w := W) (w0 := w) (X := X) (OX := .cells #[.int .i64 2, .int .i64 xn, .string xs, .slice kq xl.length kc] 53 (0, 0)) (g := g) (mb := mb) (cb := cb) (q := q) (sb := sb) (rb := rb) (c1 := c1) (c2 := c2) (nn := nn) (v := u11) (u := u13) (ox := ox) (oy := ox) (d := dd) (e := d) _ xl l60 HK.out h)
          have N2 : Hid ((nn : Int) = (d.crash xl).n) := by show _ = _; rw [crash_nW]; exact NN.out
          obtain ⟨d2, hr⟩ : ∃ d2, d2 = d.crash xl := ⟨_, rfl⟩
          rw [← hr] at AP AR N2
          clear hr
          go_wp2_with fail
          refine AP.out.mono ?_; rintro e z1 ⟨rfl, h⟩
          have BT := Lib.hid h
          clear h BX hyc
          have hyc := blk_cell BT.out.blk
          go_wp2_with fail
          refine (AR.out _ _ BT.out).mono ?_; rintro e z2 ⟨rfl, h⟩
          have BT := Lib.hid h
          clear h hyc
          go_wp2_with fail
          go_meet
          exact ⟨0, _, _, rfl, rfl, N2.out, BT.out⟩
        have q2 : (xk == 2) = false := by rw [beq_eq_false_iff_ne]; exact k2
        by_cases k3 : xk = 3
        · subst k3
          have AP := Lib.hid (bp_Start BX.out.dropP.dropR)
          have AR := Lib.hid (fun W dd h => br_Start (w := W) (w0 := w) (X := X) (OX := .cells #[.int .i64 3, .int .i64 xn, .string xs, .slice kq xl.length kc] 53 (0, 0)) (g := g) (mb := mb) (cb := cb) (q := q) (sb := sb) (rb := rb) (c1 := c1) (c2 := c2) (nn := nn) (v := .pointer none) (u := .pointer none) (ox := none) (oy := none) (d := dd) (e := d) h)
          have N2 : Hid ((nn : Int) = d.start.n) := NN.out
          obtain ⟨d2, hr⟩ : ∃ d2, d2 = d.start := ⟨_, rfl⟩
          rw [← hr] at AP AR N2
          clear hr
          obtain ⟨F, hF⟩ : ∃ F, F = IntKind.u32.wrap xn := ⟨_, rfl⟩
          have fF : 0 ≤ F ∧ F < 4294967296 := by rw [hF, IntKind.wrap_u32]; exact ⟨Int.emod_nonneg _ (by decide), Int.emod_lt_of_pos _ (by decide)⟩
          have OP := Lib.hid (fun W k1 h => bp_Open (w := W) (w0 := w) (X := X) (OX := .cells #[.int .i64 3, .int .i64 xn, .string xs, .slice kq xl.length kc] 53 (0, 0)) (g := g) (mb := mb) (cb := cb) (q := q) (sb := sb) (rb := rb) (c1 := c1) (c2 := c2) (nn := nn) (v := .pointer none) (u := .pointer none) (oy := none) (d := d2) (e := d2) F fF.1 fF.2 (a0 := a0) (a1 := a1) (a2 := a2) (aD := aD) (aA := aA) k1 h)
          have OR := Lib.hid (fun W v ox h => br_Open (w := W) (w0 := w) (X := X) (OX := .cells #[.int .i64 3, .int .i64 xn, .string xs, .slice kq xl.length kc] 53 (0, 0)) (g := g) (mb := mb) (cb := cb) (q := q) (sb := sb) (rb := rb) (c1 := c1) (c2 := c2) (nn := nn) (v := v) (ox := ox) (u := .pointer none) (d := d2) (e := d2) F fF.1 fF.2 h)
          obtain ⟨o3, oc3, hr⟩ : ∃ ox oc, d2.openW F = (ox, oc) := ⟨_, _, rfl⟩
          rw [hr] at OP OR
          clear hr
          unfold OpenB at OP
          unfold OpenR at OR
          dsimp only at OP OR
          have HFF := Lib.hid hF
          rw [hF] at OP OR
          clear fF hF
          go_wp2_with fail
          refine AP.out.mono ?_; rintro e z1 ⟨rfl, h⟩
          have BT := Lib.hid h
          clear h BX hyc
          go_wp2_with fail
          refine (AR.out _ _ BT.out).mono ?_; rintro e z2 ⟨rfl, h⟩
          have BT := Lib.hid h
          clear h
          have hyc := blk_cell BT.out.blk
          go_wp2_with fail
          refine (OP.out _ (HW.out.h.below BT.out.bel) BT.out).mono ?_; rintro e z3 ⟨xv3, rfl, _, h⟩
          have BT := Lib.hid h
          clear h hyc
          have hyc := blk_cell BT.out.blk
          go_wp2_with fail
          refine (OR.out _ _ _ BT.out).mono ?_; rintro e z4 ⟨yv3, rfl, _, h⟩
          have BT := Lib.hid h
          clear h hyc OP OR
          go_wp2_with fail
          go_meet
          exact ⟨oc3, _, _, rfl, rfl, N2.out, BT.out⟩
        have q3 : (xk == 3) = false := by rw [beq_eq_false_iff_ne]; exact k3
        by_cases k4 : xk = 4
        · subst k4
          have l60 : xl.length ≤ 65536 := by have := HX.out.2; omega
          have XO : Hid (∀ W : World, W.heap[X]? = some (.cells #[.int .i64 4, .int .i64 xn, .string xs, .slice kq xl.length kc] 53 (0, 0)) → W.cell? ⟨X, 1, none⟩ = some (.int .i64 xn) ∧ W.cell? ⟨X, 2, none⟩ = some (.string xs) ∧ W.cell? ⟨X, 3, none⟩ = some (.slice kq xl.length kc)) := fun W h => ⟨blk_cell h 1, blk_cell h 2, blk_cell h 3⟩
          have AP := Lib.hid (fun W e h => bp_Arm (w := W) (w0 := w) (X := X) (OX := .cells #[.int .i64 4, .int .i64 xn, .string xs, .slice kq xl.length kc] 53 (0, 0)) (g := g) (mb := mb) (cb := cb) (q := q) (sb := sb) (rb := rb) (c1 := c1) (c2 := c2) (nn := nn) (v := u11) (u := u13) (ox := ox) (oy := ox) (d := d) (e := e) xn _ xl l60 HK.out h)
          have AR := Lib.hid (fun W dd h => br_Arm (w := W) (w0 := w) (X := X) (OX := .cells #[.int .i64 4, .int .i64 xn, .string xs, .slice kq xl.length kc] 53 (0, 0)) (g := g) (mb := mb) (cb := cb) (q := q) (sb := sb) (rb := rb) (c1 := c1) (c2 := c2) (nn := nn) (v := u11) (u := u13) (ox := ox) (oy := ox) (d := dd) (e := d) xn _ xl l60 HK.out h)
          have N2 : Hid ((nn : Int) = (d.arm xn xl).1.n) := by show _ = _; rw [arm_nW]; exact NN.out
          obtain ⟨d2, e2, hr⟩ : ∃ d2 e2, d.arm xn xl = (d2, e2) := ⟨_, _, rfl⟩
          rw [hr] at AP AR N2
          dsimp only at AP AR N2
          clear hr
          go_upto_region 35 with (fail)
          have BT := Lib.hid (BX.out.below (below_d1 _))
          have S0 := XO.out _ BT.out.blk
          clear hyc BX
          go_region_held3 (fun w' => w'.cell? ⟨X, 1, none⟩ = some (.int .i64 xn) ∧ w'.cell? ⟨X, 2, none⟩ = some (.string xs) ∧ w'.cell? ⟨X, 3, none⟩ = some (.slice kq xl.length kc)) (first | exact S0 | assumption)
            (first
              | (go_at_call 29; refine (AP.out _ _ BT.out).mono ?_; rintro z' y' ⟨rfl, h⟩; have BT := Lib.hid h; have S0 := XO.out _ BT.out.blk; clear h)
              | (go_at_call 30; refine (AR.out _ _ BT.out).mono ?_; rintro z' y' ⟨rfl, h⟩; have BT := Lib.hid h; have S0 := XO.out _ BT.out.blk; clear h))
          all_goals
            clear S0
            go_wp2_with fail
            go_meet
            exact ⟨e2, _, _, rfl, rfl, N2.out, BT.out⟩
        have q4 : (xk == 4) = false := by rw [beq_eq_false_iff_ne]; exact k4
        by_cases k5 : xk = 5
        · subst k5
          cases ox with
          | none =>
            obtain rfl := BX.out.nilR
            go_wp2_with fail
            go_meet
            exact ⟨0, _, _, rfl, rfl, NN.out, BX.out⟩
          | some x =>
            obtain ⟨py, hpy⟩ := BX.out.ptrR
            subst hpy
            have AP := Lib.hid (bp_Empty (x := x) BX.out)
            go_wp2_with fail
            refine AP.out.mono ?_; rintro e z1 ⟨rfl, h⟩
            have BT := Lib.hid h
            clear h BX hyc
            go_wp2_with fail
            refine (br_Empty BT.out).mono ?_; rintro e z2 ⟨rfl, h⟩
            have BT := Lib.hid h
            clear h
            go_wp2_with fail
            go_meet
            exact ⟨0, _, _, rfl, rfl, NN.out, BT.out⟩
        have q5 : (xk == 5) = false := by rw [beq_eq_false_iff_ne]; exact k5
        by_cases k6 : xk = 6
        · subst k6
          cases ox with
          | some x =>
            obtain ⟨py, hpy⟩ := BX.out.ptrR
            subst hpy
            go_wp2_with fail
            go_meet
            exact ⟨0, _, _, rfl, rfl, NN.out, BX.out⟩
          | none =>
            obtain rfl := BX.out.nilR
            have XO : Hid (∀ W : World, W.heap[X]? = some (.cells #[.int .i64 6, .int .i64 xn, .string xs, .slice kq xl.length kc] 53 (0, 0)) → W.cell? ⟨X, 1, none⟩ = some (.int .i64 xn) ∧ W.cell? ⟨X, 2, none⟩ = some (.string xs) ∧ W.cell? ⟨X, 3, none⟩ = some (.slice kq xl.length kc)) := fun W h => ⟨blk_cell h 1, blk_cell h 2, blk_cell h 3⟩
            have RW := Lib.hid (fun W => law21_Raw xs (by have := HX.out.1; omega) W)
            obtain ⟨T, hT⟩ : ∃ T, T = rawW xs := ⟨_, rfl⟩
            rw [← hT] at RW
            clear hT
            have AP := Lib.hid (fun W k h => bp_Write (w := W) (w0 := w) (X := X) (OX := .cells #[.int .i64 6, .int .i64 xn, .string xs, .slice kq xl.length kc] 53 (0, 0)) (g := g) (mb := mb) (cb := cb) (q := q) (sb := sb) (rb := rb) (c1 := c1) (c2 := c2) (nn := nn) (v := u11) (u := .pointer none) (ox := none) (oy := none) (d := d) (e := d) (aD := aD) (aA := aA) xn HXT.out.2.1 T k h)
            have AR := Lib.hid (fun W dd h => br_Write (w := W) (w0 := w) (X := X) (OX := .cells #[.int .i64 6, .int .i64 xn, .string xs, .slice kq xl.length kc] 53 (0, 0)) (g := g) (mb := mb) (cb := cb) (q := q) (sb := sb) (rb := rb) (c1 := c1) (c2 := c2) (nn := nn) (v := u11) (u := .pointer none) (ox := none) (oy := none) (d := dd) (e := d) xn T h)
            have N2 : Hid ((nn : Int) = (d.write xn T).1.n) := by show _ = _; rw [write_nW]; exact NN.out
            obtain ⟨d2, e2, hr⟩ : ∃ d2 e2, d.write xn T = (d2, e2) := ⟨_, _, rfl⟩
            rw [hr] at AP AR N2
            dsimp only at AP AR N2
            clear hr
            go_upto_region 42 with (fail)
            have BT := Lib.hid (BX.out.below (below_d1 _))
            have S0 := XO.out _ BT.out.blk
            clear hyc BX
            go_region_held3 (fun w' => w'.cell? ⟨X, 1, none⟩ = some (.int .i64 xn) ∧ w'.cell? ⟨X, 2, none⟩ = some (.string xs) ∧ w'.cell? ⟨X, 3, none⟩ = some (.slice kq xl.length kc)) (first | exact S0 | assumption)
              (first
                | (go_at_call 34; refine (RW.out _).mono ?_; rintro z' y' ⟨rfl, h⟩; have BT := Lib.hid (BT.out.below h); have S0 := XO.out _ BT.out.blk; clear h)
                | (go_at_call 33; refine (AP.out _ (HW.out.h.d.below BT.out.bel) BT.out).mono ?_; rintro z' y' ⟨rfl, h⟩; have BT := Lib.hid h; have S0 := XO.out _ BT.out.blk; clear h))
            all_goals
              clear S0
              go_upto_region 43 with (fail)
              obtain ⟨z5, hz5⟩ : ∃ z : World, z = y' := ⟨_, rfl⟩
              have BT := Lib.hid (BT.out.below (below_d1 _))
              have S0 := XO.out _ BT.out.blk
              go_region_held3 (fun w' => w'.cell? ⟨X, 1, none⟩ = some (.int .i64 xn) ∧ w'.cell? ⟨X, 2, none⟩ = some (.string xs) ∧ w'.cell? ⟨X, 3, none⟩ = some (.slice kq xl.length kc)) (first | exact S0 | assumption)
                (first
                  | (go_at_call 34; refine (RW.out _).mono ?_; rintro z' y2 ⟨rfl, h⟩; have BT := Lib.hid (BT.out.below h); have S0 := XO.out _ BT.out.blk; clear h)
                  | (go_at_call 35; refine (AR.out _ _ BT.out).mono ?_; rintro z' y2 ⟨rfl, h⟩; have BT := Lib.hid h; have S0 := XO.out _ BT.out.blk; clear h))
              all_goals
                clear S0
                go_wp2_with fail
                go_meet
                exact ⟨0, _, _, rfl, rfl, N2.out, BT.out⟩
        have q6 : (xk == 6) = false := by rw [beq_eq_false_iff_ne]; exact k6
        clear k0 k1 k2 k3 k4 k5 k6
        go_wp2_with fail
        go_meet
        exact ⟨0, _, _, rfl, rfl, NN.out, BX.out⟩
      case rest =>
        obtain ⟨A, ox, d, rfl, rfl, hnn, hB⟩ := hcut
        clear BX hyc NN HX HXT
        have NN := Lib.hid hnn; have HB := Lib.hid hB
        clear hnn hB
        have aa := int_self A
        have hc := HB.out.rdead
        have SOf : Hid (∀ W, Below wc.heap.size wc W → W.cell? ⟨q, 2, none⟩ = some (.bool d.dead)) := fun W h => dk_cell hc h
        have DD := Lib.hid (fun W h => bp_Dead (w := W) (w0 := w) (X := X) (OX := .cells #[.int .i64 xk, .int .i64 xn, .string xs, .slice kq xl.length kc] 53 (0, 0)) (g := g) (mb := mb) (cb := cb) (q := q) (sb := sb) (rb := rb) (c1 := c1) (c2 := c2) (nn := nn) (v := u11) (u := u13) (ox := ox) (oy := ox) (d := d) (e := d) h)
        have SM := Lib.hid (fun W h => b_same (w := W) (w0 := w) (X := X) (OX := .cells #[.int .i64 xk, .int .i64 xn, .string xs, .slice kq xl.length kc] 53 (0, 0)) (g := g) (mb := mb) (cb := cb) (q := q) (sb := sb) (rb := rb) (c1 := c1) (c2 := c2) (nn := nn) (v := u11) (u := u13) (ox := ox) (d := d) h)
        obtain ⟨D, hD⟩ : ∃ D, D = d.dead := ⟨_, rfl⟩
        rw [← hD] at DD SOf
        have bd := bool_self D
        clear hD hc
        go_upto_region 44 with (fail)
        have BN : Hid (Below wc.heap.size wc wc.drew) := below_d1 _
        have S0 := SOf.out _ BN.out
        go_region_held3 (fun w' => w'.cell? ⟨q, 2, none⟩ = some (.bool D)) (first | exact S0 | assumption)
          (first
            | (go_at_call 24; refine (SM.out _ (HB.out.below BN.out)).mono ?_; rintro z' y' ⟨rfl, h⟩; have BN := Lib.hid (bstep BN.out h); have S0 := SOf.out _ BN.out; clear h)
            | (go_at_call 36; refine (DD.out _ (HB.out.below BN.out)).mono ?_; rintro z' y' ⟨rfl, rfl⟩))
        all_goals
          clear S0
          go_wp2_with fail
          go_roundw
          case rel => exact ⟨i + 1, X, _, ox, d, by go_num, by omega, NN.out, HB.out.below BN.out⟩
          case measure => simp [intOf]; omega
    · have hi : ¬ (i : Int) < (m : Int) := by omega
      have hi2 : decide ((i : Int) < (m : Int)) = false := decide_eq_false hi
      go_wp2_with fail
      refine (b_Same NN.out (HW.out.h.d.below HB.out.bel) HB.out).mono ?_; rintro e w6 ⟨rfl, hb⟩
      have B6 := Lib.hid (bstep HB.out.bel hb)
      clear hb
      go_wp2_with fail
      refine (WK.out _ (HW.out.below B6.out)).mono ?_; rintro e w7 ⟨rfl, hb⟩
      have B7 := Lib.hid (bstep B6.out hb)
      clear hb
      go_wp2_with fail
      go_ret
      exact ⟨rfl, B7.out⟩
end Go.Proofs.YtdbiebnnogjccaaGreatDoor
