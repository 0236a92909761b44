/- Pages (layer 22): New; the pages of a kind. -/
import Derived.Test.YtdbiebnnogjccaaGreatDoorGg
import Derived.Test.YtdbiebnnogjccaaGreatDoorDo
import Derived.Test.YtdbiebnnogjccaaGreatDoorGp
import Derived.Maps.AppendAt
namespace Go.Proofs.YtdbiebnnogjccaaGreatDoor
open Go.RowKit Go.Maps
theorem bel_G {a w w' : World} {F : Nat → Prop} (hb : Below a.heap.size a w) (hf : Fr F w w') (hF : ∀ b, F b → a.heap.size ≤ b) : Below a.heap.size a w' :=
  ⟨hf.os.trans hb.os, hf.tape.trans hb.tape, hf.output.trans hb.output, Nat.le_trans hb.size hf.size, fun k hk => (hf.block k (Nat.lt_of_lt_of_le hk hb.size) (fun e => by have := hF k e; omega)).trans (hb.block k hk)⟩
/-- What an opening of pages hands back. -/
def newG (d : Dk) (L : List Int) : Option (List Int) × Int :=
  if (layN d.n).2 ≠ 0 then (none, (layN d.n).2) else if inL (d.n - 2 - (d.logs : Int)).toNat L = true then (some (keepL (d.n - 2 - (d.logs : Int)).toNat L), 0) else (none, 1)
def NewG (r : Option (List Int) × Int) (g mb cb : Nat) (d : Dk) (w : World) (e : Ending) (w' : World) : Prop :=
  Below w.heap.size w w' ∧ match r.1 with
  | none => e = .returned (.tuple #[.pointer none, .int .i64 r.2])
  | some l => ∃ p pm, e = .returned (.tuple #[.pointer (some ⟨p, 0, none⟩), .int .i64 r.2]) ∧ PgC w' p pm g mb cb d.n d.logs l d ∧ w.heap.size ≤ p ∧ w.heap.size ≤ pm
set_option maxHeartbeats 1000000 in
theorem pager_New_nil (v : Value) (w : World) : Calls Tryz.prog 38 #[.pointer none, v] w fun e w' => e = .returned (.tuple #[.pointer none, .int .i64 1]) ∧ w = w' := by
  go_enter Tryz.func38, Tryz.ntmps38
  go_wp2_with fail
  go_ret2
  exact ⟨rfl, rfl⟩
set_option maxRecDepth 20000 in
set_option maxHeartbeats 4000000 in
theorem pager_New (v : Value) (L : List Int) (hL : L.length ≤ 65536) (g mb cb : Nat) (d : Dk) (w : World) (hd : DiskAt w g mb cb 4096 (.slice none 0 0) d) (ok : d.Ok) (hv : SlIl w v L) :
    Calls Tryz.prog 38 #[.pointer (some ⟨g, 0, none⟩), v] w (NewG (newG d L) g mb cb d w) := by
  have HD := Lib.hid hd
  have HV := Lib.hid hv
  have SZ := Lib.hid (disk_Size g mb cb 4096 (.slice none 0 0) d w hd)
  have LY := Lib.hid (fun W => head_Lay d.n W)
  by_cases k1 : (layN d.n).2 ≠ 0
  · obtain ⟨y, c, hy⟩ : ∃ y c, layN d.n = (y, c) := ⟨_, _, rfl⟩
    have FIN : Hid (∀ W, Below w.heap.size w W → NewG (newG d L) g mb cb d w (.returned (.tuple #[.pointer none, .int .i64 c])) W) := fun W h => by
      have e : newG d L = (none, c) := by unfold newG; rw [if_pos k1, hy]
      rw [e]; exact ⟨h, rfl⟩
    rw [hy] at LY k1
    obtain ⟨y0, y1, y2, y3⟩ := y
    unfold layV at LY
    dsimp only at LY k1
    have q1 : (c != 0) = true := by rw [bne_iff_ne]; exact k1
    clear hd ok hv hy k1
    go_enter Tryz.func38, Tryz.ntmps38
    go_wp2_with fail
    refine SZ.out.mono ?_; rintro e w1 ⟨rfl, rfl⟩
    go_wp2_with fail
    refine (LY.out _).mono ?_; rintro e w2 ⟨rfl, hb⟩
    have B2 := Lib.hid hb
    clear hb
    go_wp2_with fail
    go_ret2
    exact FIN.out _ (bstep B2.out (below_a1 _ _))
  have k1' : (layN d.n).2 = 0 := Decidable.not_not.1 k1
  obtain ⟨n0, n1⟩ : 32 ≤ d.n ∧ d.n ≤ 4096 := by
    unfold layN at k1'
    split at k1'
    · exact absurd k1' (by decide)
    · split at k1'
      · exact absurd k1' (by decide)
      · omega
  obtain ⟨lg, hlg⟩ : ∃ lg, lg = d.logs := ⟨_, rfl⟩
  have hlq : (lg : Int) = (d.n - 2) / 4 := by
    rw [hlg]; unfold Dk.logs layN; rw [if_neg (by omega), if_neg (by omega)]; dsimp only; omega
  rw [lay_log n0 n1 hlq] at LY
  unfold layV at LY
  dsimp only at LY
  obtain ⟨n, hn⟩ : ∃ n, n = d.n := ⟨_, rfl⟩
  obtain ⟨k, hk⟩ : ∃ k : Nat, (k : Int) = n - 2 - (lg : Int) := ⟨(n - 2 - (lg : Int)).toNat, by omega⟩
  have NG : Hid (newG d L = if inL k L = true then (some (keepL k L), 0) else (none, 1)) := by
    show _ = _
    unfold newG
    rw [if_neg k1, ← hlg, ← hn, show (n - 2 - (lg : Int)).toNat = k by omega]
  rw [← hn] at LY SZ n0 n1 hlq
  have HN := Lib.hid hn
  have HLG := Lib.hid hlg
  have OK := Lib.hid ok
  have LQ := Lib.hid hlq
  have HK := Lib.hid hk
  have LD : Hid (∀ b, DkS g mb cb b → b < w.heap.size) := by
    rintro b (rfl | rfl | rfl)
    · exact hd.lt
    · exact hd.hm.lt
    · exact hd.hc.lt
  have VL : Hid (∀ hl : L ≠ [], ∀ b, v.ownBlock = some b → b < w.heap.size) := fun hl b hb => hv.blk_lt hl hb
  clear hd ok hv k1 k1' hlg hlq hn hk
  go_enter Tryz.func38, Tryz.ntmps38
  go_wp2_with fail
  refine SZ.out.mono ?_; rintro e w1 ⟨rfl, rfl⟩
  go_wp2_with fail
  refine (LY.out _).mono ?_; rintro e w2 ⟨rfl, hb⟩
  have B2 := Lib.hid hb
  clear hb
  go_upto_region 7 with (fail)
  obtain ⟨w4, hw4⟩ : ∃ z, z = (w2.alloc (.cells #[.int .i64 2, .int .i64 (lg : Int), .int .i64 (2 + (lg : Int)), .int .i64 (n - 2 - (lg : Int))] 111)).alloc (.cells (pgCells g (.map none) n lg) 156) := ⟨_, rfl⟩
  have hw4' : w4 = (w2.alloc (.cells #[.int .i64 2, .int .i64 (lg : Int), .int .i64 (2 + (lg : Int)), .int .i64 (n - 2 - (lg : Int))] 111)).alloc (.cells #[.pointer (some ⟨g, 0, none⟩), .int .i64 2, .int .i64 (lg : Int), .int .i64 (2 + (lg : Int)), .int .i64 (n - 2 - (lg : Int)), .map none] 156) := hw4
  have B4 : Hid (Below w.heap.size w w4) := by show Below _ _ _; rw [hw4]; exact bstep (bstep B2.out (below_a1 _ _)) (below_a1 _ _)
  have P4 : w4.heap[w2.heap.size + 1]? = some (.cells (pgCells g (.map none) n lg) 156 (0, 0)) := by
    rw [hw4]
    have := blk_new (w2.alloc (.cells #[.int .i64 2, .int .i64 (lg : Int), .int .i64 (2 + (lg : Int)), .int .i64 (n - 2 - (lg : Int))] 111)) (.cells (pgCells g (.map none) n lg) 156 (0, 0))
    simpa using this
  obtain ⟨p, hp⟩ : ∃ p, p = w2.heap.size + 1 := ⟨_, rfl⟩
  have pB : Hid (w.heap.size ≤ p) := by show _ ≤ _; rw [hp]; have := B2.out.size; omega
  rw [← hp] at P4 ⊢
  rw [← hw4']
  have PB : Hid (PgB w4 p g mb cb n lg (.map none) k d) :=
    ⟨P4, HD.out.below B4.out, OK.out, HN.out.symm, HK.out, n0, n1, LQ.out, fun e => by have h1 := LD.out p e; have h2 := pB.out; omega⟩
  clear hw4 hw4' P4 hp n0 n1
  have KP := Lib.hid (pager_KeepB v L hL w4 PB.out (HV.out.below B4.out) (fun hl b hb e => by have h1 := VL.out hl b hb; have h2 := pB.out; omega))
  go_wp2_with fail
  refine KP.out.mono ?_; rintro e w5 (⟨hin, M, rfl, hc, hM, hf⟩ | ⟨hin, rfl, hb⟩)
  · have FIN : Hid (NewG (newG d L) g mb cb d w (.returned (.tuple #[.pointer (some ⟨p, 0, none⟩), .int .i64 0])) w5) := by
      have e : newG d L = (some (keepL k L), 0) := by rw [NG.out, if_pos hin]
      rw [e]
      refine ⟨bel_G B4.out hf (fun b hb => by rw [hb]; exact pB.out), p, M, rfl, ?_, pB.out, Nat.le_trans B4.out.size hM⟩
      rw [← HLG.out, ← HN.out]; exact hc
    clear hin hc hM hf
    go_wp2_with fail
    go_ret2
    exact FIN.out
  · have FIN : Hid (NewG (newG d L) g mb cb d w (.returned (.tuple #[.pointer none, .int .i64 1])) w5) := by
      have e : newG d L = (none, 1) := by rw [NG.out, if_neg (by rw [hin]; decide)]
      rw [e]
      exact ⟨bstep B4.out hb, rfl⟩
    clear hin hb
    go_wp2_with fail
    go_ret2
    exact FIN.out
end Go.Proofs.YtdbiebnnogjccaaGreatDoor

/- Rows of numbers: one more at the end; sorted. -/
namespace Go.Proofs.YtdbiebnnogjccaaGreatDoor
open Go.RowKit Go.Sort
theorem infoI : (Tryz.prog.info? 3).map (fun i => (i.zero, i.size, i.bytes)) = some (some (.int .i64 0), 1, 8) := by kernel_rfl
/-- One number more at the end of a row of one's own (or of none): the same row, or a new one. -/
theorem wpList_append_i1 {w : World} {ops : Array Oper} {rest : List Oper} {o : Oper} {a : Act} {Q : Exit → Act → World → Prop} (hgd : o.guard = none) (s x : Operand)
    (ho : o.op = .call { callee := .builtin .append, args := #[s, x], argTypes := #[70, 70] })
    (base : Nat) (v : Value) (l : List Int) (hs : a.eval s = v) (hown : w.ownsRow base 3 1 v l.length (l.map (Value.int .i64))) (D c : Nat) (hx : a.eval x = .slice (some ⟨D, 0, none⟩) 1 c) (y : Int) (hy : w.cell? ⟨D, 0, none⟩ = some (.int .i64 y)) (b1 : l.length ≤ 1000000) (hbase : base ≤ w.heap.size)
    (h : ∀ G cap w', w'.ownsRow base 3 1 (.slice (some ⟨G, 0, none⟩) (l.length + 1) cap) (l ++ [y]).length ((l ++ [y]).map (Value.int .i64)) → w.grownBy w' v.ownBlock → (some G = v.ownBlock ∨ G = w.heap.size) → wpList Tryz.prog ops Q rest (a.put o.dst (.slice (some ⟨G, 0, none⟩) (l.length + 1) cap)) w') :
    wpList Tryz.prog ops Q (o :: rest) a w := by
  obtain ⟨i, hi, hz, hsize, hby⟩ := info_parts infoI
  refine wpList_plain hgd fun K hK => ?_
  obtain ⟨v', w', hr, h2, h3, _, h5⟩ := run_append_own_at (P := Tryz.prog) w base 70 o.type 3 i (.int .i64 0) 1 8 Tryz.underlying70 hi hz hsize hby rfl (by decide) v l.length (l.map (Value.int .i64)) hown ⟨D, 0, none⟩ 1 c [.int .i64 y] rfl
    (fun j u hu => by
      have hj : j = 0 := by
        have := (List.getElem?_eq_some_iff.1 hu).1
        simpa using this
      subst hj
      simp at hu; subst hu
      have hadd : (⟨D, 0, none⟩ : Addr).add 0 = ⟨D, 0, none⟩ := by unfold Addr.add; split <;> simp_all
      rw [hadd]; exact hy)
    (fun u hu => by simp at hu; subst hu; rfl) (by simp only [maxLen]; omega) (by omega) hbase
  unfold Oper.wp execOp
  simp only [ho, resolve, invoke, builtin, Sem.run_bind, Sem.run_pure, Result.andThen_ok, List.map_toArray, List.map_cons, List.map_nil, hs, hx, hr]
  have e2 : (l ++ [y]).length = l.length + 1 := by simp
  rcases h2.2 with ⟨_, h6⟩ | ⟨G, cap, cur, h6, _⟩
  · exact absurd h6 (by omega)
  · subst h6
    refine hK _ _ (h G cap w' ?_ h3 ?_)
    · rw [e2, List.map_append]; exact h2
    · exact h5.imp id (fun h => by have h : some G = some _ := h; injection h)
/-- slices.Sort at a row of one's own. -/
theorem sort_own (base : Nat) (v : Value) (ss : List Int) (w : World) (h : w.ownsRow base 3 1 v ss.length (ss.map (Value.int .i64))) (hl : ss.length ≤ 1000000) :
    Calls Tryz.prog 140 #[v] w fun e w' => e = .returned (.tuple #[]) ∧ w'.ownsRow base 3 1 v ss.length ((ss.mergeSort fun x y => decide (x ≤ y)).map (Value.int .i64)) ∧ w.grownBy w' v.ownBlock := by
  rcases h.2 with ⟨rfl, h0⟩ | ⟨g, cap, cur, rfl, hb, hblk, h1, h2, h3, h4⟩
  · have hz : ss = [] := List.eq_nil_of_length_eq_zero h0
    subst hz
    refine (Tryz.slices_Sort_int_none none 0 w).mono fun e w' ⟨he, hw⟩ => ⟨he, ?_, ?_⟩
    · subst hw; exact ⟨by simp, .inl ⟨rfl, rfl⟩⟩
    · subst hw; exact World.grownBy.refl _ _
  · rw [Nat.mul_one] at h4
    refine (Tryz.slices_Sort_int g 0 cap ss w (holds_of_block_i hblk h4) (blk_lt hblk) (by omega)).mono fun e w' ⟨he, n, os, hw⟩ => ⟨he, ?_, ?_⟩
    · subst hw
      have hlen : (ss.mergeSort fun x y => decide (x ≤ y)).length = ss.length := List.length_mergeSort _
      exact ownsRow_sorted_i hlen hb hblk h1 h2 h3
    · subst hw
      exact grownBy_sorted_i _
end Go.Proofs.YtdbiebnnogjccaaGreatDoor
