/- The log (layer 21): Records, Sync; a log and its disk together. -/
import Derived.Test.YtdbiebnnogjccaaGreatDoorWa
import Derived.Test.YtdbiebnnogjccaaGreatDoorAp
import Derived.Test.YtdbiebnnogjccaaGreatDoorDn
import Derived.Maps.AppendAt
import Derived.Test.YtdbiebnnogjccaaGreatDoorCp
import Derived.Test.YtdbiebnnogjccaaGreatDoorCt
namespace Go.Proofs.YtdbiebnnogjccaaGreatDoor
open Go.RowKit
/-- One string more at the end of a row of one's own (or of none): the same row, or a new one. -/
theorem wpList_append_s1 {P : Program} {w : World} {ops : Array Oper} {rest : List Oper} {o : Oper} {a : Act} {Q : Exit → Act → World → Prop} (hgd : o.guard = none) (s x : Operand) (t : TypeId)
    (ho : o.op = .call { callee := .builtin .append, args := #[s, x], argTypes := #[t, t] })
    (e : TypeId) (i : TypeInfo) (z : Value) (ht : P.underlying t = some (.slice e)) (hi : P.info? e = some i) (hz : i.zero = some z) (hsize : i.size = 1) (hby : i.bytes = 16) (hzs : z.cells.size = 1)
    (base : Nat) (v : Value) (l : List ByteArray) (hs : a.eval s = v) (hown : w.ownsRow base e 1 v l.length (l.map Value.string)) (D c : Nat) (hx : a.eval x = .slice (some ⟨D, 0, none⟩) 1 c) (y : ByteArray) (hy : w.cell? ⟨D, 0, none⟩ = some (.string y)) (b1 : l.length ≤ 65536) (hbase : base ≤ w.heap.size)
    (h : ∀ v' w', w'.ownsRow base e 1 v' (l ++ [y]).length ((l ++ [y]).map Value.string) → w.grownBy w' v.ownBlock → (v'.ownBlock = v.ownBlock ∨ v'.ownBlock = some w.heap.size) → wpList P ops Q rest (a.put o.dst v') w') :
    wpList P ops Q (o :: rest) a w := by
  refine wpList_plain hgd fun K hK => ?_
  obtain ⟨v', w', hr, h2, h3, _, h5⟩ := run_append_own_at (P := P) w base t o.type e i z 1 16 ht hi hz hsize hby hzs (by decide) v l.length (l.map Value.string) hown ⟨D, 0, none⟩ 1 c [.string y] rfl
    (fun j u hu => by
      have hj : j = 0 := by
        have := (List.getElem?_eq_some_iff.1 hu).1
        simpa using this
      subst hj
      simp at hu; subst hu
      have hadd : (⟨D, 0, none⟩ : Addr).add 0 = ⟨D, 0, none⟩ := by unfold Addr.add; split <;> simp_all
      rw [hadd]; exact hy)
    (fun u hu => by simp at hu; subst hu; rfl) (by simp only [maxLen]; omega) (by omega) hbase
  unfold Oper.wp execOp
  simp only [ho, resolve, invoke, builtin, Sem.run_bind, Sem.run_pure, Result.andThen_ok, List.map_toArray, List.map_cons, List.map_nil, hs, hx, hr]
  refine hK _ _ (h v' w' ?_ h3 h5)
  rw [List.length_append, List.map_append]
  exact h2
theorem SlStrs.cells {w : World} {v : Value} {l : List ByteArray} (h : SlStrs w v l) : SlCells w v l.length (l.map Value.string) := by
  rcases h with ⟨rfl, rfl⟩ | ⟨b, off, cap, e, _, h⟩
  · exact .inl ⟨rfl, rfl, none, 0, rfl⟩
  · exact .inr ⟨b, off, cap, e, fun j u hu => by
      have := strs_news h j u hu
      have hadd : (⟨b, off, none⟩ : Addr).add j = ⟨b, off + j, none⟩ := by unfold Addr.add; split <;> simp_all
      rw [hadd] at this; exact this⟩
set_option maxRecDepth 20000 in
set_option maxHeartbeats 1000000 in
theorem clone_strs (v : Value) (l : List ByteArray) (hl : l.length ≤ 65536) (w : World) (hv : SlStrs w v l) :
    Calls Tryz.prog 80 #[v] w fun e w' => ∃ v', e = .returned v' ∧ SlStrs w' v' l ∧ Below w.heap.size w w' := by
  have HV := Lib.hid hv
  have q22 : ∀ (w : World) (a : Option Addr) (n c n' c' : Nat), (binOp .eql 34 (.slice a n c) (.slice none n' c')).run Tryz.prog w = .ok (.bool a.isNone) w := fun w a n c n' c' => Lib.run_eql_slice_nil w _ _ a n c n' c' Tryz.underlying34
  obtain ⟨p, cap, rfl, _⟩ := hv.form
  cases p with
  | none =>
    obtain rfl : l = [] := by
      rcases hv with ⟨_, e⟩ | ⟨b, off, cap, e, _⟩
      · exact e
      · injection e with e; cases e
    clear HV hv
    go_enter Tryz.func80, Tryz.ntmps80
    go_wp2_with fail
    go_ret
    exact ⟨_, rfl, .inl ⟨rfl, rfl⟩, Below.refl _ _⟩
  | some a0 =>
    clear hv
    obtain ⟨i0, ih, i1, i2, i3⟩ := info_parts Tryz.info9
    have Hl := Lib.hid hl
    clear hl
    go_enter Tryz.func80, Tryz.ntmps80
    go_wp2_with (at_builtin; refine wpList_append_new rfl _ _ _ rfl 9 i0 _ Tryz.underlying34 ih i1 1 i2 (by omega) _ rfl _ rfl l.length (l.map Value.string) (by simp) (HV.out.below (below_alloc1 _ _)).cells (by have := Hl.out; omega) ?_; intro g c w' h1 h2 h3 h4 h5; have H2 := Lib.hid h2; have H3 := Lib.hid h3; have H5 := Lib.hid h5; clear h2 h3 h4 h5)
    go_ret
    refine ⟨_, rfl, .inr ⟨g, 0, c, rfl, h1, ⟨fun h => (H5.out (List.length_pos_iff.2 h)).2, fun i hi => ?_⟩⟩, bstep (below_alloc1 _ _) H3.out⟩
    rw [Nat.zero_add]
    exact H2.out i _ (by rw [List.getElem?_map, List.getElem?_eq_getElem hi]; rfl)
/-- A string's cell lies in none of a disk's blocks. -/
theorem DiskAt.far {w : World} {g mb cb k : Nat} {kv : Value} {d : Dk} (h : DiskAt w g mb cb k kv d) {b o : Nat} {S : ByteArray} (hc : w.cell? ⟨b, o, none⟩ = some (.string S)) : ¬ DkS g mb cb b := by
  rintro (rfl | rfl | rfl)
  · rw [blk_cell h.blk] at hc
    have hk : ∀ T, kv ≠ .string T := fun T e => by
      rcases h.hk with ⟨_, p, c, e2⟩ | ⟨_, _, _, e2, _⟩ <;> (rw [e] at e2; cases e2)
    unfold dkCells at hc
    match o, hc with
    | 0, hc => simp at hc
    | 1, hc => simp at hc
    | 2, hc => simp at hc
    | 3, hc => simp at hc
    | 4, hc => simp at hc
    | 5, hc => simp at hc; exact hk _ hc
    | 6, hc => simp at hc
    | o + 7, hc => simp at hc
  · obtain ⟨D, ⟨es, clock, hm, _⟩, _⟩ := h.hm
    unfold World.cell? at hc
    simp [hm] at hc
  · obtain ⟨D, ⟨es, clock, hm, _⟩, _⟩ := h.hc
    unfold World.cell? at hc
    simp [hm] at hc
theorem StrsAt.fr {S : Nat → Prop} {w w' : World} {b off : Nat} {l : List ByteArray} (h : StrsAt w b off l) (hf : Fr S w w') (hs : l ≠ [] → ¬ S b) : StrsAt w' b off l := by
  by_cases hl : l = []
  · subst hl
    exact ⟨fun h => absurd rfl h, fun i h => absurd h (by simp)⟩
  · have hlt := h.lt hl
    exact ⟨fun _ => Nat.lt_of_lt_of_le hlt hf.size, fun i hi => by rw [hf.cell hlt (hs hl)]; exact h.at' i hi⟩
/-- Strings stay where the disk alone is written. -/
theorem SlStrs.disk {w w' : World} {g mb cb k : Nat} {kv : Value} {d : Dk} {v : Value} {l : List ByteArray} (h : SlStrs w v l) (hd : DiskAt w g mb cb k kv d) (hf : Fr (DkS g mb cb) w w') : SlStrs w' v l := by
  rcases h with h | ⟨b, off, cap, e, hc, h⟩
  · exact .inl h
  · exact .inr ⟨b, off, cap, e, hc, h.fr hf fun hl => hd.far (h.at' 0 (List.length_pos_iff.2 hl))⟩
/-- The blocks of a log and its disk. -/
def LgS (g mb cb p : Nat) (rv : Value) (b : Nat) : Prop := DkS g mb cb b ∨ b = p ∨ rv.ownBlock = some b
/-- A log in memory, and its disk. -/
structure WalAt (w : World) (B p g mb cb : Nat) (kv rv : Value) (n : Int) (lg : Nat) (x : Wl) (d : Dk) : Prop where
  log : LogAt w B p g n lg rv x
  dsk : DiskAt w g mb cb 4096 kv d
  ok : d.Ok
  dn : d.n = n
  nl : (lg : Int) = (n - 2) / 4
  n32 : 32 ≤ n
  pB : B ≤ p
  pS : ¬ DkS g mb cb p
  gB : ∀ b, DkS g mb cb b → B ≤ b
  rS : ∀ b, rv.ownBlock = some b → ¬ DkS g mb cb b
  kB : ∀ b off c m, kv = .slice (some ⟨b, off, none⟩) m c → b < B
section
variable {w w' : World} {B p g mb cb : Nat} {kv rv : Value} {n : Int} {lg : Nat} {x : Wl} {d : Dk}
theorem WalAt.below (h : WalAt w B p g mb cb kv rv n lg x d) (hb : Below w.heap.size w w') : WalAt w' B p g mb cb kv rv n lg x d :=
  ⟨h.log.below hb, h.dsk.below hb, h.ok, h.dn, h.nl, h.n32, h.pB, h.pS, h.gB, h.rS, h.kB⟩
theorem WalAt.rB (h : WalAt w B p g mb cb kv rv n lg x d) : ∀ b, rv.ownBlock = some b → B ≤ b ∧ b < w.heap.size := h.log.row.lt
theorem WalAt.bel {a : World} (h : WalAt w B p g mb cb kv rv n lg x d) (hb : Below B a w) (hB : B = a.heap.size) (hf : Fr (LgS g mb cb p rv) w w') : Below B a w' :=
  ⟨hf.os.trans hb.os, hf.tape.trans hb.tape, hf.output.trans hb.output, Nat.le_trans hb.size hf.size, fun k hk => (hf.block k (Nat.lt_of_lt_of_le (hB ▸ hk) hb.size) (by
    rintro (e | e | e)
    · have := h.gB k e; omega
    · have := h.pB; omega
    · have := (h.rB k e).1; omega)).trans (hb.block k hk)⟩
/-- The disk is written. -/
theorem WalAt.wrote {d' : Dk} (h : WalAt w B p g mb cb kv rv n lg x d) (hd : DiskAt w' g mb cb 4096 kv d') (hf : Fr (DkS g mb cb) w w') (ok : d'.Ok) (hn : d'.n = d.n) : WalAt w' B p g mb cb kv rv n lg x d' :=
  ⟨h.log.fr hf h.pS h.rS, hd, ok, hn.trans h.dn, h.nl, h.n32, h.pB, h.pS, h.gB, h.rS, h.kB⟩
/-- The log's own blocks are written. -/
theorem WalAt.logged {rv' : Value} {x' : Wl} (h : WalAt w B p g mb cb kv rv n lg x d) (hl : LogAt w' B p g n lg rv' x') (hf : Fr (fun b => b = p ∨ rv.ownBlock = some b) w w') (hr : ∀ b, rv'.ownBlock = some b → rv.ownBlock = some b ∨ w.heap.size ≤ b) : WalAt w' B p g mb cb kv rv' n lg x' d := by
  have hg := h.dsk.lt
  have hm := h.dsk.hm.lt
  have hc := h.dsk.hc.lt
  refine ⟨hl, h.dsk.fr hf ?_ ?_ ?_ fun b off m c e => ?_, h.ok, h.dn, h.nl, h.n32, h.pB, h.pS, h.gB, fun b hb => ?_, h.kB⟩
  · rintro (e | e)
    · exact h.pS (.inl e.symm)
    · exact h.rS _ e (.inl rfl)
  · rintro (e | e)
    · exact h.pS (.inr (.inl e.symm))
    · exact h.rS _ e (.inr (.inl rfl))
  · rintro (e | e)
    · exact h.pS (.inr (.inr e.symm))
    · exact h.rS _ e (.inr (.inr rfl))
  · have := h.kB _ _ _ _ e
    rintro (e2 | e2)
    · have := h.pB; omega
    · have := (h.rB _ e2).1; omega
  · rcases hr b hb with e | e
    · exact h.rS b e
    · rintro (k | k | k) <;> omega
set_option maxHeartbeats 1000000 in
theorem wal_Records (w : World) (h : LogAt w B p g n lg rv x) : Calls Tryz.prog 19 #[.pointer (some ⟨p, 0, none⟩)] w fun e w' => ∃ v, e = .returned v ∧ SlStrs w' v x.recs ∧ Below w.heap.size w w' := by
  have CL := Lib.hid (clone_strs rv x.recs (by have := h.rl; have := h.us; have := h.l1; omega) w (SlStrs.of_own h.row))
  have hc := blk_cell h.blk
  unfold lgCells at hc
  clear h
  go_enter Tryz.func19, Tryz.ntmps19
  go_wp2_with fail
  refine CL.out.mono ?_; rintro e w1 ⟨v, rfl, hv, hb⟩
  have HV := Lib.hid hv
  have HB := Lib.hid hb
  clear hv hb
  go_wp2_with fail
  go_ret
  exact ⟨v, rfl, HV.out, HB.out⟩
theorem flush_nW (d : Dk) : d.flush.1.n = d.n := by
  unfold Dk.flush
  split
  · rfl
  · split
    · show (d.tick.crash d.keep).n = _; unfold Dk.crash Dk.tick; split <;> split <;> rfl
    · show d.tick.n = _; unfold Dk.tick; split <;> rfl
set_option maxHeartbeats 2000000 in
theorem wal_Sync (aD aA : Addr) (w : World) (hw : DkW w aD aA) (h : WalAt w B p g mb cb kv rv n lg x d) :
    Calls Tryz.prog 15 #[.pointer (some ⟨p, 0, none⟩)] w fun e w' => e = .returned (.int .i64 (d.sync x).2.2) ∧ WalAt w' B p g mb cb kv rv n lg (d.sync x).2.1 (d.sync x).1 ∧ Fr (LgS g mb cb p rv) w w' := by
  have FL := Lib.hid (disk_Flush g mb cb kv d aD aA w hw h.dsk h.ok)
  have H := Lib.hid h
  have hc := blk_cell h.log.blk
  unfold lgCells at hc
  have ok2 := h.ok.flush
  clear h hw
  cases hd : x.dead with
  | true =>
    rw [hd] at hc
    rw [show d.sync x = (d, x, 74) by unfold Dk.sync; rw [if_pos hd]]
    clear hd ok2
    go_enter Tryz.func15, Tryz.ntmps15
    go_wp2_with fail
    go_ret
    exact ⟨rfl, H.out, Fr.refl _ _⟩
  | false =>
    rw [hd] at hc
    rw [show d.sync x = (d.flush.1, { x with dead := decide (d.flush.2 ≠ 0) }, d.flush.2) by unfold Dk.sync; rw [if_neg (by rw [hd]; decide)]]
    have hn2 := flush_nW d
    obtain ⟨d2, c, hF⟩ : ∃ d2 c, d.flush = (d2, c) := ⟨_, _, rfl⟩
    rw [hF] at FL ok2 hn2 ⊢
    dsimp only at FL ok2 hn2 ⊢
    have OK2 := Lib.hid ok2
    have HN2 := Lib.hid hn2
    have hcc : decide (c ≠ 0) = (c != 0) := by by_cases h : c = 0 <;> simp [h]
    rw [hcc]
    obtain ⟨q, hq⟩ : ∃ q, q = (c != 0) := ⟨_, rfl⟩
    have HQ := Lib.hid hq
    clear hd hF ok2 hn2 hcc hq
    go_enter Tryz.func15, Tryz.ntmps15
    go_wp2_with fail
    refine FL.out.mono ?_; rintro e w1 ⟨rfl, hd, hf⟩
    have W1 := Lib.hid (H.out.wrote hd hf OK2.out HN2.out)
    have F1 := Lib.hid hf
    clear hd hf hc
    have hc1 := blk_cell W1.out.log.blk
    have hf1 := blk_frozen W1.out.log.blk
    unfold lgCells at hc1
    have L2 := Lib.hid (W1.out.log.set (x' := { x with dead := q }) 8 (.bool q) (by simp [lgCells]) rfl W1.out.log.x0 W1.out.log.x1 W1.out.log.us W1.out.log.rl)
    have W2 := Lib.hid (W1.out.logged L2.out (fr_set (.inl rfl) _ _) (fun b hb => .inl hb))
    have F2 : Hid (Fr (LgS g mb cb p rv) w (w1.setCell ⟨p, 8, none⟩ (.bool q))) := (F1.out.mono (fun _ h => .inl h)).trans (fr_set (S := LgS g mb cb p rv) (.inr (.inl rfl)) _ _)
    have e1 : (c != 0) = q := HQ.out.symm
    go_wp2_with fail
    go_ret
    rw [e1]
    exact ⟨rfl, W2.out, F2.out⟩
end
end Go.Proofs.YtdbiebnnogjccaaGreatDoor

/- Blocks: a whole struct of two, three, four fields is stored. -/
namespace Go.Proofs.YtdbiebnnogjccaaGreatDoor
open Go.RowKit
theorem st2 {w : World} {B : Nat} {c0 c1 : Value} {t : TypeId} (h : w.heap[B]? = some (.cells #[c0, c1] t (0, 0))) (v0 v1 : Value) :
    ((w.setCell ⟨B, 0, none⟩ v0).setCell ⟨B, 1, none⟩ v1).heap[B]? = some (.cells #[v0, v1] t (0, 0)) :=
  blk_set (blk_set h 0 v0) 1 v1
theorem st3 {w : World} {B : Nat} {c0 c1 c2 : Value} {t : TypeId} (h : w.heap[B]? = some (.cells #[c0, c1, c2] t (0, 0))) (v0 v1 v2 : Value) :
    (((w.setCell ⟨B, 0, none⟩ v0).setCell ⟨B, 1, none⟩ v1).setCell ⟨B, 2, none⟩ v2).heap[B]? = some (.cells #[v0, v1, v2] t (0, 0)) :=
  blk_set (blk_set (blk_set h 0 v0) 1 v1) 2 v2
theorem st4 {w : World} {B : Nat} {c0 c1 c2 c3 : Value} {t : TypeId} (h : w.heap[B]? = some (.cells #[c0, c1, c2, c3] t (0, 0))) (v0 v1 v2 v3 : Value) :
    ((((w.setCell ⟨B, 0, none⟩ v0).setCell ⟨B, 1, none⟩ v1).setCell ⟨B, 2, none⟩ v2).setCell ⟨B, 3, none⟩ v3).heap[B]? = some (.cells #[v0, v1, v2, v3] t (0, 0)) :=
  blk_set (blk_set (blk_set (blk_set h 0 v0) 1 v1) 2 v2) 3 v3
theorem bst2 {B : Nat} {a w : World} (h : Below B a w) {p : Nat} (hp : B ≤ p) (v0 v1 : Value) : Below B a ((w.setCell ⟨p, 0, none⟩ v0).setCell ⟨p, 1, none⟩ v1) := (h.setCell hp _).setCell hp _
theorem bst3 {B : Nat} {a w : World} (h : Below B a w) {p : Nat} (hp : B ≤ p) (v0 v1 v2 : Value) : Below B a (((w.setCell ⟨p, 0, none⟩ v0).setCell ⟨p, 1, none⟩ v1).setCell ⟨p, 2, none⟩ v2) := ((h.setCell hp _).setCell hp _).setCell hp _
theorem bst4 {B : Nat} {a w : World} (h : Below B a w) {p : Nat} (hp : B ≤ p) (v0 v1 v2 v3 : Value) : Below B a ((((w.setCell ⟨p, 0, none⟩ v0).setCell ⟨p, 1, none⟩ v1).setCell ⟨p, 2, none⟩ v2).setCell ⟨p, 3, none⟩ v3) := (((h.setCell hp _).setCell hp _).setCell hp _).setCell hp _
/-- Only draws lie between. -/
def Dr (w w' : World) : Prop := ∃ n, w' = w.drewN n
theorem Dr.refl (w : World) : Dr w w := ⟨0, rfl⟩
theorem Dr.dr {w w' : World} (h : Dr w w') (n : Nat) : Dr w (w'.drewN n) := by obtain ⟨m, rfl⟩ := h; exact ⟨m + n, World.drewN_drewN _ _ _⟩
theorem Dr.tr {w w' w'' : World} (h : Dr w w') (k : Dr w' w'') : Dr w w'' := by obtain ⟨n, rfl⟩ := k; exact h.dr n
theorem Dr.below {w w' : World} (h : Dr w w') : Below w.heap.size w w' := by obtain ⟨n, rfl⟩ := h; exact ⟨rfl, rfl, rfl, Nat.le_refl _, fun _ _ => rfl⟩
theorem Dr.heap {w w' : World} (h : Dr w w') (k : Nat) : w'.heap[k]? = w.heap[k]? := by obtain ⟨n, rfl⟩ := h; rfl
theorem Dr.size {w w' : World} (h : Dr w w') : w'.heap.size = w.heap.size := by obtain ⟨n, rfl⟩ := h; rfl
end Go.Proofs.YtdbiebnnogjccaaGreatDoor
