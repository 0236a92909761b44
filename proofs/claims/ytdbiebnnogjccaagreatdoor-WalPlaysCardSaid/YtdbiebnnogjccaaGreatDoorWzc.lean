/- The log (layer 21): both logs and both disks behind every call. -/
import Derived.Test.YtdbiebnnogjccaaGreatDoorWzb
import Derived.Test.YtdbiebnnogjccaaGreatDoorWh
namespace Go.Proofs.YtdbiebnnogjccaaGreatDoor
open Go.RowKit
/-- The block of what a disk keeps. -/
def kb (d : Dk) (kv : Value) (b : Nat) : Prop := d.keep ≠ [] ∧ ∃ off m c, kv = .slice (some ⟨b, off, none⟩) m c
/-- The program's disk and, maybe, log. F: what it writes; K: what it reads besides. -/
def PS (w : World) (B g mb cb : Nat) (v : Value) (ox : Option Wl) (d : Dk) (F K : Nat → Prop) : Prop :=
  ∃ kv, DiskAt w g mb cb 4096 kv d ∧ d.Ok ∧ K = kb d kv ∧ (∀ b, DkS g mb cb b → B ≤ b) ∧ match ox with
    | none => v = .pointer none ∧ F = DkS g mb cb
    | some x => ∃ p rv, v = .pointer (some ⟨p, 0, none⟩) ∧ WalQ w B p g mb cb kv rv d.n d.logs x d ∧ F = LgS g mb cb p rv
/-- The reference's. -/
def RS (w : World) (B q sb rb c1 c2 nn : Nat) (u : Value) (oy : Option Wl) (e : Dk) (G R : Nat → Prop) : Prop :=
  ∃ kr, RefAny w q sb rb c1 c2 nn kr e ∧ e.Ok ∧ (∀ b, G b → B ≤ b) ∧ match oy with
    | none => u = .pointer none ∧ G = RfS q sb rb ∧ R = kb e kr
    | some x => ∃ y vr, u = .pointer (some ⟨y, 0, none⟩) ∧ RlQ w y q sb rb c1 c2 nn kr vr e.n e.logs x e ∧ G = RlS q sb rb y ∧ R = fun b => kb e kr b ∨ ∃ off m c, vr = .slice (some ⟨b, off, none⟩) m c ∧ m ≠ 0
theorem DiskAt.frK {S : Nat → Prop} {w w' : World} {g mb cb : Nat} {kv : Value} {d : Dk} (h : DiskAt w g mb cb 4096 kv d) (hf : Fr S w w') (h1 : ∀ b, DkS g mb cb b → ¬ S b) (h2 : ∀ b, kb d kv b → ¬ S b) : DiskAt w' g mb cb 4096 kv d :=
  ⟨blk_fr h.blk hf (h1 _ (.inl rfl)), h.hm.fr hf (h1 _ (.inr (.inl rfl))), h.hc.fr hf (h1 _ (.inr (.inr rfl))), h.hk.fr' hf (fun hne b off n c e => h2 b ⟨hne, off, n, c, e⟩), h.n0, h.n1, h.gm, h.gc, h.mc, h.kn⟩
theorem SlKept.kb_lt {w : World} {d : Dk} {kv : Value} (h : SlKept w kv d.keep) {b : Nat} (hb : kb d kv b) : b < w.heap.size := by
  obtain ⟨hne, off, m, c, rfl⟩ := hb
  exact SlKept.lt h hne
section
variable {w w' w0 : World} {B g mb cb q sb rb c1 c2 nn : Nat} {v u : Value} {ox oy : Option Wl} {d e : Dk} {F K G R S : Nat → Prop}
theorem PS.fr (h : PS w B g mb cb v ox d F K) (hf : Fr S w w') (h1 : ∀ b, F b → ¬ S b) (h2 : ∀ b, K b → ¬ S b) : PS w' B g mb cb v ox d F K := by
  obtain ⟨kv, hd, ok, rfl, hB, hx⟩ := h
  cases ox with
  | none =>
    obtain ⟨rfl, rfl⟩ := hx
    exact ⟨kv, hd.frK hf h1 h2, ok, rfl, hB, rfl, rfl⟩
  | some x =>
    obtain ⟨p, rv, rfl, hw, rfl⟩ := hx
    have hd' := hd.frK hf (fun b hb => h1 b (.inl hb)) h2
    exact ⟨kv, hd', ok, rfl, hB, p, rv, rfl, ⟨hw.log.fr hf (h1 _ (.inr (.inl rfl))) (fun b hb => h1 b (.inr (.inr hb))), hd', hw.ok, hw.dn, hw.nl, hw.n32, hw.pB, hw.pS, hw.gB, hw.rS, hw.kN⟩, rfl⟩
theorem RS.fr (h : RS w B q sb rb c1 c2 nn u oy e G R) (hf : Fr S w w') (h1 : ∀ b, G b → ¬ S b) (h2 : ∀ b, R b → ¬ S b) : RS w' B q sb rb c1 c2 nn u oy e G R := by
  obtain ⟨kr, hd, ok, hB, hx⟩ := h
  cases oy with
  | none =>
    obtain ⟨rfl, rfl, rfl⟩ := hx
    exact ⟨kr, hd.frK hf h1 (fun hne b off n c e => h2 b ⟨hne, off, n, c, e⟩), ok, hB, rfl, rfl, rfl⟩
  | some x =>
    obtain ⟨y, vr, rfl, hw, rfl, rfl⟩ := hx
    have hd' := hd.frK hf (fun b hb => h1 b (.inl hb)) (fun hne b off n c e => h2 b (.inl ⟨hne, off, n, c, e⟩))
    exact ⟨kr, hd', ok, hB, y, vr, rfl, ⟨⟨blk_fr hw.log.blk hf (h1 _ (.inr rfl)), hw.log.recs.frN hf (fun b off m c e hm => h2 b (.inr ⟨off, m, c, e, hm⟩)), hw.log.x0, hw.log.x1, hw.log.us, hw.log.rl, hw.log.l1⟩, hd', hw.ok, hw.dn, hw.nl, hw.n32, hw.yS, hw.vS, hw.kN⟩, rfl, rfl⟩
theorem PS.ltF (h : PS w B g mb cb v ox d F K) : ∀ b, F b → b < w.heap.size ∧ B ≤ b := by
  obtain ⟨kv, hd, ok, rfl, hB, hx⟩ := h
  have h0 : ∀ b, DkS g mb cb b → b < w.heap.size ∧ B ≤ b := fun b hb => ⟨by
    rcases hb with rfl | rfl | rfl
    · exact hd.lt
    · exact hd.hm.lt
    · exact hd.hc.lt, hB b hb⟩
  cases ox with
  | none => obtain ⟨rfl, rfl⟩ := hx; exact h0
  | some x =>
    obtain ⟨p, rv, rfl, hw, rfl⟩ := hx
    rintro b (hb | rfl | hb)
    · exact h0 b hb
    · exact ⟨blk_lt hw.log.blk, hw.pB⟩
    · have := hw.rB b hb; exact ⟨this.2, this.1⟩
theorem PS.ltK (h : PS w B g mb cb v ox d F K) : ∀ b, K b → b < w.heap.size := by
  obtain ⟨kv, hd, ok, rfl, hB, hx⟩ := h
  exact fun b hb => hd.hk.kb_lt hb
theorem RS.ltG (h : RS w B q sb rb c1 c2 nn u oy e G R) : ∀ b, G b → b < w.heap.size ∧ B ≤ b := by
  obtain ⟨kr, hd, ok, hB, hx⟩ := h
  refine fun b hb => ⟨?_, hB b hb⟩
  cases oy with
  | none => obtain ⟨rfl, rfl, rfl⟩ := hx; exact hd.blk b hb
  | some x =>
    obtain ⟨y, vr, rfl, hw, rfl, rfl⟩ := hx
    rcases hb with hb | rfl
    · exact hd.blk b hb
    · exact blk_lt hw.log.blk
theorem SlStrs.blk_lt {w : World} {l : List ByteArray} {b off m c : Nat} (h : SlStrs w (.slice (some ⟨b, off, none⟩) m c) l) (hm : m ≠ 0) : b < w.heap.size := by
  rcases h with ⟨e, _⟩ | ⟨b', off', cap, e, _, h⟩
  · cases e
  · injection e with e1 e2 _
    injection e1 with e1
    injection e1 with e1 _ _
    subst e1
    exact h.lt (fun hl => by rw [hl] at e2; exact hm e2)
theorem RS.ltR (h : RS w B q sb rb c1 c2 nn u oy e G R) : ∀ b, R b → b < w.heap.size := by
  obtain ⟨kr, ⟨rn, hd⟩, ok, hB, hx⟩ := h
  cases oy with
  | none => obtain ⟨rfl, rfl, rfl⟩ := hx; exact fun b hb => hd.hk.kb_lt hb
  | some x =>
    obtain ⟨y, vr, rfl, hw, rfl, rfl⟩ := hx
    rintro b (hb | ⟨off, m, c, rfl, hm⟩)
    · exact hd.hk.kb_lt hb
    · exact hw.log.recs.blk_lt hm
/-- Behind a call of the program's. -/
def TurnP (w : World) (B g mb cb : Nat) (v : Value) (ox : Option Wl) (d : Dk) (F K : Nat → Prop) (w' : World) : Prop :=
  ∃ F' K', PS w' B g mb cb v ox d F' K' ∧ Fr F w w' ∧ (∀ b, F' b → F b ∨ w.heap.size ≤ b) ∧ ∀ b, K' b → K b ∨ w.heap.size ≤ b
def TurnR (w : World) (B q sb rb c1 c2 nn : Nat) (u : Value) (oy : Option Wl) (e : Dk) (G R : Nat → Prop) (w' : World) : Prop :=
  ∃ G' R', RS w' B q sb rb c1 c2 nn u oy e G' R' ∧ Fr G w w' ∧ (∀ b, G' b → G b ∨ w.heap.size ≤ b) ∧ ∀ b, R' b → R b ∨ w.heap.size ≤ b
/-- Both, apart, and a block X that neither writes. -/
structure Bth (w0 w : World) (X : Nat) (OX : Obj) (g mb cb q sb rb c1 c2 nn : Nat) (v : Value) (ox : Option Wl) (d : Dk) (u : Value) (oy : Option Wl) (e : Dk) : Prop where
  ex : ∃ F K G R, PS w w0.heap.size g mb cb v ox d F K ∧ RS w w0.heap.size q sb rb c1 c2 nn u oy e G R ∧ (∀ b, F b → ¬ G b ∧ ¬ R b ∧ b ≠ X) ∧ ∀ b, G b → ¬ K b ∧ b ≠ X
  bel : Below w0.heap.size w0 w
  blk : w.heap[X]? = some OX
theorem bel_F {F : Nat → Prop} (hb : Below w0.heap.size w0 w) (hf : Fr F w w') (hF : ∀ b, F b → w0.heap.size ≤ b) : Below w0.heap.size w0 w' :=
  ⟨hf.os.trans hb.os, hf.tape.trans hb.tape, hf.output.trans hb.output, Nat.le_trans hb.size hf.size, fun k hk => (hf.block k (Nat.lt_of_lt_of_le hk hb.size) (fun e => by have := hF k e; omega)).trans (hb.block k hk)⟩
variable {X : Nat} {OX : Obj} {v' u' : Value} {ox' oy' : Option Wl} {d' e' : Dk}
theorem Bth.turnP (h : Bth w0 w X OX g mb cb q sb rb c1 c2 nn v ox d u oy e) (ht : ∀ F K, PS w w0.heap.size g mb cb v ox d F K → TurnP w w0.heap.size g mb cb v' ox' d' F K w') : Bth w0 w' X OX g mb cb q sb rb c1 c2 nn v' ox' d' u oy e := by
  obtain ⟨⟨F, K, G, R, hp, hr, h1, h2⟩, hb, hx⟩ := h
  obtain ⟨F', K', hp', hf, hF, hK⟩ := ht F K hp
  have lG := hr.ltG; have lR := hr.ltR; have lF := hp.ltF
  have lX := blk_lt hx
  refine ⟨⟨F', K', G, R, hp', hr.fr hf (fun b hg hF => (h1 b hF).1 hg) (fun b hR hF => (h1 b hF).2.1 hR), fun b hb => ?_, fun b hg => ⟨fun hk => ?_, (h2 b hg).2⟩⟩, bel_F hb hf (fun b hb => (lF b hb).2), blk_fr hx hf (fun e => (h1 X e).2.2 rfl)⟩
  · rcases hF b hb with h | h
    · exact h1 b h
    · exact ⟨fun hg => by have := (lG b hg).1; omega, fun hR => by have := lR b hR; omega, fun e => by omega⟩
  · rcases hK b hk with h | h
    · exact (h2 b hg).1 h
    · have := (lG b hg).1; omega
theorem Bth.turnR (h : Bth w0 w X OX g mb cb q sb rb c1 c2 nn v ox d u oy e) (ht : ∀ G R, RS w w0.heap.size q sb rb c1 c2 nn u oy e G R → TurnR w w0.heap.size q sb rb c1 c2 nn u' oy' e' G R w') : Bth w0 w' X OX g mb cb q sb rb c1 c2 nn v ox d u' oy' e' := by
  obtain ⟨⟨F, K, G, R, hp, hr, h1, h2⟩, hb, hx⟩ := h
  obtain ⟨G', R', hr', hf, hG, hR⟩ := ht G R hr
  have lF := hp.ltF; have lK := hp.ltK; have lG := hr.ltG
  have lX := blk_lt hx
  refine ⟨⟨F, K, G', R', hp.fr hf (fun b hF hg => (h1 b hF).1 hg) (fun b hK hg => (h2 b hg).1 hK), hr', fun b hb => ⟨fun hg => ?_, fun hr => ?_, (h1 b hb).2.2⟩, fun b hg => ⟨fun hk => ?_, fun e => ?_⟩⟩, bel_F hb hf (fun b hb => (lG b hb).2), blk_fr hx hf (fun e => (h2 X e).2 rfl)⟩
  · rcases hG b hg with h | h
    · exact (h1 b hb).1 h
    · have := (lF b hb).1; omega
  · rcases hR b hr with h | h
    · exact (h1 b hb).2.1 h
    · have := (lF b hb).1; omega
  · rcases hG b hg with h | h
    · exact (h2 b h).1 hk
    · have := lK b hk; omega
  · rcases hG b hg with h | h
    · exact (h2 b h).2 e
    · omega
theorem Bth.below (h : Bth w0 w X OX g mb cb q sb rb c1 c2 nn v ox d u oy e) (hb : Below w.heap.size w w') : Bth w0 w' X OX g mb cb q sb rb c1 c2 nn v ox d u oy e := by
  obtain ⟨⟨F, K, G, R, hp, hr, h1, h2⟩, hb0, hx⟩ := h
  have hf : Fr (fun _ => False) w w' := Fr.of_below hb
  exact ⟨⟨F, K, G, R, hp.fr hf (fun _ _ h => h) (fun _ _ h => h), hr.fr hf (fun _ _ h => h) (fun _ _ h => h), h1, h2⟩, bstep hb0 hb, blk_below hx hb⟩
/-- Another block in the place of X. -/
theorem Bth.setX (OY : Obj) (h : Bth w0 w X OX g mb cb q sb rb c1 c2 nn v ox d u oy e) : Bth w0 (w.alloc OY) w.heap.size OY g mb cb q sb rb c1 c2 nn v ox d u oy e := by
  obtain ⟨⟨F, K, G, R, hp, hr, h1, h2⟩, hb0, hx⟩ := h
  have hf : Fr (fun _ => False) w (w.alloc OY) := Fr.of_below (below_a1 w OY)
  have lF := hp.ltF; have lG := hr.ltG
  exact ⟨⟨F, K, G, R, hp.fr hf (fun _ _ h => h) (fun _ _ h => h), hr.fr hf (fun _ _ h => h) (fun _ _ h => h), fun b hb => ⟨(h1 b hb).1, (h1 b hb).2.1, fun e => by have := (lF b hb).1; omega⟩, fun b hb => ⟨(h2 b hb).1, fun e => by have := (lG b hb).1; omega⟩⟩, bstep hb0 (below_a1 _ _), blk_new _ _⟩
/-- The program's disk is written. -/
theorem PS.wrote {kv kv' : Value} (h : PS w B g mb cb v ox d F K) (hK : K = kb d kv) (hd : DiskAt w' g mb cb 4096 kv' d') (hf : Fr (DkS g mb cb) w w') (ok : d'.Ok) (hn : d'.n = d.n) (hk : (kv' = kv ∧ d'.keep = d.keep) ∨ ∀ b off n c, kv' = .slice (some ⟨b, off, none⟩) n c → w.heap.size ≤ b) (hkv : ∀ kv2, DiskAt w g mb cb 4096 kv2 d → kv2 = kv) : TurnP w B g mb cb v ox d' F K w' := by
  have lF := h.ltF
  obtain ⟨kv2, hd0, ok0, _, hB, hx⟩ := h
  obtain rfl := hkv kv2 hd0
  have hlog : d'.logs = d.logs := by unfold Dk.logs; rw [hn]
  have hK' : ∀ b, kb d' kv' b → K b ∨ w.heap.size ≤ b := fun b hb => by
    obtain ⟨hne, off, m, c, e⟩ := hb
    rcases hk with ⟨e1, e2⟩ | hk
    · exact .inl (by rw [hK]; exact ⟨by rw [← e2]; exact hne, off, m, c, by rw [← e1]; exact e⟩)
    · exact .inr (hk b off m c e)
  cases ox with
  | none =>
    obtain ⟨rfl, rfl⟩ := hx
    exact ⟨DkS g mb cb, kb d' kv', ⟨kv', hd, ok, rfl, hB, rfl, rfl⟩, hf, fun b hb => .inl hb, hK'⟩
  | some x =>
    obtain ⟨p, rv, rfl, hw, rfl⟩ := hx
    refine ⟨LgS g mb cb p rv, kb d' kv', ⟨kv', hd, ok, rfl, hB, p, rv, rfl, ?_, rfl⟩, hf.mono (fun _ h => .inl h), fun b hb => .inl hb, hK'⟩
    rw [hn, hlog]
    refine ⟨hw.log.fr hf hw.pS hw.rS, hd, ok, hn.trans hw.dn, hw.nl, hw.n32, hw.pB, hw.pS, hw.gB, hw.rS, fun b off m c e hm hb => ?_⟩
    rcases hk with ⟨e1, _⟩ | hk
    · exact hw.kN b off m c (by rw [← e1]; exact e) hm hb
    · have h1 := hk b off m c e
      rcases hb with rfl | hb
      · have := (lF b (.inr (.inl rfl))).1; omega
      · have := (lF b (.inr (.inr hb))).1; omega
theorem DiskAt.kv_eq {kv kv2 : Value} (h : DiskAt w g mb cb 4096 kv d) (h2 : DiskAt w g mb cb 4096 kv2 d) : kv2 = kv := by
  have e := h.blk.symm.trans h2.blk
  injection e with e
  injection e with e _ _
  unfold dkCells at e
  simp at e
  exact e.symm
theorem PS.dsk (h : PS w B g mb cb v ox d F K) : ∃ kv, DiskAt w g mb cb 4096 kv d ∧ d.Ok ∧ K = kb d kv := by
  obtain ⟨kv, hd, ok, hK, _⟩ := h; exact ⟨kv, hd, ok, hK⟩
theorem RefAny.kv_eq {kv kv2 : Value} (h : RefAny w q sb rb c1 c2 nn kv e) (h2 : RefAny w q sb rb c1 c2 nn kv2 e) : kv2 = kv := by
  obtain ⟨rn, h⟩ := h; obtain ⟨rn2, h2⟩ := h2
  have e := h.blk.symm.trans h2.blk
  injection e with e
  injection e with e _ _
  unfold rfCells at e
  simp at e
  exact e.2.symm
/-- The reference's disk is written. -/
theorem RS.wrote {kr kr' : Value} (h : RS w B q sb rb c1 c2 nn u oy e G R) (h0 : RefAny w q sb rb c1 c2 nn kr e) (hd : RefAny w' q sb rb c1 c2 nn kr' e') (hf : Fr (RfS q sb rb) w w') (ok : e'.Ok) (hn : e'.n = e.n) (hk : (kr' = kr ∧ e'.keep = e.keep) ∨ ∀ b off n c, kr' = .slice (some ⟨b, off, none⟩) n c → w.heap.size ≤ b) : TurnR w B q sb rb c1 c2 nn u oy e' G R w' := by
  have lG := h.ltG
  obtain ⟨kr2, hd0, ok0, hB, hx⟩ := h
  obtain rfl := h0.kv_eq hd0
  have hlog : e'.logs = e.logs := by unfold Dk.logs; rw [hn]
  have hK' : ∀ b, kb e' kr' b → kb e kr2 b ∨ w.heap.size ≤ b := fun b hb => by
    obtain ⟨hne, off, m, c, e0⟩ := hb
    rcases hk with ⟨e1, e2⟩ | hk
    · exact .inl ⟨by rw [← e2]; exact hne, off, m, c, by rw [← e1]; exact e0⟩
    · exact .inr (hk b off m c e0)
  cases oy with
  | none =>
    obtain ⟨rfl, rfl, rfl⟩ := hx
    exact ⟨RfS q sb rb, kb e' kr', ⟨kr', hd, ok, hB, rfl, rfl, rfl⟩, hf, fun b hb => .inl hb, hK'⟩
  | some x =>
    obtain ⟨y, vr, rfl, hw, rfl, rfl⟩ := hx
    refine ⟨RlS q sb rb y, _, ⟨kr', hd, ok, hB, y, vr, rfl, ?_, rfl, rfl⟩, hf.mono (fun _ h => .inl h), fun b hb => .inl hb, fun b hb => ?_⟩
    · rw [hn, hlog]
      refine ⟨⟨blk_fr hw.log.blk hf hw.yS, hw.log.recs.frN hf (fun b off m c e hm => (hw.vS b off m c e hm).1), hw.log.x0, hw.log.x1, hw.log.us, hw.log.rl, hw.log.l1⟩, hd, ok, hn.trans hw.dn, hw.nl, hw.n32, hw.yS, hw.vS, fun hne b off m c e0 hy => ?_⟩
      rcases hk with ⟨e1, e2⟩ | hk
      · exact hw.kN (by rw [← e2]; exact hne) b off m c (by rw [← e1]; exact e0) hy
      · have h1 := hk b off m c e0
        have := (lG b (.inr hy)).1; omega
    · rcases hb with hb | hb
      · exact (hK' b hb).imp .inl id
      · exact .inl (.inr hb)
end
/-! ### calls -/
section
variable {w w0 : World} {X : Nat} {OX : Obj} {g mb cb q sb rb c1 c2 nn : Nat} {v u : Value} {ox oy : Option Wl} {d e : Dk} {aD aA : Addr}
theorem bp_Write (i : Int) (hi : wf64 i) (s : ByteArray) (hw : DkW w aD aA) (h : Bth w0 w X OX g mb cb q sb rb c1 c2 nn v ox d u oy e) :
    Calls Tryz.prog 33 #[.pointer (some ⟨g, 0, none⟩), .int .i64 i, .string s] w fun z w' => z = .returned (.int .i64 (d.write i s).2) ∧ Bth w0 w' X OX g mb cb q sb rb c1 c2 nn v ox (d.write i s).1 u oy e := by
  obtain ⟨F, K, G, R, hp, _⟩ := h.ex
  obtain ⟨kv, hd, ok, _⟩ := hp.dsk
  refine (disk_Write i hi s g mb cb kv d aD aA w hw hd ok).mono fun z w' ⟨h1, h2, h3⟩ => ⟨h1, h.turnP fun F K hp => ?_⟩
  obtain ⟨kv2, hd2, _, hK⟩ := hp.dsk
  exact hp.wrote hK h2 h3 (ok.write i s) (write_nW d i s) (.inl ⟨hd2.kv_eq hd, write_keep d i s⟩) fun kv3 h => hd2.kv_eq h
theorem br_Write (i : Int) (s : ByteArray) (h : Bth w0 w X OX g mb cb q sb rb c1 c2 nn v ox d u oy e) :
    Calls Tryz.prog 35 #[.pointer (some ⟨q, 0, none⟩), .int .i64 i, .string s] w fun z w' => z = .returned (.int .i64 (e.write i s).2) ∧ Bth w0 w' X OX g mb cb q sb rb c1 c2 nn v ox d u oy (e.write i s).1 := by
  obtain ⟨F, K, G, R, _, ⟨kr, hd, ok, _⟩, _⟩ := h.ex
  exact (ref_Write i s q sb rb c1 c2 nn kr e ok w hd).mono fun z w' ⟨h1, h2, h3⟩ => ⟨h1, h.turnR fun G R hr => hr.wrote hd h2 h3 (ok.write i s) (write_nW e i s) (.inl ⟨rfl, write_keep e i s⟩)⟩
end
end Go.Proofs.YtdbiebnnogjccaaGreatDoor
