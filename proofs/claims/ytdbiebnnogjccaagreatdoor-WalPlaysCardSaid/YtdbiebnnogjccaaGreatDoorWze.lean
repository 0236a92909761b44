/- The log (layer 21): the calls of WalPlays, both logs and both disks kept. -/
import Derived.Test.YtdbiebnnogjccaaGreatDoorWzc
namespace Go.Proofs.YtdbiebnnogjccaaGreatDoor
open Go.RowKit
theorem crash_nW (d : Dk) (l : List (Int × Int)) : (d.crash l).n = d.n := by unfold Dk.crash; split <;> rfl
theorem crash_keepW (d : Dk) (l : List (Int × Int)) : (d.crash l).keep = d.keep := by unfold Dk.crash; split <;> rfl
theorem arm_nW (d : Dk) (m : Int) (l : List (Int × Int)) : (d.arm m l).1.n = d.n := by unfold Dk.arm; split <;> rfl
theorem append_nW (d : Dk) (x : Wl) (lg : Nat) (s : ByteArray) : (d.append x lg s).1.n = d.n := by
  have hw : ∀ (L : List ByteArray) (d : Dk) (i : Int), (d.writes i L).1.n = d.n := by
    intro L
    induction L with
    | nil => intro d i; rfl
    | cons s L ih =>
      intro d i
      by_cases h : (d.write i s).2 = 0
      · rw [writes_cons h, ih, write_nW]
      · rw [writes_stop h, write_nW]
  unfold Dk.append
  dsimp only
  split
  · rfl
  · split
    · exact hw _ _ _
    · exact hw _ _ _
section
variable {w w' w0 : World} {X : Nat} {OX : Obj} {g mb cb q sb rb c1 c2 nn : Nat} {v u : Value} {ox oy : Option Wl} {d e : Dk} {aD aA : Addr}
theorem bp_Start (h : Bth w0 w X OX g mb cb q sb rb c1 c2 nn v ox d u oy e) :
    Calls Tryz.prog 18 #[.pointer (some ⟨g, 0, none⟩)] w fun z w' => z = .returned (.tuple #[]) ∧ Bth w0 w' X OX g mb cb q sb rb c1 c2 nn v ox d.start u oy e := by
  obtain ⟨F, K, G, R, hp, _⟩ := h.ex
  obtain ⟨kv, hd, ok, _⟩ := hp.dsk
  refine (disk_Start g mb cb 4096 kv d w hd).mono fun z w' ⟨h1, h2, h3⟩ => ⟨h1, h.turnP fun F K hp => ?_⟩
  obtain ⟨kv2, hd2, _, hK⟩ := hp.dsk
  exact hp.wrote hK h2 (h3.mono fun _ h => .inl h) ok.start rfl (.inl ⟨hd2.kv_eq hd, rfl⟩) fun kv3 h => hd2.kv_eq h
theorem br_Start (h : Bth w0 w X OX g mb cb q sb rb c1 c2 nn v ox d u oy e) :
    Calls Tryz.prog 28 #[.pointer (some ⟨q, 0, none⟩)] w fun z w' => z = .returned (.tuple #[]) ∧ Bth w0 w' X OX g mb cb q sb rb c1 c2 nn v ox d u oy e.start := by
  obtain ⟨F, K, G, R, _, ⟨kr, ⟨rn, hd⟩, ok, _⟩, _⟩ := h.ex
  exact (ref_Start q sb rb c1 c2 nn rn kr e w hd).mono fun z w' ⟨h1, h2, h3⟩ => ⟨h1, h.turnR fun G R hr => hr.wrote ⟨rn, hd⟩ ⟨rn, h2⟩ (h3.mono fun _ h => .inl h) ok.start rfl (.inl ⟨rfl, rfl⟩)⟩
theorem bp_Crash (kvv : Value) (l : List (Int × Int)) (hl : l.length ≤ 65536) (hk : SlKept w0 kvv l) (h : Bth w0 w X OX g mb cb q sb rb c1 c2 nn v ox d u oy e) :
    Calls Tryz.prog 17 #[.pointer (some ⟨g, 0, none⟩), kvv] w fun z w' => z = .returned (.tuple #[]) ∧ Bth w0 w' X OX g mb cb q sb rb c1 c2 nn v ox (d.crash l) u oy e := by
  obtain ⟨F, K, G, R, hp, _⟩ := h.ex
  obtain ⟨kv, hd, ok, hK, hB, _⟩ := hp
  refine (disk_CrashE kvv l hl g mb cb kv d w hd ok.ok0 (hk.below h.bel) (fun hne b off m c e hb => ?_)).mono fun z w' ⟨h1, h2, h3⟩ => ⟨h1, h.turnP fun F K hp => ?_⟩
  · rw [e] at hk
    have h1 := hk.lt hne
    have h2 := hB b hb
    omega
  · obtain ⟨kv2, hd2, _, hK⟩ := hp.dsk
    exact hp.wrote hK h2 h3 (ok.crash l) (crash_nW d l) (.inl ⟨hd2.kv_eq hd, crash_keepW d l⟩) fun kv3 h => hd2.kv_eq h
theorem br_Crash (kvv : Value) (l : List (Int × Int)) (hl : l.length ≤ 65536) (hk : SlKept w0 kvv l) (h : Bth w0 w X OX g mb cb q sb rb c1 c2 nn v ox d u oy e) :
    Calls Tryz.prog 27 #[.pointer (some ⟨q, 0, none⟩), kvv] w fun z w' => z = .returned (.tuple #[]) ∧ Bth w0 w' X OX g mb cb q sb rb c1 c2 nn v ox d u oy (e.crash l) := by
  obtain ⟨F, K, G, R, _, hr0, _⟩ := h.ex
  have lG := hr0.ltG
  obtain ⟨kr, ⟨rn, hd⟩, ok, hB, hx⟩ := hr0
  have hsub : ∀ b, RfS q sb rb b → G b := by
    cases oy with
    | none => obtain ⟨_, rfl, _⟩ := hx; exact fun b h => h
    | some x => obtain ⟨y, vr, _, _, rfl, _⟩ := hx; exact fun b h => .inl h
  refine (ref_Crash kvv l hl q sb rb c1 c2 nn rn kr e w hd ok.ok0 (hk.below h.bel) (fun hne b off m c e hb => ?_)).mono fun z w' ⟨h1, h2, h3⟩ => ⟨h1, h.turnR fun G R hr => hr.wrote ⟨rn, hd⟩ ⟨rn, h2⟩ h3 (ok.crash l) (crash_nW e l) (.inl ⟨rfl, crash_keepW e l⟩)⟩
  rw [e] at hk
  have h1 := hk.lt hne
  have h2 := (lG b (hsub b hb)).2
  omega
theorem bp_Arm (m : Int) (kvv : Value) (l : List (Int × Int)) (hl : l.length ≤ 65536) (hk : SlKept w0 kvv l) (h : Bth w0 w X OX g mb cb q sb rb c1 c2 nn v ox d u oy e) :
    Calls Tryz.prog 29 #[.pointer (some ⟨g, 0, none⟩), .int .i64 m, kvv] w fun z w' => z = .returned (.int .i64 (d.arm m l).2) ∧ Bth w0 w' X OX g mb cb q sb rb c1 c2 nn v ox (d.arm m l).1 u oy e := by
  obtain ⟨F, K, G, R, hp, _⟩ := h.ex
  obtain ⟨kv, hd, ok, _⟩ := hp.dsk
  refine (disk_Arm m kvv l hl g mb cb kv d w hd (hk.below h.bel)).mono fun z w' ⟨h1, kv', h2, h3, h4⟩ => ⟨h1, h.turnP fun F K hp => ?_⟩
  obtain ⟨kv2, hd2, _, hK⟩ := hp.dsk
  obtain rfl := hd.kv_eq hd2
  exact hp.wrote hK h3 (h4.mono fun _ h => .inl h) (ok.arm m hl) (arm_nW d m l) h2 fun kv3 h => hd2.kv_eq h
theorem br_Arm (m : Int) (kvv : Value) (l : List (Int × Int)) (hl : l.length ≤ 65536) (hk : SlKept w0 kvv l) (h : Bth w0 w X OX g mb cb q sb rb c1 c2 nn v ox d u oy e) :
    Calls Tryz.prog 30 #[.pointer (some ⟨q, 0, none⟩), .int .i64 m, kvv] w fun z w' => z = .returned (.int .i64 (e.arm m l).2) ∧ Bth w0 w' X OX g mb cb q sb rb c1 c2 nn v ox d u oy (e.arm m l).1 := by
  obtain ⟨F, K, G, R, _, ⟨kr, hd, ok, _⟩, _⟩ := h.ex
  exact (ref_Arm m kvv l hl q sb rb c1 c2 nn kr e w hd (hk.below h.bel)).mono fun z w' ⟨h1, kv', h2, h3, h4⟩ => ⟨h1, h.turnR fun G R hr => hr.wrote hd h3 (h4.mono fun _ h => .inl h) (ok.arm m hl) (arm_nW e m l) h2⟩
theorem bp_Dead (h : Bth w0 w X OX g mb cb q sb rb c1 c2 nn v ox d u oy e) : Calls Tryz.prog 36 #[.pointer (some ⟨g, 0, none⟩)] w fun z w' => z = .returned (.bool d.dead) ∧ w = w' := by
  obtain ⟨F, K, G, R, hp, _⟩ := h.ex
  obtain ⟨kv, hd, ok, _⟩ := hp.dsk
  exact disk_Dead g mb cb 4096 kv d w hd
theorem Bth.rdead (h : Bth w0 w X OX g mb cb q sb rb c1 c2 nn v ox d u oy e) : w.cell? ⟨q, 2, none⟩ = some (.bool e.dead) := by
  obtain ⟨F, K, G, R, _, ⟨kr, hd, ok, _⟩, _⟩ := h.ex
  exact (ref_two hd).2
/-- The program's log. -/
theorem PS.log {B : Nat} {F K : Nat → Prop} {x : Wl} (h : PS w B g mb cb v (some x) d F K) : ∃ kv p rv, K = kb d kv ∧ v = .pointer (some ⟨p, 0, none⟩) ∧ WalQ w B p g mb cb kv rv d.n d.logs x d ∧ F = LgS g mb cb p rv := by
  obtain ⟨kv, hd, ok, hK, hB, p, rv, hv, hw, hF⟩ := h
  exact ⟨kv, p, rv, hK, hv, hw, hF⟩
theorem WalQ.ps {B p : Nat} {kv rv : Value} {x : Wl} (h : WalQ w B p g mb cb kv rv d.n d.logs x d) : PS w B g mb cb (.pointer (some ⟨p, 0, none⟩)) (some x) d (LgS g mb cb p rv) (kb d kv) :=
  ⟨kv, h.dsk, h.ok, rfl, h.gB, p, rv, rfl, h, rfl⟩
theorem RS.log {B : Nat} {G R : Nat → Prop} {x : Wl} (h : RS w B q sb rb c1 c2 nn u (some x) e G R) : ∃ kr y vr, u = .pointer (some ⟨y, 0, none⟩) ∧ RlQ w y q sb rb c1 c2 nn kr vr e.n e.logs x e ∧ G = RlS q sb rb y ∧ (R = fun b => kb e kr b ∨ ∃ off m c, vr = .slice (some ⟨b, off, none⟩) m c ∧ m ≠ 0) ∧ ∀ b, G b → B ≤ b := by
  obtain ⟨kr, hd, ok, hB, y, vr, hu, hw, hG, hR⟩ := h
  exact ⟨kr, y, vr, hu, hw, hG, hR, hB⟩
theorem bp_Sync {x : Wl} (hw : DkW w aD aA) (h : Bth w0 w X OX g mb cb q sb rb c1 c2 nn v (some x) d u oy e) :
    Calls Tryz.prog 15 #[v] w fun z w' => z = .returned (.int .i64 (d.sync x).2.2) ∧ Bth w0 w' X OX g mb cb q sb rb c1 c2 nn v (some (d.sync x).2.1) (d.sync x).1 u oy e := by
  obtain ⟨F, K, G, R, hp, _⟩ := h.ex
  obtain ⟨kv, p, rv, _, rfl, hq, _⟩ := hp.log
  refine (wal_SyncQ aD aA w hw hq).mono fun z w' ⟨h1, h2, h3⟩ => ⟨h1, h.turnP fun F K hp => ?_⟩
  obtain ⟨kv2, p2, rv2, hK, hv, hq2, hF⟩ := hp.log
  injection hv with hv; injection hv with hv; injection hv with hv _ _
  subst hv
  have e1 := hq.dsk.kv_eq hq2.dsk
  have e2 : rv2 = rv := by
    have e := hq.log.blk.symm.trans hq2.log.blk
    injection e with e; injection e with e _ _
    unfold lgCells at e; simp at e; exact e.symm
  subst e1 e2 hK hF
  have hn : (d.sync x).1.n = d.n := by unfold Dk.sync; split; rfl; exact flush_nW d
  have hl : (d.sync x).1.logs = d.logs := by unfold Dk.logs; rw [hn]
  have hk : (d.sync x).1.keep = d.keep := by unfold Dk.sync; split; rfl; exact flush_keep d
  rw [← hn, ← hl] at h2
  exact ⟨_, _, h2.ps, h3, fun b hb => .inl hb, fun b hb => .inl ⟨by rw [← hk]; exact hb.1, hb.2⟩⟩
end
end Go.Proofs.YtdbiebnnogjccaaGreatDoor

/- The log (layer 21): Append, Empty, Open, Records, Next, Left behind WalPlays, both logs and both disks kept. -/
namespace Go.Proofs.YtdbiebnnogjccaaGreatDoor
open Go.RowKit
section
variable {w w' w0 : World} {X : Nat} {OX : Obj} {g mb cb q sb rb c1 c2 nn : Nat} {v u : Value} {ox oy : Option Wl} {d e : Dk}
theorem Bth.partP (h : Bth w0 w X OX g mb cb q sb rb c1 c2 nn v ox d u oy e) : ∃ F K, PS w w0.heap.size g mb cb v ox d F K ∧ ∀ w' v' ox' d', TurnP w w0.heap.size g mb cb v' ox' d' F K w' → Bth w0 w' X OX g mb cb q sb rb c1 c2 nn v' ox' d' u oy e := by
  obtain ⟨⟨F, K, G, R, hp, hr, h1, h2⟩, hb, hx⟩ := h
  refine ⟨F, K, hp, fun w' v' ox' d' ht => ?_⟩
  obtain ⟨F', K', hp', hf, hF, hK⟩ := ht
  have lG := hr.ltG; have lR := hr.ltR; have lF := hp.ltF
  have lX := blk_lt hx
  refine ⟨⟨F', K', G, R, hp', hr.fr hf (fun b hg hF => (h1 b hF).1 hg) (fun b hR hF => (h1 b hF).2.1 hR), fun b hb => ?_, fun b hg => ⟨fun hk => ?_, (h2 b hg).2⟩⟩, bel_F hb hf (fun b hb => (lF b hb).2), blk_fr hx hf (fun e => (h1 X e).2.2 rfl)⟩
  · rcases hF b hb with h | h
    · exact h1 b h
    · exact ⟨fun hg => by have := (lG b hg).1; omega, fun hR => by have := lR b hR; omega, fun e => by omega⟩
  · rcases hK b hk with h | h
    · exact (h2 b hg).1 h
    · have := (lG b hg).1; omega
theorem Bth.partR (h : Bth w0 w X OX g mb cb q sb rb c1 c2 nn v ox d u oy e) : ∃ G R, RS w w0.heap.size q sb rb c1 c2 nn u oy e G R ∧ ∀ w' u' oy' e', TurnR w w0.heap.size q sb rb c1 c2 nn u' oy' e' G R w' → Bth w0 w' X OX g mb cb q sb rb c1 c2 nn v ox d u' oy' e' := by
  obtain ⟨⟨F, K, G, R, hp, hr, h1, h2⟩, hb, hx⟩ := h
  refine ⟨G, R, hr, fun w' u' oy' e' ht => ?_⟩
  obtain ⟨G', R', hr', hf, hG, hR⟩ := ht
  have lF := hp.ltF; have lK := hp.ltK; have lG := hr.ltG
  have lX := blk_lt hx
  refine ⟨⟨F, K, G', R', hp.fr hf (fun b hF hg => (h1 b hF).1 hg) (fun b hK hg => (h2 b hg).1 hK), hr', fun b hb => ⟨fun hg => ?_, fun hr => ?_, (h1 b hb).2.2⟩, fun b hg => ⟨fun hk => ?_, fun e => ?_⟩⟩, bel_F hb hf (fun b hb => (lG b hb).2), blk_fr hx hf (fun e => (h2 X e).2 rfl)⟩
  · rcases hG b hg with h | h
    · exact (h1 b hb).1 h
    · have := (lF b hb).1; omega
  · rcases hR b hr with h | h
    · exact (h1 b hb).2.1 h
    · have := (lF b hb).1; omega
  · rcases hG b hg with h | h
    · exact (h2 b h).1 hk
    · have := lK b hk; omega
  · rcases hG b hg with h | h
    · exact (h2 b h).2 e
    · omega
theorem logs_eq {d d' : Dk} (h : d'.n = d.n) : d'.logs = d.logs := by unfold Dk.logs; rw [h]
theorem append_keep (d : Dk) (x : Wl) (lg : Nat) (s : ByteArray) : (d.append x lg s).1.keep = d.keep := by
  have hw : ∀ (L : List ByteArray) (d : Dk) (i : Int), (d.writes i L).1.keep = d.keep := by
    intro L
    induction L with
    | nil => intro d i; rfl
    | cons s L ih =>
      intro d i
      by_cases h : (d.write i s).2 = 0
      · rw [writes_cons h, ih, write_keep]
      · rw [writes_stop h, write_keep]
  unfold Dk.append
  dsimp only
  split
  · rfl
  · split
    · exact hw _ _ _
    · exact hw _ _ _
theorem bp_Append {x : Wl} (s : ByteArray) {a0 a1 a2 aD aA bD bL bF : Addr} (hw : WlW w0 a0 a1 a2 aD aA bD bL bF) (h : Bth w0 w X OX g mb cb q sb rb c1 c2 nn v (some x) d u oy e) :
    Calls Tryz.prog 14 #[v, .string s] w fun z w' => z = .returned (.int .i64 (d.append x d.logs s).2.2) ∧ Bth w0 w' X OX g mb cb q sb rb c1 c2 nn v (some (d.append x d.logs s).2.1) (d.append x d.logs s).1 u oy e := by
  obtain ⟨F, K, hp, ht⟩ := h.partP
  obtain ⟨kv, p, rv, rfl, rfl, hq, rfl⟩ := hp.log
  refine (wal_AppendQ s a0 a1 a2 aD aA bD bL bF w0 w hw h.bel hq).mono fun z w' ⟨rv', h1, h2, h3, h4⟩ => ⟨h1, ht _ _ _ _ ?_⟩
  have hn := append_nW d x d.logs s
  have hk := append_keep d x d.logs s
  obtain ⟨r, hr⟩ : ∃ r, r = d.append x d.logs s := ⟨_, rfl⟩
  rw [← hr] at h2 hn hk ⊢
  rw [← logs_eq hn, ← hn] at h2
  refine ⟨_, _, h2.ps, h3, fun b hb => ?_, fun b hb => .inl ⟨by rw [← hk]; exact hb.1, hb.2⟩⟩
  rcases hb with hb | hb | hb
  · exact .inl (.inl hb)
  · exact .inl (.inr (.inl hb))
  · exact (h4 b hb).imp (fun h => .inr (.inr h)) id
theorem RlQ.rs {B y : Nat} {kr vr : Value} {x : Wl} (h : RlQ w y q sb rb c1 c2 nn kr vr e.n e.logs x e) (hB : ∀ b, RlS q sb rb y b → B ≤ b) : RS w B q sb rb c1 c2 nn (.pointer (some ⟨y, 0, none⟩)) (some x) e (RlS q sb rb y) (fun b => kb e kr b ∨ ∃ off m c, vr = .slice (some ⟨b, off, none⟩) m c ∧ m ≠ 0) :=
  ⟨kr, h.dsk, h.ok, hB, y, vr, rfl, h, rfl, rfl⟩
theorem br_Append {x : Wl} (s : ByteArray) (hs : s.size ≤ 3000) (h : Bth w0 w X OX g mb cb q sb rb c1 c2 nn v ox d u (some x) e) :
    Calls Tryz.prog 25 #[u, .string s] w fun z w' => z = .returned (.int .i64 (e.append x e.logs s).2.2) ∧ Bth w0 w' X OX g mb cb q sb rb c1 c2 nn v ox d u (some (e.append x e.logs s).2.1) (e.append x e.logs s).1 := by
  obtain ⟨G, R, hr, ht⟩ := h.partR
  obtain ⟨kr, y, vr, rfl, hq, rfl, rfl, hB⟩ := hr.log
  refine (ref21_Append s hs w hq).mono fun z w' ⟨vr', h1, h2, h3, h4⟩ => ⟨h1, ht _ _ _ _ ?_⟩
  have hn := append_nW e x e.logs s
  have hk := append_keep e x e.logs s
  obtain ⟨r, hr⟩ : ∃ r, r = e.append x e.logs s := ⟨_, rfl⟩
  rw [← hr] at h2 hn hk ⊢
  rw [← logs_eq hn, ← hn] at h2
  refine ⟨_, _, h2.rs hB, h3, fun b hb => .inl hb, fun b hb => ?_⟩
  rcases hb with hb | ⟨off, m, c, hv, hm⟩
  · exact .inl (.inl ⟨by rw [← hk]; exact hb.1, hb.2⟩)
  · rcases h4 with rfl | h4
    · exact .inl (.inr ⟨off, m, c, hv, hm⟩)
    · exact .inr (h4 b (by rw [hv]; rfl))
theorem br_Sync {x : Wl} (h : Bth w0 w X OX g mb cb q sb rb c1 c2 nn v ox d u (some x) e) :
    Calls Tryz.prog 26 #[u] w fun z w' => z = .returned (.int .i64 (e.sync x).2.2) ∧ Bth w0 w' X OX g mb cb q sb rb c1 c2 nn v ox d u (some (e.sync x).2.1) (e.sync x).1 := by
  obtain ⟨G, R, hr, ht⟩ := h.partR
  obtain ⟨kr, y, vr, rfl, hq, rfl, rfl, hB⟩ := hr.log
  refine (ref21_Sync w hq).mono fun z w' ⟨h1, h2, h3⟩ => ⟨h1, ht _ _ _ _ ?_⟩
  have hn : (e.sync x).1.n = e.n := by unfold Dk.sync; split; rfl; exact flush_nW e
  have hk : (e.sync x).1.keep = e.keep := by unfold Dk.sync; split; rfl; exact flush_keep e
  rw [← logs_eq hn, ← hn] at h2
  exact ⟨_, _, h2.rs hB, h3, fun b hb => .inl hb, fun b hb => .inl (hb.imp (fun hb => ⟨by rw [← hk]; exact hb.1, hb.2⟩) id)⟩
theorem br_Empty {x : Wl} (h : Bth w0 w X OX g mb cb q sb rb c1 c2 nn v ox d u (some x) e) :
    Calls Tryz.prog 32 #[u] w fun z w' => z = .returned (.tuple #[]) ∧ Bth w0 w' X OX g mb cb q sb rb c1 c2 nn v ox d u (some ⟨[], x.next, 0, x.dead⟩) e := by
  obtain ⟨G, R, hr, ht⟩ := h.partR
  obtain ⟨kr, y, vr, rfl, hq, rfl, rfl, hB⟩ := hr.log
  refine (ref21_Empty w hq).mono fun z w' ⟨h1, h2, h3⟩ => ⟨h1, ht _ _ _ _ ?_⟩
  exact ⟨_, _, h2.rs hB, h3, fun b hb => .inl hb, fun b hb => .inl (hb.imp id (fun ⟨off, m, c, e, _⟩ => by cases e))⟩
theorem bp_Empty {x : Wl} (h : Bth w0 w X OX g mb cb q sb rb c1 c2 nn v (some x) d u oy e) :
    Calls Tryz.prog 31 #[v] w fun z w' => z = .returned (.tuple #[]) ∧ Bth w0 w' X OX g mb cb q sb rb c1 c2 nn v (some ⟨[], x.next, 0, x.dead⟩) d u oy e := by
  obtain ⟨F, K, hp, ht⟩ := h.partP
  obtain ⟨kv, p, rv, rfl, rfl, hq, rfl⟩ := hp.log
  refine (wal_Empty w hq.log).mono fun z w' ⟨h1, h2, h3⟩ => ⟨h1, ht _ _ _ _ ?_⟩
  have h4 := hq.logged h2 (h3.mono fun b h => .inl h) (fun b e => by cases e)
  exact ⟨_, _, h4.ps, h3.mono (fun b h => .inr (.inl h)), fun b hb => .inl (hb.imp id (fun hb => hb.imp id (fun e => by cases e))), fun b hb => .inl hb⟩
/-- The log is let go. -/
theorem Bth.dropP (h : Bth w0 w X OX g mb cb q sb rb c1 c2 nn v ox d u oy e) : Bth w0 w X OX g mb cb q sb rb c1 c2 nn (.pointer none) none d u oy e := by
  obtain ⟨F, K, hp, ht⟩ := h.partP
  refine ht _ _ _ _ ?_
  obtain ⟨kv, hd, ok, rfl, hB, hx⟩ := hp
  refine ⟨DkS g mb cb, kb d kv, ⟨kv, hd, ok, rfl, hB, rfl, rfl⟩, Fr.refl _ _, fun b hb => .inl ?_, fun b hb => .inl hb⟩
  cases ox with
  | none => obtain ⟨_, rfl⟩ := hx; exact hb
  | some x => obtain ⟨p, rv, _, _, rfl⟩ := hx; exact .inl hb
theorem Bth.dropR (h : Bth w0 w X OX g mb cb q sb rb c1 c2 nn v ox d u oy e) : Bth w0 w X OX g mb cb q sb rb c1 c2 nn v ox d (.pointer none) none e := by
  obtain ⟨G, R, hr, ht⟩ := h.partR
  refine ht _ _ _ _ ?_
  obtain ⟨kr, hd, ok, hB, hx⟩ := hr
  cases oy with
  | none => obtain ⟨_, rfl, rfl⟩ := hx; exact ⟨RfS q sb rb, kb e kr, ⟨kr, hd, ok, hB, rfl, rfl, rfl⟩, Fr.refl _ _, fun b hb => .inl hb, fun b hb => .inl hb⟩
  | some x => obtain ⟨y, vr, _, _, rfl, rfl⟩ := hx; exact ⟨RfS q sb rb, kb e kr, ⟨kr, hd, ok, (fun b hb => hB b (.inl hb)), rfl, rfl, rfl⟩, Fr.refl _ _, fun b hb => .inl (.inl hb), fun b hb => .inl (.inl hb)⟩
theorem openW_some {d : Dk} {first : Int} {x : Wl} (h : (d.openW first).1 = some x) : 32 ≤ d.n ∧ d.n ≤ 4096 ∧ (d.logs : Int) = (d.n - 2) / 4 ∧ (d.openW first).2 = 0 := by
  unfold Dk.openW at h ⊢
  split at h
  · cases h
  · rename_i c0
    split at h
    · cases h
    · rename_i c1
      rw [if_neg c0, if_neg c1]
      have k1 : (layN d.n).2 = 0 := Decidable.not_not.1 c1
      obtain ⟨n0, n1⟩ : 32 ≤ d.n ∧ d.n ≤ 4096 := by
        unfold layN at k1
        split at k1
        · exact absurd k1 (by decide)
        · split at k1
          · exact absurd k1 (by decide)
          · omega
      refine ⟨n0, n1, ?_, ?_⟩
      · unfold Dk.logs layN; rw [if_neg (by omega), if_neg (by omega)]; dsimp only; omega
      · split at h
        · cases h
        · rename_i c2
          rw [if_neg c2]
          split at h
          · cases h
          · rename_i c3
            rw [if_neg c3]
/-- Behind an opening: the log's place is somewhere. -/
def OpenB (w0 : World) (X : Nat) (OX : Obj) (g mb cb q sb rb c1 c2 nn : Nat) (r : Option Wl × Int) (d : Dk) (u : Value) (oy : Option Wl) (e : Dk) (z : Ending) (w' : World) : Prop :=
  ∃ v', z = .returned (.tuple #[v', .int .i64 r.2]) ∧ (r.1 = none → v' = .pointer none) ∧ Bth w0 w' X OX g mb cb q sb rb c1 c2 nn v' r.1 d u oy e
theorem bp_Open (first : Int) (f0 : 0 ≤ first) (f1 : first < 4294967296) {a0 a1 a2 aD aA : Addr} (hw : HwW w a0 a1 a2 aD aA) (h : Bth w0 w X OX g mb cb q sb rb c1 c2 nn v none d u oy e) :
    Calls Tryz.prog 12 #[.pointer (some ⟨g, 0, none⟩), .int .u32 first] w (OpenB w0 X OX g mb cb q sb rb c1 c2 nn (d.openW first) d u oy e) := by
  obtain ⟨F, K, hp, ht⟩ := h.partP
  have lF := hp.ltF; have lK := hp.ltK
  have bel := h.bel.size
  obtain ⟨kv, hd, ok, rfl, hB, rfl, rfl⟩ := hp
  refine (wal_Open first f0 f1 g mb cb kv d d.logs rfl a0 a1 a2 aD aA w hw hd ok).mono fun z w' ⟨hb, hz⟩ => ?_
  obtain ⟨r, hr⟩ : ∃ r, r = d.openW first := ⟨_, rfl⟩
  rw [← hr] at hz ⊢
  cases hr1 : r.1 with
  | none =>
    rw [hr1] at hz
    exact ⟨.pointer none, hz, fun _ => rfl, by rw [hr1]; exact ht _ _ _ _ ⟨DkS g mb cb, kb d kv, ⟨kv, hd.below hb, ok, rfl, hB, rfl, rfl⟩, Fr.of_below hb, fun b hb => .inl hb, fun b hb => .inl hb⟩⟩
  | some x =>
    rw [hr1] at hz
    obtain ⟨p, rv, hz, hpw, hl⟩ := hz
    obtain ⟨n0, n1, nl, _⟩ := openW_some (first := first) (x := x) (by rw [← hr]; exact hr1)
    have hq : WalQ w' w0.heap.size p g mb cb kv rv d.n d.logs x d := by
      refine ⟨hl.base bel, hd.below hb, ok, rfl, nl, n0, by omega, fun e => ?_, hB, fun b e hS => ?_, fun b off m c e hm hS => ?_⟩
      · have := (lF p e).1; omega
      · have h1 := (hl.row.lt b e).1; have h2 := (lF b hS).1; omega
      · have h1 := hd.kept_lt e hm
        rcases hS with hS | hS
        · omega
        · have := (hl.row.lt b hS).1; omega
    refine ⟨.pointer (some ⟨p, 0, none⟩), hz, (fun e => absurd (hr1.symm.trans e) (by simp)), ?_⟩
    rw [hr1]
    refine ht _ _ _ _ ⟨_, _, hq.ps, Fr.of_below hb, fun b hb => ?_, fun b hb => .inl hb⟩
    rcases hb with hb | rfl | hb
    · exact .inl hb
    · exact .inr hpw
    · exact .inr (hl.row.lt b hb).1
/-- The reference's opening. -/
def OpenR (w0 : World) (X : Nat) (OX : Obj) (g mb cb q sb rb c1 c2 nn : Nat) (v : Value) (ox : Option Wl) (d : Dk) (r : Option Wl × Int) (e : Dk) (z : Ending) (w' : World) : Prop :=
  ∃ u', z = .returned (.tuple #[u', .int .i64 r.2]) ∧ (r.1 = none → u' = .pointer none) ∧ Bth w0 w' X OX g mb cb q sb rb c1 c2 nn v ox d u' r.1 e
theorem br_Open (first : Int) (f0 : 0 ≤ first) (f1 : first < 4294967296) (h : Bth w0 w X OX g mb cb q sb rb c1 c2 nn v ox d u none e) :
    Calls Tryz.prog 23 #[.pointer (some ⟨q, 0, none⟩), .int .u32 first] w (OpenR w0 X OX g mb cb q sb rb c1 c2 nn v ox d (e.openW first) e) := by
  obtain ⟨G, R, hr0, ht⟩ := h.partR
  have lG := hr0.ltG; have lR := hr0.ltR
  have bel := h.bel.size
  obtain ⟨kr, ⟨rn, hd⟩, ok, hB, rfl, rfl, rfl⟩ := hr0
  refine (ref21_Open first f0 f1 q sb rb c1 c2 nn rn kr e e.logs rfl ok w hd).mono fun z w' ⟨hb, hz⟩ => ?_
  obtain ⟨r, hr⟩ : ∃ r, r = e.openW first := ⟨_, rfl⟩
  rw [← hr] at hz ⊢
  have hd' : RefAny w' q sb rb c1 c2 nn kr e := RefAny.below ⟨rn, hd⟩ hb
  cases hr1 : r.1 with
  | none =>
    rw [hr1] at hz
    exact ⟨.pointer none, hz, fun _ => rfl, by rw [hr1]; exact ht _ _ _ _ ⟨RfS q sb rb, kb e kr, ⟨kr, hd', ok, hB, rfl, rfl, rfl⟩, Fr.of_below hb, fun b hb => .inl hb, fun b hb => .inl hb⟩⟩
  | some x =>
    rw [hr1] at hz
    obtain ⟨y, vr, hz, hyw, hl, hvr⟩ := hz
    obtain ⟨n0, n1, nl, _⟩ := openW_some (first := first) (x := x) (by rw [← hr]; exact hr1)
    have hq : RlQ w' y q sb rb c1 c2 nn kr vr e.n e.logs x e := by
      refine ⟨hl, hd', ok, rfl, nl, n0, fun h => ?_, fun b off m c hv hm => ⟨fun h => ?_, (hvr b off m c hv hm).2⟩, fun hne b off m c hk h => ?_⟩
      · have := (lG y h).1; omega
      · have h1 := (lG b h).1; have h2 := (hvr b off m c hv hm).1; omega
      · have h1 := lR b ⟨hne, off, m, c, hk⟩; omega
    refine ⟨.pointer (some ⟨y, 0, none⟩), hz, (fun e => absurd (hr1.symm.trans e) (by simp)), ?_⟩
    rw [hr1]
    refine ht _ _ _ _ ⟨_, _, hq.rs (fun b hb => ?_), Fr.of_below hb, fun b hb => ?_, fun b hb => ?_⟩
    · rcases hb with hb | rfl
      · exact hB b hb
      · omega
    · rcases hb with hb | rfl
      · exact .inl hb
      · exact .inr hyw
    · rcases hb with hb | ⟨off, m, c, hv, hm⟩
      · exact .inl hb
      · exact .inr (hvr b off m c hv hm).1
end
end Go.Proofs.YtdbiebnnogjccaaGreatDoor
