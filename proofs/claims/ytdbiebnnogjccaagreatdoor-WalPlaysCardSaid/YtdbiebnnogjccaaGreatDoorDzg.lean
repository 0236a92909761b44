/- Disks (layer 19): both disks behind every call, whatever they keep (for the law DiskPlays). -/
import Derived.Test.YtdbiebnnogjccaaGreatDoorDzf
namespace Go.Proofs.YtdbiebnnogjccaaGreatDoor
open Go.RowKit
/-- Where the two disks lie. -/
structure Lay (w0 : World) (g mb cb q sb rb : Nat) : Prop where
  far : ∀ x, DkS g mb cb x → ¬ RfS q sb rb x
  ld : ∀ x, DkS g mb cb x → w0.heap.size ≤ x
  lr : ∀ x, RfS q sb rb x → w0.heap.size ≤ x
/-- A disk in memory, whatever slice it keeps. -/
def DkP (w : World) (g mb cb q sb rb : Nat) (d : Dk) : Prop := ∃ kv, DiskAt w g mb cb 4096 kv d ∧ ∀ b off n c, kv = .slice (some ⟨b, off, none⟩) n c → ¬ RfS q sb rb b
/-- The reference's, likewise. -/
def RfP (w : World) (g mb cb q sb rb c1 c2 n : Nat) (d : Dk) : Prop := ∃ kr, RefAny w q sb rb c1 c2 n kr d ∧ ∀ b off n c, kr = .slice (some ⟨b, off, none⟩) n c → ¬ DkS g mb cb b
section
variable {w w' w0 : World} {g mb cb q sb rb c1 c2 n : Nat} {d : Dk}
theorem DkP.below (h : DkP w g mb cb q sb rb d) (hb : Below w.heap.size w w') : DkP w' g mb cb q sb rb d := by
  obtain ⟨kv, h, k⟩ := h; exact ⟨kv, h.below hb, k⟩
theorem RfP.below (h : RfP w g mb cb q sb rb c1 c2 n d) (hb : Below w.heap.size w w') : RfP w' g mb cb q sb rb c1 c2 n d := by
  obtain ⟨kv, h, k⟩ := h; exact ⟨kv, h.below hb, k⟩
theorem DkP.fr (L : Lay w0 g mb cb q sb rb) (h : DkP w g mb cb q sb rb d) (hf : Fr (RfS q sb rb) w w') : DkP w' g mb cb q sb rb d := by
  obtain ⟨kv, h, k⟩ := h
  exact ⟨kv, h.fr hf (L.far _ (.inl rfl)) (L.far _ (.inr (.inl rfl))) (L.far _ (.inr (.inr rfl))) k, k⟩
theorem RfP.fr (L : Lay w0 g mb cb q sb rb) (h : RfP w g mb cb q sb rb c1 c2 n d) (hf : Fr (DkS g mb cb) w w') : RfP w' g mb cb q sb rb c1 c2 n d := by
  obtain ⟨kv, ⟨rn, h⟩, k⟩ := h
  exact ⟨kv, ⟨rn, h.fr hf (fun e => L.far _ e (.inl rfl)) (fun e => L.far _ e (.inr (.inl rfl))) (fun e => L.far _ e (.inr (.inr rfl))) k⟩, k⟩
theorem Lay.frd (L : Lay w0 g mb cb q sb rb) (hb : Below w0.heap.size w0 w) (hf : Fr (DkS g mb cb) w w') : Below w0.heap.size w0 w' := frb hb hf (L.ld _ (.inl rfl)) (L.ld _ (.inr (.inl rfl))) (L.ld _ (.inr (.inr rfl)))
theorem Lay.frr (L : Lay w0 g mb cb q sb rb) (hb : Below w0.heap.size w0 w) (hf : Fr (RfS q sb rb) w w') : Below w0.heap.size w0 w' := frb (g := q) (mb := sb) (cb := rb) hb hf (L.lr _ (.inl rfl)) (L.lr _ (.inr (.inl rfl))) (L.lr _ (.inr (.inr rfl)))
variable {aD aA : Addr}
theorem pd_Write (i : Int) (hi : wf64 i) (s : ByteArray) (ok : d.Ok) (w : World) (hw : DkW w aD aA) (h : DkP w g mb cb q sb rb d) :
    Calls Tryz.prog 33 #[.pointer (some ⟨g, 0, none⟩), .int .i64 i, .string s] w fun e w' => e = .returned (.int .i64 (d.write i s).2) ∧ DkP w' g mb cb q sb rb (d.write i s).1 ∧ Fr (DkS g mb cb) w w' := by
  obtain ⟨kv, h, k⟩ := h
  exact (disk_Write i hi s g mb cb kv d aD aA w hw h ok).mono fun e w' ⟨h1, h2, h3⟩ => ⟨h1, ⟨kv, h2, k⟩, h3⟩
theorem pr_Write (i : Int) (s : ByteArray) (ok : d.Ok) (w : World) (h : RfP w g mb cb q sb rb c1 c2 n d) :
    Calls Tryz.prog 35 #[.pointer (some ⟨q, 0, none⟩), .int .i64 i, .string s] w fun e w' => e = .returned (.int .i64 (d.write i s).2) ∧ RfP w' g mb cb q sb rb c1 c2 n (d.write i s).1 ∧ Fr (RfS q sb rb) w w' := by
  obtain ⟨kv, h, k⟩ := h
  exact (ref_Write i s q sb rb c1 c2 n kv d ok w h).mono fun e w' ⟨h1, h2, h3⟩ => ⟨h1, ⟨kv, h2, k⟩, h3⟩
theorem pd_Read (i : Int) (hi : wf64 i) (w : World) (hw : DkW w aD aA) (h : DkP w g mb cb q sb rb d) :
    Calls Tryz.prog 69 #[.pointer (some ⟨g, 0, none⟩), .int .i64 i] w fun e w' => e = .returned (.tuple #[.string (d.read i).1, .int .i64 (d.read i).2]) ∧ Below w.heap.size w w' := by
  obtain ⟨kv, h, k⟩ := h
  exact disk_Read i hi g mb cb 4096 kv d aD aA w hw h
theorem pr_Read (i : Int) (ok : d.Ok) (w : World) (h : RfP w g mb cb q sb rb c1 c2 n d) :
    Calls Tryz.prog 100 #[.pointer (some ⟨q, 0, none⟩), .int .i64 i] w fun e w' => e = .returned (.tuple #[.string (d.read i).1, .int .i64 (d.read i).2]) ∧ w = w' := by
  obtain ⟨kv, ⟨rn, h⟩, k⟩ := h
  exact ref_Read i q sb rb c1 c2 n rn kv d ok.sc w h
theorem pd_Flush (ok : d.Ok) (w : World) (hw : DkW w aD aA) (h : DkP w g mb cb q sb rb d) :
    Calls Tryz.prog 76 #[.pointer (some ⟨g, 0, none⟩)] w fun e w' => e = .returned (.int .i64 d.flush.2) ∧ DkP w' g mb cb q sb rb d.flush.1 ∧ Fr (DkS g mb cb) w w' := by
  obtain ⟨kv, h, k⟩ := h
  exact (disk_Flush g mb cb kv d aD aA w hw h ok).mono fun e w' ⟨h1, h2, h3⟩ => ⟨h1, ⟨kv, h2, k⟩, h3⟩
theorem pr_Flush (ok : d.Ok) (w : World) (h : RfP w g mb cb q sb rb c1 c2 n d) :
    Calls Tryz.prog 89 #[.pointer (some ⟨q, 0, none⟩)] w fun e w' => e = .returned (.int .i64 d.flush.2) ∧ RfP w' g mb cb q sb rb c1 c2 n d.flush.1 ∧ Fr (RfS q sb rb) w w' := by
  obtain ⟨kv, h, k⟩ := h
  exact (ref_Flush q sb rb c1 c2 n kv d ok w h).mono fun e w' ⟨h1, h2, h3⟩ => ⟨h1, ⟨kv, h2, k⟩, h3⟩
theorem pd_Crash (kvv : Value) (l : List (Int × Int)) (hl : l.length ≤ 65536) (ok : d.Ok) (w : World) (h : DkP w g mb cb q sb rb d) (hk : SlKept w kvv l) (hkn : ∀ b off n c, kvv = .slice (some ⟨b, off, none⟩) n c → ¬ DkS g mb cb b) :
    Calls Tryz.prog 17 #[.pointer (some ⟨g, 0, none⟩), kvv] w fun e w' => e = .returned (.tuple #[]) ∧ DkP w' g mb cb q sb rb (d.crash l) ∧ Fr (DkS g mb cb) w w' := by
  obtain ⟨kv, h, k⟩ := h
  exact (disk_Crash kvv l hl g mb cb kv d w h ok.ok0 hk hkn).mono fun e w' ⟨h1, h2, h3⟩ => ⟨h1, ⟨kv, h2, k⟩, h3⟩
theorem pr_Crash (kvv : Value) (l : List (Int × Int)) (hl : l.length ≤ 65536) (ok : d.Ok) (w : World) (h : RfP w g mb cb q sb rb c1 c2 n d) (hk : SlKept w kvv l) (hkn : l ≠ [] → ∀ b off n c, kvv = .slice (some ⟨b, off, none⟩) n c → ¬ RfS q sb rb b) :
    Calls Tryz.prog 27 #[.pointer (some ⟨q, 0, none⟩), kvv] w fun e w' => e = .returned (.tuple #[]) ∧ RfP w' g mb cb q sb rb c1 c2 n (d.crash l) ∧ Fr (RfS q sb rb) w w' := by
  obtain ⟨kv, ⟨rn, h⟩, k⟩ := h
  exact (ref_Crash kvv l hl q sb rb c1 c2 n rn kv d w h ok.ok0 hk hkn).mono fun e w' ⟨h1, h2, h3⟩ => ⟨h1, ⟨kv, ⟨rn, h2⟩, k⟩, h3⟩
theorem pd_Start (w : World) (h : DkP w g mb cb q sb rb d) :
    Calls Tryz.prog 18 #[.pointer (some ⟨g, 0, none⟩)] w fun e w' => e = .returned (.tuple #[]) ∧ DkP w' g mb cb q sb rb d.start ∧ Fr (DkS g mb cb) w w' := by
  obtain ⟨kv, h, k⟩ := h
  exact (disk_Start g mb cb 4096 kv d w h).mono fun e w' ⟨h1, h2, h3⟩ => ⟨h1, ⟨kv, h2, k⟩, h3.mono fun _ e => .inl e⟩
theorem pr_Start (w : World) (h : RfP w g mb cb q sb rb c1 c2 n d) :
    Calls Tryz.prog 28 #[.pointer (some ⟨q, 0, none⟩)] w fun e w' => e = .returned (.tuple #[]) ∧ RfP w' g mb cb q sb rb c1 c2 n d.start ∧ Fr (RfS q sb rb) w w' := by
  obtain ⟨kv, ⟨rn, h⟩, k⟩ := h
  exact (ref_Start q sb rb c1 c2 n rn kv d w h).mono fun e w' ⟨h1, h2, h3⟩ => ⟨h1, ⟨kv, ⟨rn, h2⟩, k⟩, h3.mono fun _ e => .inl e⟩
theorem pd_Dirty (ok : d.Ok) (w : World) (h : DkP w g mb cb q sb rb d) :
    Calls Tryz.prog 96 #[.pointer (some ⟨g, 0, none⟩)] w (DirtyP d w) := by
  obtain ⟨kv, h, k⟩ := h
  exact disk_Dirty g mb cb kv d w h ok.ok0
theorem pr_Dirty (ok : d.Ok) (w : World) (h : RfP w g mb cb q sb rb c1 c2 n d) :
    Calls Tryz.prog 97 #[.pointer (some ⟨q, 0, none⟩)] w (DirtyP d w) := by
  obtain ⟨kv, h, k⟩ := h
  exact ref_Dirty q sb rb c1 c2 n kv d ok.ok0 w h
theorem pd_Dead (w : World) (h : DkP w g mb cb q sb rb d) :
    Calls Tryz.prog 36 #[.pointer (some ⟨g, 0, none⟩)] w fun e w' => e = .returned (.bool d.dead) ∧ w = w' := by
  obtain ⟨kv, h, k⟩ := h
  exact disk_Dead g mb cb 4096 kv d w h
theorem rp_two (h : RfP w g mb cb q sb rb c1 c2 n d) : w.cell? ⟨q, 0, none⟩ = some (.slice (some ⟨sb, 0, none⟩) n c1) ∧ w.cell? ⟨q, 2, none⟩ = some (.bool d.dead) := by
  obtain ⟨kv, h, k⟩ := h; exact ref_two h
theorem p_Same (ok : d.Ok) (hn : (n : Int) = d.n) (w : World) (hw : DkW w aD aA) (h : DkP w g mb cb q sb rb d) (hr : RfP w g mb cb q sb rb c1 c2 n d) :
    Calls Tryz.prog 37 #[.pointer (some ⟨g, 0, none⟩), .pointer (some ⟨q, 0, none⟩)] w fun e w' => e = .returned (.bool true) ∧ Below w.heap.size w w' := by
  obtain ⟨kv, h, k⟩ := h; obtain ⟨kr, hr, k2⟩ := hr
  exact law19_Same g mb cb q sb rb c1 c2 n kv kr d aD aA w hw h hr ok hn
theorem DkP.lt (h : DkP w g mb cb q sb rb d) : ∀ x, DkS g mb cb x → x < w.heap.size := by
  obtain ⟨kv, h, k⟩ := h
  rintro x (rfl | rfl | rfl)
  · exact h.lt
  · exact h.hm.lt
  · exact h.hc.lt
theorem RfP.lt (h : RfP w g mb cb q sb rb c1 c2 n d) : ∀ x, RfS q sb rb x → x < w.heap.size := by
  obtain ⟨kv, ⟨rn, h⟩, k⟩ := h
  rintro x (rfl | rfl | rfl)
  · exact blk_lt h.blk
  · exact h.s.lt
  · exact h.c.lt
/-- A disk whose kept slice lies apart from some blocks. -/
def DkQ (w : World) (g mb cb q sb rb : Nat) (d : Dk) (T : Nat → Prop) : Prop := ∃ kv, DiskAt w g mb cb 4096 kv d ∧ (∀ b off n c, kv = .slice (some ⟨b, off, none⟩) n c → ¬ RfS q sb rb b) ∧ (d.keep ≠ [] → ∀ b off n c, kv = .slice (some ⟨b, off, none⟩) n c → ¬ T b)
def RfQ (w : World) (g mb cb q sb rb c1 c2 n : Nat) (d : Dk) (T : Nat → Prop) : Prop := ∃ kr, RefAny w q sb rb c1 c2 n kr d ∧ (∀ b off n c, kr = .slice (some ⟨b, off, none⟩) n c → ¬ DkS g mb cb b) ∧ (d.keep ≠ [] → ∀ b off n c, kr = .slice (some ⟨b, off, none⟩) n c → ¬ T b)
variable {T : Nat → Prop}
theorem SlKept.lt {w : World} {l : List (Int × Int)} {b off n c : Nat} (h : SlKept w (.slice (some ⟨b, off, none⟩) n c) l) (h0 : l ≠ []) : b < w.heap.size := by
  rcases h with ⟨h, _⟩ | ⟨b', off', cap, e, _, h⟩
  · exact absurd h h0
  · injection e with e _ _; injection e with e; injection e with e _ _; subst e; exact h.lt h0
theorem DkP.toQ (h : DkP w g mb cb q sb rb d) (hT : ∀ x, T x → w.heap.size ≤ x) : DkQ w g mb cb q sb rb d T := by
  obtain ⟨kv, h, k⟩ := h
  refine ⟨kv, h, k, fun h0 b off n c e ht => ?_⟩
  have hk := h.hk
  rw [e] at hk
  have := SlKept.lt hk h0
  have := hT b ht; omega
theorem RfP.toQ (h : RfP w g mb cb q sb rb c1 c2 n d) (hT : ∀ x, T x → w.heap.size ≤ x) : RfQ w g mb cb q sb rb c1 c2 n d T := by
  obtain ⟨kv, ⟨rn, h⟩, k⟩ := h
  refine ⟨kv, ⟨rn, h⟩, k, fun h0 b off n c e ht => ?_⟩
  have hk := h.hk
  rw [e] at hk
  have := SlKept.lt hk h0
  have := hT b ht; omega
theorem DkQ.p (h : DkQ w g mb cb q sb rb d T) : DkP w g mb cb q sb rb d := by obtain ⟨kv, h, k, _⟩ := h; exact ⟨kv, h, k⟩
theorem RfQ.p (h : RfQ w g mb cb q sb rb c1 c2 n d T) : RfP w g mb cb q sb rb c1 c2 n d := by obtain ⟨kv, h, k, _⟩ := h; exact ⟨kv, h, k⟩
theorem DkQ.below (h : DkQ w g mb cb q sb rb d T) (hb : Below w.heap.size w w') : DkQ w' g mb cb q sb rb d T := by
  obtain ⟨kv, h, k⟩ := h; exact ⟨kv, h.below hb, k⟩
theorem RfQ.below (h : RfQ w g mb cb q sb rb c1 c2 n d T) (hb : Below w.heap.size w w') : RfQ w' g mb cb q sb rb c1 c2 n d T := by
  obtain ⟨kv, ⟨rn, h⟩, k⟩ := h; exact ⟨kv, ⟨rn, h.below hb⟩, k⟩
theorem DkQ.fr (L : Lay w0 g mb cb q sb rb) (h : DkQ w g mb cb q sb rb d T) (hf : Fr (RfS q sb rb) w w') : DkQ w' g mb cb q sb rb d T := by
  obtain ⟨kv, h, k, k2⟩ := h
  exact ⟨kv, h.fr hf (L.far _ (.inl rfl)) (L.far _ (.inr (.inl rfl))) (L.far _ (.inr (.inr rfl))) k, k, k2⟩
theorem RfQ.fr (L : Lay w0 g mb cb q sb rb) (h : RfQ w g mb cb q sb rb c1 c2 n d T) (hf : Fr (DkS g mb cb) w w') : RfQ w' g mb cb q sb rb c1 c2 n d T := by
  obtain ⟨kv, ⟨rn, h⟩, k, k2⟩ := h
  exact ⟨kv, ⟨rn, h.fr hf (fun e => L.far _ e (.inl rfl)) (fun e => L.far _ e (.inr (.inl rfl))) (fun e => L.far _ e (.inr (.inr rfl))) k⟩, k, k2⟩
/-- Blocks of neither are changed. -/
theorem DkQ.apart (h : DkQ w g mb cb q sb rb d T) (hT : ∀ x, DkS g mb cb x → ¬ T x) (hf : Fr T w w') : DkQ w' g mb cb q sb rb d T := by
  obtain ⟨kv, h, k, k2⟩ := h
  exact ⟨kv, ⟨blk_fr h.blk hf (hT _ (.inl rfl)), h.hm.fr hf (hT _ (.inr (.inl rfl))), h.hc.fr hf (hT _ (.inr (.inr rfl))), h.hk.fr' hf k2, h.n0, h.n1, h.gm, h.gc, h.mc, h.kn⟩, k, k2⟩
theorem RfQ.apart (h : RfQ w g mb cb q sb rb c1 c2 n d T) (hT : ∀ x, RfS q sb rb x → ¬ T x) (hf : Fr T w w') : RfQ w' g mb cb q sb rb c1 c2 n d T := by
  obtain ⟨kv, ⟨rn, h⟩, k, k2⟩ := h
  exact ⟨kv, ⟨rn, ⟨blk_fr h.blk hf (hT _ (.inl rfl)), h.s.fr hf (hT _ (.inr (.inl rfl))), h.c.fr hf (hT _ (.inr (.inr rfl))), h.hn, h.hr, h.hk.fr' hf k2, h.qs, h.qc, h.sc, h.kn⟩⟩, k, k2⟩
theorem pd_Arm (m : Int) (kvv : Value) (l : List (Int × Int)) (hl : l.length ≤ 65536) (w : World) (h : DkQ w g mb cb q sb rb d T) (hT : ∀ x, T x → x < w.heap.size) (hR : ∀ x, RfS q sb rb x → x < w.heap.size) (hk : SlKept w kvv l) :
    Calls Tryz.prog 29 #[.pointer (some ⟨g, 0, none⟩), .int .i64 m, kvv] w fun e w' => e = .returned (.int .i64 (d.arm m l).2) ∧ DkQ w' g mb cb q sb rb (d.arm m l).1 T ∧ Fr (DkS g mb cb) w w' := by
  obtain ⟨kv, h, k, k2⟩ := h
  refine (disk_Arm m kvv l hl g mb cb kv d w h hk).mono fun e w' ⟨h1, kv', h2, h3, h4⟩ => ⟨h1, ⟨kv', h3, ?_, ?_⟩, h4.mono fun _ e => .inl e⟩
  · rcases h2 with ⟨rfl, _⟩ | h2
    · exact k
    · intro b off n c e hr; have := h2 b off n c e; have := hR b hr; omega
  · rcases h2 with ⟨rfl, ek⟩ | h2
    · rw [ek]; exact k2
    · intro _ b off n c e ht; have := h2 b off n c e; have := hT b ht; omega
theorem pr_Arm (m : Int) (kvv : Value) (l : List (Int × Int)) (hl : l.length ≤ 65536) (w : World) (h : RfQ w g mb cb q sb rb c1 c2 n d T) (hT : ∀ x, T x → x < w.heap.size) (hR : ∀ x, DkS g mb cb x → x < w.heap.size) (hk : SlKept w kvv l) :
    Calls Tryz.prog 30 #[.pointer (some ⟨q, 0, none⟩), .int .i64 m, kvv] w fun e w' => e = .returned (.int .i64 (d.arm m l).2) ∧ RfQ w' g mb cb q sb rb c1 c2 n (d.arm m l).1 T ∧ Fr (RfS q sb rb) w w' := by
  obtain ⟨kv, h, k, k2⟩ := h
  refine (ref_Arm m kvv l hl q sb rb c1 c2 n kv d w h hk).mono fun e w' ⟨h1, kv', h2, h3, h4⟩ => ⟨h1, ⟨kv', h3, ?_, ?_⟩, h4.mono fun _ e => .inl e⟩
  · rcases h2 with ⟨rfl, _⟩ | h2
    · exact k
    · intro b off n c e hr; have := h2 b off n c e; have := hR b hr; omega
  · rcases h2 with ⟨rfl, ek⟩ | h2
    · rw [ek]; exact k2
    · intro _ b off n c e ht; have := h2 b off n c e; have := hT b ht; omega
end
end Go.Proofs.YtdbiebnnogjccaaGreatDoor
