/- Pages (layer 22): a pager in memory. -/
import Derived.Test.YtdbiebnnogjccaaGreatDoorGa
import Derived.Test.YtdbiebnnogjccaaGreatDoorGb
import Derived.Test.YtdbiebnnogjccaaGreatDoorAp
import Derived.Test.YtdbiebnnogjccaaGreatDoorWe
import Derived.Test.YtdbiebnnogjccaaGreatDoorPkc
namespace Go.Proofs.YtdbiebnnogjccaaGreatDoor
open Go.RowKit
def pgCells (g : Nat) (mv : Value) (n : Int) (lg : Nat) : Array Value := #[.pointer (some ⟨g, 0, none⟩), .int .i64 2, .int .i64 (lg : Int), .int .i64 (2 + (lg : Int)), .int .i64 (n - 2 - (lg : Int)), mv]
/-- A pager's struct and its disk, whatever map (k: how many pages). -/
structure PgB (w : World) (p g mb cb : Nat) (n : Int) (lg : Nat) (mv : Value) (k : Nat) (d : Dk) : Prop where
  blk : w.heap[p]? = some (.cells (pgCells g mv n lg) 156 (0, 0))
  dsk : DiskAt w g mb cb 4096 (.slice none 0 0) d
  ok : d.Ok
  dn : d.n = n
  len : (k : Int) = n - 2 - (lg : Int)
  n32 : 32 ≤ n
  n40 : n ≤ 4096
  nl : (lg : Int) = (n - 2) / 4
  pS : ¬ DkS g mb cb p
/-- The blocks of a pager and its disk. -/
def PgS (p pm g mb cb : Nat) (b : Nat) : Prop := DkS g mb cb b ∨ b = p ∨ b = pm
/-- A pager in memory: its struct at p, its map at pm, its disk. -/
structure PgC (w : World) (p pm g mb cb : Nat) (n : Int) (lg : Nat) (l : List Int) (d : Dk) : Prop where
  blk : w.heap[p]? = some (.cells (pgCells g (.map (some pm)) n lg) 156 (0, 0))
  map : MapI w pm l.length (kindL l)
  dsk : DiskAt w g mb cb 4096 (.slice none 0 0) d
  ok : d.Ok
  dn : d.n = n
  len : (l.length : Int) = n - 2 - (lg : Int)
  good : GoodL l
  n32 : 32 ≤ n
  n40 : n ≤ 4096
  nl : (lg : Int) = (n - 2) / 4
  pS : ¬ DkS g mb cb p
  mS : ¬ DkS g mb cb pm
  pm : p ≠ pm
/-- A pager in memory, in the blocks S. -/
def PgAt (w : World) (S : Nat → Prop) (p : Nat) (n : Int) (lg : Nat) (l : List Int) (d : Dk) : Prop := ∃ pm g mb cb, PgC w p pm g mb cb n lg l d ∧ S = PgS p pm g mb cb
section
variable {w w' : World} {p pm g mb cb : Nat} {n : Int} {lg : Nat} {l : List Int} {d : Dk} {S T : Nat → Prop}
theorem PgC.b (h : PgC w p pm g mb cb n lg l d) : PgB w p g mb cb n lg (.map (some pm)) l.length d := ⟨h.blk, h.dsk, h.ok, h.dn, h.len, h.n32, h.n40, h.nl, h.pS⟩
theorem PgB.below {mv : Value} {k : Nat} (h : PgB w p g mb cb n lg mv k d) (hb : Below w.heap.size w w') : PgB w' p g mb cb n lg mv k d := ⟨blk_below h.blk hb, h.dsk.below hb, h.ok, h.dn, h.len, h.n32, h.n40, h.nl, h.pS⟩
theorem PgC.below (h : PgC w p pm g mb cb n lg l d) (hb : Below w.heap.size w w') : PgC w' p pm g mb cb n lg l d :=
  ⟨blk_below h.blk hb, h.map.below hb, h.dsk.below hb, h.ok, h.dn, h.len, h.good, h.n32, h.n40, h.nl, h.pS, h.mS, h.pm⟩
theorem PgAt.below (h : PgAt w S p n lg l d) (hb : Below w.heap.size w w') : PgAt w' S p n lg l d := by
  obtain ⟨pm, g, mb, cb, h, e⟩ := h; exact ⟨pm, g, mb, cb, h.below hb, e⟩
theorem PgC.lt (h : PgC w p pm g mb cb n lg l d) : ∀ b, PgS p pm g mb cb b → b < w.heap.size := by
  rintro b ((rfl | rfl | rfl) | rfl | rfl)
  · exact h.dsk.lt
  · exact h.dsk.hm.lt
  · exact h.dsk.hc.lt
  · exact blk_lt h.blk
  · exact h.map.lt
theorem PgAt.lt (h : PgAt w S p n lg l d) : ∀ b, S b → b < w.heap.size := by
  obtain ⟨pm, g, mb, cb, h, rfl⟩ := h; exact h.lt
theorem PgAt.self (h : PgAt w S p n lg l d) : S p := by
  obtain ⟨pm, g, mb, cb, h, rfl⟩ := h; exact .inr (.inl rfl)
/-- Other blocks are written. -/
theorem PgC.fr (h : PgC w p pm g mb cb n lg l d) (hf : Fr T w w') (hs : ∀ b, PgS p pm g mb cb b → ¬ T b) : PgC w' p pm g mb cb n lg l d :=
  ⟨blk_fr h.blk hf (hs _ (.inr (.inl rfl))), h.map.fr hf (hs _ (.inr (.inr rfl))), h.dsk.fr hf (hs _ (.inl (.inl rfl))) (hs _ (.inl (.inr (.inl rfl)))) (hs _ (.inl (.inr (.inr rfl)))) (fun b off n c e => by cases e), h.ok, h.dn, h.len, h.good, h.n32, h.n40, h.nl, h.pS, h.mS, h.pm⟩
theorem PgAt.fr (h : PgAt w S p n lg l d) (hf : Fr T w w') (hs : ∀ b, S b → ¬ T b) : PgAt w' S p n lg l d := by
  obtain ⟨pm, g, mb, cb, h, rfl⟩ := h; exact ⟨pm, g, mb, cb, h.fr hf hs, rfl⟩
/-- The map is written. -/
theorem PgC.mapped {l' : List Int} {k : Nat} (h : PgC w p pm g mb cb n lg l d) (hm : MapI w' pm k (kindL l')) (hf : Fr (fun b => b = pm) w w') (hl : l'.length = l.length) (hg : GoodL l') : PgC w' p pm g mb cb n lg l' d := by
  have len := h.len
  refine ⟨blk_fr h.blk hf h.pm, ?_, h.dsk.fr hf (fun e => h.mS (.inl e.symm)) (fun e => h.mS (.inr (.inl e.symm))) (fun e => h.mS (.inr (.inr e.symm))) (fun b off n c e => by cases e), h.ok, h.dn, by rw [hl]; exact h.len, hg, h.n32, h.n40, h.nl, h.pS, h.mS, h.pm⟩
  refine hm.tight (heldL_nodup l') (fun x => ?_) ?_
  · rw [mem_heldL]
    refine ⟨fun hx => ⟨?_, hx⟩, fun hx => hx.2⟩
    have := kindL_in hx
    have := h.n40
    exact wf64_of (by omega) (by omega)
  · have := heldL_free l'
    omega
/-- The disk is written. -/
theorem PgC.wrote {d' : Dk} (h : PgC w p pm g mb cb n lg l d) (hd : DiskAt w' g mb cb 4096 (.slice none 0 0) d') (hf : Fr (DkS g mb cb) w w') (ok : d'.Ok) (hn : d'.n = d.n) : PgC w' p pm g mb cb n lg l d' :=
  ⟨blk_fr h.blk hf h.pS, h.map.fr hf h.mS, hd, ok, hn.trans h.dn, h.len, h.good, h.n32, h.n40, h.nl, h.pS, h.mS, h.pm⟩
theorem PgC.keys (h : PgC w p pm g mb cb n lg l d) : ∀ x, x ∈ heldL l ↔ wf64 x ∧ kindL l x ≠ 0 := fun x => by
  rw [mem_heldL]
  refine ⟨fun hx => ⟨?_, hx⟩, fun hx => hx.2⟩
  have := kindL_in hx
  have := h.n40
  have := h.len
  exact wf64_of (by omega) (by omega)
end
end Go.Proofs.YtdbiebnnogjccaaGreatDoor

/- Pages (layer 22): told whole; asked; is, Left, Take, Give. -/
namespace Go.Proofs.YtdbiebnnogjccaaGreatDoor
open Go.RowKit
theorem below_drew1 (w : World) : Below w.heap.size w w.drew := ⟨rfl, rfl, rfl, Nat.le_refl _, fun _ _ => rfl⟩
theorem gw_as_fresh (e : Addr) (w : World) (he : EtIs w) :
    Calls Tryz.prog 137 #[.iface 197 (.pointer (some e)), .iface 199 (.pointer (some ⟨w.heap.size, 0, none⟩))] (w.alloc (.cells #[.pointer none] 197)) fun ev w' =>
      ev = .returned (.bool true) ∧ Below w.heap.size w w' ∧ w'.cell? ⟨w.heap.size, 0, none⟩ = some (.pointer (some e)) := by
  have hg1 := he.alloc (.cells #[.pointer none] 197)
  unfold EtIs at hg1
  refine (gw_as_hit e ⟨w.heap.size, 0, none⟩ (.pointer none) _ hg1 (by simp) (by simp)).mono ?_
  rintro ev w' ⟨rfl, rfl⟩
  refine ⟨rfl, ?_, ?_⟩
  · exact (((((Below.refl _ _).alloc (Nat.le_refl _) _).alloc (by simp) _).alloc (by simp; omega) _).alloc (by simp; omega) _).alloc (by simp; omega) _ |>.setCell (by simp) _
  · simp [go_sem]
set_option maxRecDepth 20000 in
set_option maxHeartbeats 2000000 in
theorem pager_told_wrap (p : Nat) (c : Int) (pA pF pL pD : Addr) (w : World) (he : EtIs w) (hw : PgE w pA pF pL pD) (hp : w.heap[p]? = some (.cells #[.int .i64 c, .iface 308 (.pointer (some pD))] 201 (0, 0))) :
    Calls Tryz.prog 101 #[.iface 197 (.pointer (some ⟨p, 0, none⟩))] w fun e w' => e = .returned (.int .i64 c) ∧ Below w.heap.size w w' := by
  have hb := below_alloc1 w (.cells #[.pointer none] 197)
  have vD := dk_cell hw.vD hb
  have hp1 := blk_cell (blk_below hp hb)
  have I1 := Lib.hid (is_gwrap_same p pD _ (hp1 1))
  have H := Lib.hid ((gw_as_fresh ⟨p, 0, none⟩ w he).mono (R' := fun ev w' => ev = .returned (.bool true) ∧ Below w.heap.size w w' ∧ w'.cell? ⟨w.heap.size, 0, none⟩ = some (.pointer (some ⟨p, 0, none⟩)) ∧ w'.cell? ⟨p, 0, none⟩ = some (.int .i64 c))
    (fun ev w' ⟨h1, h2, h3⟩ => ⟨h1, h2, h3, blk_cell (blk_below hp h2) 0⟩))
  clear hb hp hp1 he hw
  go_enter Tryz.func101, Tryz.ntmps101
  go_wp2_with fail
  refine I1.out.mono ?_; rintro e w1 ⟨rfl, rfl⟩
  go_wp2_with fail
  refine H.out.mono ?_; rintro e w1 ⟨rfl, hb, h1, h2⟩
  have B1 := Lib.hid hb
  clear hb
  go_wp2_with fail
  go_ret
  exact ⟨rfl, B1.out⟩
theorem PgW.et {w : World} (h : PgW w) : EtIs w := by obtain ⟨a0, a1, a2, aD, aA, pA, pF, pL, pD, h, _⟩ := h; exact h.f.et
theorem pager_told (c : Int) (v : Value) (w : World) (hw : PgW w) (h : ErrG w c v) : Calls Tryz.prog 101 #[v] w fun e w' => e = .returned (.int .i64 c) ∧ Below w.heap.size w w' := by
  rcases h with ⟨rfl, rfl⟩ | ⟨pA, pF, pL, pD, h, hc, rfl⟩ | ⟨p, pA, pF, pL, pD, h, rfl, k⟩
  · exact pager_told_ok w hw
  · exact pager_told_why c hc w pA pF pL pD h
  · exact pager_told_wrap p c pA pF pL pD w hw.et h k
def AskP (c : Int) (w : World) (e : Ending) (w' : World) : Prop := ∃ v, e = .returned v ∧ ErrG w' c v ∧ (c = 0 → v = .nilIface) ∧ (c ≠ 0 → ∃ p, v = .iface 197 (.pointer (some ⟨p, 0, none⟩))) ∧ Below w.heap.size w w'
set_option maxHeartbeats 1000000 in
theorem pager_asked (c : Int) (w : World) (hw : PgW w) : Calls Tryz.prog 138 #[.int .i64 c] w (AskP c w) := by
  obtain ⟨a0, a1, a2, aD, aA, pA, pF, pL, pD, _, hw⟩ := hw
  by_cases h0 : c = 0
  · have FIN : Hid (AskP c w (.returned .nilIface) w) := ⟨_, rfl, .inl ⟨h0, rfl⟩, fun _ => rfl, fun h => absurd h0 h, Below.refl _ _⟩
    subst h0
    clear hw
    go_enter Tryz.func138, Tryz.ntmps138
    go_wp2_with fail
    go_ret
    exact FIN.out
  · have q0 : (c == 0) = false := by rw [beq_eq_false_iff_ne]; exact h0
    have vD := hw.vD
    have hb := below_alloc1 w (.cells #[.int .i64 c, .iface 308 (.pointer (some pD))] 201)
    have FIN : Hid (AskP c w (.returned (.iface 197 (.pointer (some ⟨w.heap.size, 0, none⟩)))) (w.alloc (.cells #[.int .i64 c, .iface 308 (.pointer (some pD))] 201))) :=
      ⟨_, rfl, .inr (.inr ⟨_, pA, pF, pL, pD, hw.below hb, rfl, blk_new _ _⟩), fun h => absurd h h0, fun _ => ⟨_, rfl⟩, hb⟩
    clear h0 hw hb
    go_enter Tryz.func138, Tryz.ntmps138
    go_wp2_with fail
    go_ret
    exact FIN.out
section
variable {w : World} {p pm g mb cb : Nat} {n : Int} {lg : Nat} {l : List Int} {d : Dk} {S : Nat → Prop}
/-- Is there such a page? -/
def isP (k : Nat) (i : Int) : Bool := decide (0 ≤ i ∧ i < (k : Int))
set_option maxHeartbeats 1000000 in
theorem pager_is {mv : Value} {k : Nat} (i : Int) (w : World) (h : PgB w p g mb cb n lg mv k d) : Calls Tryz.prog 105 #[.pointer (some ⟨p, 0, none⟩), .int .i64 i] w fun e w' => e = .returned (.bool (isP k i)) ∧ w = w' := by
  have hc := blk_cell h.blk
  unfold pgCells at hc
  have len := h.len
  obtain ⟨b, hb⟩ : ∃ b, b = isP k i := ⟨_, rfl⟩
  by_cases h0 : 0 ≤ i
  · have d0 : decide (0 ≤ i) = true := decide_eq_true h0
    by_cases h1 : i < n - 2 - (lg : Int)
    · have d1 : decide (i < n - 2 - (lg : Int)) = true := decide_eq_true h1
      have e : isP k i = true := by unfold isP; exact decide_eq_true ⟨h0, by omega⟩
      rw [e]
      clear h len hb e
      go_enter Tryz.func105, Tryz.ntmps105
      go_wp2_with fail
      go_ret
      exact ⟨rfl, rfl⟩
    · have d1 : decide (i < n - 2 - (lg : Int)) = false := decide_eq_false h1
      have e : isP k i = false := by unfold isP; exact decide_eq_false (fun h => h1 (by omega))
      rw [e]
      clear h len hb e
      go_enter Tryz.func105, Tryz.ntmps105
      go_wp2_with fail
      go_ret
      exact ⟨rfl, rfl⟩
  · have d0 : decide (0 ≤ i) = false := decide_eq_false h0
    have e : isP k i = false := by unfold isP; exact decide_eq_false (fun h => h0 h.1)
    rw [e]
    clear h len hb e hc
    go_enter Tryz.func105, Tryz.ntmps105
    go_wp2_with fail
    go_ret
    exact ⟨rfl, rfl⟩
theorem PgC.pages (h : PgC w p pm g mb cb n lg l d) : l.length ≤ 4096 := by have := h.len; have := h.n40; omega
set_option maxHeartbeats 1000000 in
theorem pager_Left (w : World) (h : PgAt w S p n lg l d) : Calls Tryz.prog 51 #[.pointer (some ⟨p, 0, none⟩)] w fun e w' => e = .returned (.int .i64 (ofK l 0).length) ∧ ∃ k, w' = w.drewN k := by
  obtain ⟨pm, g, mb, cb, h, _⟩ := h
  have hc := blk_cell h.blk
  unfold pgCells at hc
  have e : (n - 2 - (lg : Int)) - ((heldL l).length : Int) = ((ofK l 0).length : Int) := by have := h.len; have := heldL_free l; omega
  have hk := h.keys
  have hm := h.map
  have pg := h.pages
  have hle := heldL_free l
  have LN : ∀ (ty : TypeId) (W : World), Below w.heap.size w W → (Builtin.len_ #[154] ty #[.map (some pm)]).run Tryz.prog W = .ok (.int .i64 (heldL l).length) W := fun ty W hb => by
    obtain ⟨D, h1, h2⟩ := hm.below hb
    rw [h1.len (e := 3) Tryz.underlying154 ty, readsI_size h1 h2 (heldL_nodup l) hk]
  have L1 := fun ty => LN ty w (Below.refl _ _)
  have L2 := fun ty => LN ty w.drew (below_drew1 _)
  have L3 := fun ty k => LN ty (w.drewN k) (below_dN _ _)
  have E := Lib.hid e
  have w1 : IntKind.i64.wrap ((n - 2 - (lg : Int)) - ((heldL l).length : Int)) = (n - 2 - (lg : Int)) - ((heldL l).length : Int) := IntWalk.i64_in _ (by omega)
  have bd : 0 ≤ (n - 2 - (lg : Int)) - ((heldL l).length : Int) ∧ (n - 2 - (lg : Int)) - ((heldL l).length : Int) ≤ 4096 := by omega
  clear h hk hm LN e hle pg
  go_enter Tryz.func51, Tryz.ntmps51
  go_wp2_with fail
  go_quiet (fail)
  go_wp2_with fail
  go_ret
  refine ⟨?_, _, rfl⟩
  rw [← E.out]
  first | rfl | (congr 2; rw [w1])
end
end Go.Proofs.YtdbiebnnogjccaaGreatDoor
