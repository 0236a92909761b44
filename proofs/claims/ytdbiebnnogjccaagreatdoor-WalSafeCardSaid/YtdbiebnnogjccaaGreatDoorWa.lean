/- The log (layer 21): what a log is in memory; its small calls. -/
import Derived.Test.YtdbiebnnogjccaaGreatDoorWt
import Derived.Test.YtdbiebnnogjccaaGreatDoorFq
import Derived.Test.YtdbiebnnogjccaaGreatDoorFf
import Derived.Test.YtdbiebnnogjccaaGreatDoorDq
namespace Go.Proofs.YtdbiebnnogjccaaGreatDoor
open Go.RowKit
/-- The laid variables of frames, disks and the log. -/
structure WlW (w : World) (a0 a1 a2 aD aA bD bL bF : Addr) : Prop where
  h : HwW w a0 a1 a2 aD aA
  vD : w.cell? ⟨5, 0, none⟩ = some (.iface 308 (.pointer (some bD)))
  vL : w.cell? ⟨6, 0, none⟩ = some (.iface 308 (.pointer (some bL)))
  vF : w.cell? ⟨7, 0, none⟩ = some (.iface 308 (.pointer (some bF)))
  kD : ∃ c t, w.heap[bD.block]? = some (.cells c t (0, 0))
  kL : ∃ c t, w.heap[bL.block]? = some (.cells c t (0, 0))
  kF : ∃ c t, w.heap[bF.block]? = some (.cells c t (0, 0))
  n1 : bD ≠ bL
  n2 : bD ≠ bF
  n3 : bL ≠ bF
theorem WlW.below {w w' : World} {a0 a1 a2 aD aA bD bL bF : Addr} (h : WlW w a0 a1 a2 aD aA bD bL bF) (hb : Below w.heap.size w w') : WlW w' a0 a1 a2 aD aA bD bL bF :=
  ⟨h.h.below hb, dk_cell h.vD hb, dk_cell h.vL hb, dk_cell h.vF hb, dk_blk h.kD hb, dk_blk h.kL hb, dk_blk h.kF hb, h.n1, h.n2, h.n3⟩
/-- The log's cells. -/
def lgCells (g : Nat) (n : Int) (lg : Nat) (rv : Value) (x : Wl) : Array Value := #[.pointer (some ⟨g, 0, none⟩), .int .i64 2, .int .i64 (lg : Int), .int .i64 (2 + (lg : Int)), .int .i64 (n - 2 - (lg : Int)), rv, .int .u64 x.next, .int .i64 (x.used : Int), .bool x.dead]
/-- A log in memory: its struct at p, its records in a row at or above B. -/
structure LogAt (w : World) (B p g : Nat) (n : Int) (lg : Nat) (rv : Value) (x : Wl) : Prop where
  blk : w.heap[p]? = some (.cells (lgCells g n lg rv x) 116 (0, 0))
  row : w.ownsRow B 9 1 rv x.recs.length (x.recs.map Value.string)
  rp : rv.ownBlock ≠ some p
  x0 : 1 ≤ x.next
  x1 : x.next ≤ 2147483649
  us : x.used ≤ lg
  rl : x.recs.length ≤ x.used
  l1 : lg ≤ 1023
theorem row_fr {S : Nat → Prop} {w w' : World} {B : Nat} {e : TypeId} {s n : Nat} {v : Value} {xs : List Value} (h : w.ownsRow B e s v n xs) (hf : Fr S w w') (hs : ∀ b, v.ownBlock = some b → ¬ S b) : w'.ownsRow B e s v n xs := by
  refine ⟨h.1, ?_⟩
  rcases h.2 with hn | ⟨g, cap, cur, rfl, hb, hgg, rest⟩
  · exact .inl hn
  · exact .inr ⟨g, cap, cur, rfl, hb, blk_fr hgg hf (hs g rfl), rest⟩
section
variable {w w' : World} {B p g : Nat} {n : Int} {lg : Nat} {rv : Value} {x : Wl}
theorem LogAt.fr {S : Nat → Prop} (h : LogAt w B p g n lg rv x) (hf : Fr S w w') (hp : ¬ S p) (hr : ∀ b, rv.ownBlock = some b → ¬ S b) : LogAt w' B p g n lg rv x :=
  ⟨blk_fr h.blk hf hp, row_fr h.row hf hr, h.rp, h.x0, h.x1, h.us, h.rl, h.l1⟩
theorem LogAt.below (h : LogAt w B p g n lg rv x) (hb : Below w.heap.size w w') : LogAt w' B p g n lg rv x :=
  ⟨blk_below h.blk hb, row_bel h.row hb, h.rp, h.x0, h.x1, h.us, h.rl, h.l1⟩
/-- The cell of a number or of the mark is written. -/
theorem LogAt.set {x' : Wl} (h : LogAt w B p g n lg rv x) (o : Nat) (v : Value) (he : (lgCells g n lg rv x).setIfInBounds o v = lgCells g n lg rv x') (hr : x'.recs = x.recs) (x0 : 1 ≤ x'.next) (x1 : x'.next ≤ 2147483649) (us : x'.used ≤ lg) (ul : x'.recs.length ≤ x'.used) : LogAt (w.setCell ⟨p, o, none⟩ v) B p g n lg rv x' := by
  refine ⟨by rw [blk_set h.blk, he], ?_, h.rp, x0, x1, us, ul, h.l1⟩
  rw [hr]
  exact row_fr h.row (fr_set (S := fun q => q = p) rfl o v) fun b hb e => h.rp (by rw [hb, e])
end
/-- The sentinel behind a number. -/
def whyB (bD bL bF : Addr) (c : Int) : Addr := if c = 74 then bD else if c = 2 then bL else bF
set_option maxHeartbeats 1000000 in
theorem wal_told (c : Int) (hc : c = 74 ∨ c = 2 ∨ c = 73) (a0 a1 a2 aD aA bD bL bF : Addr) (w : World) (hw : WlW w a0 a1 a2 aD aA bD bL bF) :
    Calls Tryz.prog 74 #[.iface 308 (.pointer (some (whyB bD bL bF c)))] w fun e w' => e = .returned (.int .i64 c) ∧ w = w' := by
  obtain ⟨cD, tD, hD⟩ := hw.kD
  obtain ⟨cL, tL, hL⟩ := hw.kL
  obtain ⟨cF, tF, hF⟩ := hw.kF
  have v1 := hw.vD
  have v2 := hw.vL
  have v3 := hw.vF
  rcases hc with rfl | rfl | rfl
  · show Calls _ _ #[.iface _ (.pointer (some bD))] _ _
    have I1 := Lib.hid (is_same bD w)
    clear hw hD hL hF
    go_enter Tryz.func74, Tryz.ntmps74
    go_wp2_with fail
    refine I1.out.mono ?_; rintro e w1 ⟨rfl, rfl⟩
    go_wp2_with fail
    go_ret
    exact ⟨rfl, rfl⟩
  · show Calls _ _ #[.iface _ (.pointer (some bL))] _ _
    have I1 := Lib.hid (is_other bL bD cL cD tL tD w hw.n1.symm hL hD)
    have I2 := Lib.hid (is_same bL w)
    clear hw hD hL hF
    go_enter Tryz.func74, Tryz.ntmps74
    go_wp2_with fail
    refine I1.out.mono ?_; rintro e w1 ⟨rfl, rfl⟩
    go_wp2_with fail
    refine I2.out.mono ?_; rintro e w1 ⟨rfl, rfl⟩
    go_wp2_with fail
    go_ret
    exact ⟨rfl, rfl⟩
  · show Calls _ _ #[.iface _ (.pointer (some bF))] _ _
    have I1 := Lib.hid (is_other bF bD cF cD tF tD w hw.n2.symm hF hD)
    have I2 := Lib.hid (is_other bF bL cF cL tF tL w hw.n3.symm hF hL)
    have I3 := Lib.hid (is_same bF w)
    clear hw hD hL hF
    go_enter Tryz.func74, Tryz.ntmps74
    go_wp2_with fail
    refine I1.out.mono ?_; rintro e w1 ⟨rfl, rfl⟩
    go_wp2_with fail
    refine I2.out.mono ?_; rintro e w1 ⟨rfl, rfl⟩
    go_wp2_with fail
    refine I3.out.mono ?_; rintro e w1 ⟨rfl, rfl⟩
    go_wp2_with fail
    go_ret
    exact ⟨rfl, rfl⟩
section
variable {B p g : Nat} {n : Int} {lg : Nat} {rv : Value} {x : Wl}
set_option maxHeartbeats 1000000 in
theorem wal_Next (w : World) (h : LogAt w B p g n lg rv x) : Calls Tryz.prog 16 #[.pointer (some ⟨p, 0, none⟩)] w fun e w' => e = .returned (.int .u32 x.next) ∧ w = w' := by
  have x0 := h.x0
  have x1 := h.x1
  have u1 : IntKind.u32.wrap x.next = x.next := by rw [IntKind.wrap_u32]; omega
  have hc := blk_cell h.blk
  unfold lgCells at hc
  clear h
  go_enter Tryz.func16, Tryz.ntmps16
  go_wp2_with fail
  go_ret
  exact ⟨rfl, rfl⟩
set_option maxHeartbeats 1000000 in
theorem wal_Left (w : World) (h : LogAt w B p g n lg rv x) : Calls Tryz.prog 72 #[.pointer (some ⟨p, 0, none⟩)] w fun e w' => e = .returned (.int .i64 ((lg : Int) - (x.used : Int))) ∧ ∃ k, w' = w.drewN k := by
  have us := h.us
  have l1 := h.l1
  have u1 : IntKind.i64.wrap ((lg : Int) - (x.used : Int)) = (lg : Int) - (x.used : Int) := IntWalk.i64_in _ (by omega)
  have hc := blk_cell h.blk
  unfold lgCells at hc
  clear h
  go_enter Tryz.func72, Tryz.ntmps72
  go_wp2_with fail
  go_quiet (fail)
  go_wp2_with fail
  go_ret
  exact ⟨rfl, _, rfl⟩
set_option maxHeartbeats 1000000 in
theorem wal_Empty (w : World) (h : LogAt w B p g n lg rv x) : Calls Tryz.prog 31 #[.pointer (some ⟨p, 0, none⟩)] w fun e w' => e = .returned (.tuple #[]) ∧ LogAt w' B p g n lg (.slice none 0 0) ⟨[], x.next, 0, x.dead⟩ ∧ Fr (fun q => q = p) w w' := by
  have H := Lib.hid h
  have hc := blk_cell h.blk
  have hf := blk_frozen h.blk
  have h1 : (w.setCell ⟨p, 5, none⟩ (.slice none 0 0)).heap[p]? = some (.cells (lgCells g n lg (.slice none 0 0) x) 116 (0, 0)) := by rw [blk_set h.blk]; rfl
  have hf1 := blk_frozen h1
  have H2 : Hid (LogAt ((w.setCell ⟨p, 5, none⟩ (.slice none 0 0)).setCell ⟨p, 7, none⟩ (.int .i64 0)) B p g n lg (.slice none 0 0) ⟨[], x.next, 0, x.dead⟩) :=
    ⟨by rw [blk_set h1]; rfl, ⟨rfl, .inl ⟨rfl, rfl⟩⟩, (fun e => by cases e), h.x0, h.x1, Nat.zero_le _, Nat.le_refl _, h.l1⟩
  have F2 : Hid (Fr (fun q => q = p) w ((w.setCell ⟨p, 5, none⟩ (.slice none 0 0)).setCell ⟨p, 7, none⟩ (.int .i64 0))) := (fr_set (S := fun q => q = p) rfl _ _).trans (fr_set (S := fun q => q = p) rfl _ _)
  unfold lgCells at hc
  clear h h1
  go_enter Tryz.func31, Tryz.ntmps31
  go_wp2_with fail
  refine bodyPost_end (v := .tuple #[]) (by simp [results, Tryz.results31, go_sem]) rfl ?_
  exact ⟨rfl, H2.out, F2.out⟩
end
/-- What may hands back. -/
def whyV (bD bL bF : Addr) (c : Int) : Value := if c = 0 then .nilIface else .iface 308 (.pointer (some (whyB bD bL bF c)))
theorem walmay_cases (x : Wl) (lg : Nat) (s : ByteArray) : x.may lg s = 74 ∨ x.may lg s = 2 ∨ x.may lg s = 73 ∨ x.may lg s = 0 := by
  unfold Wl.may
  split
  · exact .inl rfl
  · split
    · exact .inr (.inl rfl)
    · split
      · exact .inr (.inr (.inl rfl))
      · exact .inr (.inr (.inr rfl))
section
variable {B p g : Nat} {n : Int} {lg : Nat} {rv : Value} {x : Wl}
set_option maxHeartbeats 2000000 in
theorem wal_may (s : ByteArray) (a0 a1 a2 aD aA bD bL bF : Addr) (w : World) (hw : WlW w a0 a1 a2 aD aA bD bL bF) (h : LogAt w B p g n lg rv x) :
    Calls Tryz.prog 73 #[.pointer (some ⟨p, 0, none⟩), .string s] w fun e w' => e = .returned (whyV bD bL bF (x.may lg s)) ∧ ∃ k, w' = w.drewN k := by
  have hv1 := hw.vD
  have hv2 := hw.vL
  have hv3 := hw.vF
  have LF := Lib.hid (wal_Left w h)
  have FS := Lib.hid (frame_Size (s.size : Int) w)
  have hc := blk_cell h.blk
  unfold lgCells at hc
  clear hw h
  cases hd : x.dead with
  | true =>
    rw [hd] at hc
    rw [show x.may lg s = 74 by unfold Wl.may; rw [if_pos hd]]
    clear hd
    go_enter Tryz.func73, Tryz.ntmps73
    go_wp2_with fail
    go_ret
    exact ⟨rfl, 0, rfl⟩
  | false =>
    rw [hd] at hc
    by_cases h1 : 2000 < s.size
    · have q1 : (2000 : Int) < (s.size : Int) := by omega
      rw [show x.may lg s = 2 by unfold Wl.may; rw [if_neg (by rw [hd]; decide), if_pos h1]]
      clear hd h1
      go_enter Tryz.func73, Tryz.ntmps73
      go_wp2_with fail
      go_ret
      exact ⟨rfl, 0, rfl⟩
    · have q1 : ¬ (2000 : Int) < (s.size : Int) := by omega
      obtain ⟨z, hz⟩ : ∃ z, z = sizeF (s.size : Int) := ⟨_, rfl⟩
      obtain ⟨y, hy⟩ : ∃ y, y = (lg : Int) - (x.used : Int) := ⟨_, rfl⟩
      rw [← hz] at FS
      rw [← hy] at LF
      by_cases h2 : y < z
      · rw [show x.may lg s = 73 by unfold Wl.may; rw [if_neg (by rw [hd]; decide), if_neg h1, if_pos (.inl (by rw [← hy, ← hz]; exact h2))]]
        clear hd h1 hz hy
        go_enter Tryz.func73, Tryz.ntmps73
        go_wp2_with fail
        refine FS.out.mono ?_; rintro e w1 ⟨rfl, rfl⟩
        go_wp2_with fail
        refine LF.out.mono ?_; rintro e w1 ⟨rfl, k, rfl⟩
        go_wp2_with fail
        go_ret
        exact ⟨rfl, k, rfl⟩
      · by_cases h3 : 2147483648 < x.next
        · rw [show x.may lg s = 73 by unfold Wl.may; rw [if_neg (by rw [hd]; decide), if_neg h1, if_pos (.inr h3)]]
          clear hd h1 hz hy
          go_enter Tryz.func73, Tryz.ntmps73
          go_wp2_with fail
          refine FS.out.mono ?_; rintro e w1 ⟨rfl, rfl⟩
          go_wp2_with fail
          refine LF.out.mono ?_; rintro e w1 ⟨rfl, k, rfl⟩
          go_wp2_with fail
          go_ret
          exact ⟨rfl, k, rfl⟩
        · rw [show x.may lg s = 0 by unfold Wl.may; rw [if_neg (by rw [hd]; decide), if_neg h1, if_neg (by rw [← hy, ← hz]; rintro (h | h); exact h2 h; exact h3 h)]]
          clear hd h1 hz hy
          go_enter Tryz.func73, Tryz.ntmps73
          go_wp2_with fail
          refine FS.out.mono ?_; rintro e w1 ⟨rfl, rfl⟩
          go_wp2_with fail
          refine LF.out.mono ?_; rintro e w1 ⟨rfl, k, rfl⟩
          go_wp2_with fail
          go_ret
          exact ⟨rfl, k, rfl⟩
end
end Go.Proofs.YtdbiebnnogjccaaGreatDoor
