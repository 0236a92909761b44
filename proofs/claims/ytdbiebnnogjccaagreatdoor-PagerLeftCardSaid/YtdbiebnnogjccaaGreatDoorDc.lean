/- Disks (layer 19): at, Read, crashes, Start, Dead, Size, New. -/
import Derived.Test.YtdbiebnnogjccaaGreatDoorFp
import Derived.Test.YtdbiebnnogjccaaGreatDoorFc
namespace Go.Proofs.YtdbiebnnogjccaaGreatDoor
open Go.RowKit
/-- A sector of noughts. -/
def nil256 : ByteArray := ofL (List.replicate 256 0)
theorem rep_nil : (⟨(Lib.repeatL (⟨#[0]⟩ : ByteArray).data.toList 256).toArray⟩ : ByteArray) = nil256 := by
  refine bytes_ext ?_
  rw [nil256, ofL_list]
  decide +kernel
/-- What is durable there; what is told there. -/
def Dk.at (d : Dk) (i : Int) : ByteArray := (d.m i).getD nil256
def Dk.tell (d : Dk) (i : Int) : ByteArray := (d.c i).getD (d.at i)
theorem DiskAt.drew_cell {w : World} {g mb cb k : Nat} {kv : Value} {d : Dk} (h : DiskAt w g mb cb k kv d) : ∀ o, w.cell? ⟨g, o, none⟩ = (dkCells d mb cb kv)[o]? := blk_cell h.blk
set_option maxHeartbeats 2000000 in
theorem disk_at (i : Int) (hi : wf64 i) (g mb cb k : Nat) (kv : Value) (d : Dk) (w : World) (hd : DiskAt w g mb cb k kv d) :
    Calls Tryz.prog 79 #[.pointer (some ⟨g, 0, none⟩), .int .i64 i] w fun e w' => e = .returned (.string (d.at i)) ∧ Below w.heap.size w w' := by
  have R1 := Lib.hid (fun W => Tryz.strings_Repeat ⟨#[0]⟩ 256 W (by omega) (by decide))
  rw [rep_nil] at R1
  have hc := blk_cell hd.blk
  unfold dkCells at hc
  have HM := Lib.hid hd.hm
  clear hd
  unfold Dk.at
  cases hf : d.m i with
  | none =>
    have q1 : (d.m i).isSome = false := by rw [hf]; rfl
    go_enter Tryz.func79, Tryz.ntmps79
    go_wp2_with (at_lookup; refine wpList_look_sec _ rfl _ _ rfl mb k d.m rfl HM.out i rfl hi ?_; rw [hf])
    refine (R1.out _).mono ?_; rintro e w2 ⟨rfl, hb2⟩
    have B2 := Lib.hid (bstep (below_alloc1 _ _) hb2)
    clear hb2
    go_wp2_with fail
    go_ret
    exact ⟨rfl, B2.out⟩
  | some s =>
    go_enter Tryz.func79, Tryz.ntmps79
    go_wp2_with (at_lookup; refine wpList_look_sec _ rfl _ _ rfl mb k d.m rfl HM.out i rfl hi ?_; rw [hf])
    go_ret
    exact ⟨rfl, below_alloc1 _ _⟩
/-- A cell of the struct is written. -/
theorem DiskAt.set {w : World} {g mb cb k : Nat} {kv : Value} {d d' : Dk} (h : DiskAt w g mb cb k kv d) (o : Nat) (v : Value) (hd : (dkCells d mb cb kv).setIfInBounds o v = dkCells d' mb cb kv) (hm : d'.m = d.m) (hc : d'.c = d.c) (hk : d'.keep = d.keep) (hn : d'.n = d.n) : DiskAt (w.setCell ⟨g, o, none⟩ v) g mb cb k kv d' := by
  refine ⟨by rw [blk_set h.blk, hd], by rw [hm]; exact h.hm.setCell h.gm.symm v, by rw [hc]; exact h.hc.setCell h.gc.symm v, ?_, by rw [hn]; exact h.n0, by rw [hn]; exact h.n1, h.gm, h.gc, h.mc, h.kn⟩
  rw [hk]
  exact h.hk.fr ((Fr.refl (fun q => q = g) w).setCell (.inl rfl) v) fun b off n c e => (h.kn b off n c e).1
theorem fr_set {w : World} {S : Nat → Prop} {g : Nat} (hg : S g) (o : Nat) (v : Value) : Fr S w (w.setCell ⟨g, o, none⟩ v) := (Fr.refl S w).setCell (.inl hg) v
/-- A read: the bytes, and a number. -/
def Dk.read (d : Dk) (i : Int) : ByteArray × Int := if d.may i = 0 then (d.tell i, 0) else (⟨#[]⟩, d.may i)
theorem may_cases (d : Dk) (i : Int) : d.may i = 0 ∨ d.may i = 1 ∨ d.may i = 74 := by
  unfold Dk.may; split
  · exact .inr (.inr rfl)
  · split
    · exact .inr (.inl rfl)
    · exact .inl rfl
set_option maxHeartbeats 2000000 in
theorem disk_Read (i : Int) (hi : wf64 i) (g mb cb k : Nat) (kv : Value) (d : Dk) (aD aA : Addr) (w : World) (hw : DkW w aD aA) (hd : DiskAt w g mb cb k kv d) :
    Calls Tryz.prog 69 #[.pointer (some ⟨g, 0, none⟩), .int .i64 i] w fun e w' => e = .returned (.tuple #[.string (d.read i).1, .int .i64 (d.read i).2]) ∧ Below w.heap.size w w' := by
  have MY := Lib.hid (disk_may i g mb cb k kv d aD aA w hw hd)
  have HW := Lib.hid hw
  have HD := Lib.hid hd
  clear hw hd
  by_cases h0 : d.may i = 0
  · rw [show d.read i = (d.tell i, 0) by unfold Dk.read; rw [if_pos h0]]
    rw [h0] at MY
    have AT := Lib.hid (fun W h => disk_at i hi g mb cb k kv d W h)
    unfold Dk.tell
    go_enter Tryz.func69, Tryz.ntmps69
    go_wp2_with fail
    refine MY.out.mono ?_; rintro e w1 ⟨hp, hb1⟩
    obtain rfl : e = _ := hp
    have B1 := Lib.hid hb1
    have D1 := Lib.hid (HD.out.below hb1)
    clear hb1
    have hc := blk_cell D1.out.blk
    unfold dkCells at hc
    cases hf : d.c i with
    | some s =>
      go_wp2_with (at_lookup; refine wpList_look_sec _ rfl _ _ rfl cb k d.c rfl D1.out.hc i rfl hi ?_; rw [hf])
      go_ret2
      exact ⟨by rw [hf]; rfl, bstep B1.out (below_alloc1 _ _)⟩
    | none =>
      go_wp2_with (at_lookup; refine wpList_look_sec _ rfl _ _ rfl cb k d.c rfl D1.out.hc i rfl hi ?_; rw [hf])
      refine (AT.out _ (D1.out.below (below_alloc1 _ _))).mono ?_; rintro e w2 ⟨rfl, hb2⟩
      have B2 := Lib.hid (bstep B1.out (bstep (below_alloc1 _ _) hb2))
      clear hb2
      go_wp2_with fail
      go_ret2
      exact ⟨by rw [hf]; rfl, B2.out⟩
  · rw [show d.read i = (⟨#[]⟩, d.may i) by unfold Dk.read; rw [if_neg h0]]
    have hc1 : d.may i = 1 ∨ d.may i = 74 := (may_cases d i).resolve_left h0
    obtain ⟨c, hc⟩ : ∃ c, c = d.may i := ⟨_, rfl⟩
    rw [← hc] at MY h0 hc1 ⊢
    clear hc
    go_enter Tryz.func69, Tryz.ntmps69
    go_wp2_with fail
    refine MY.out.mono ?_; rintro e w1 ⟨hp, hb1⟩
    unfold MayP at hp
    rw [if_neg h0] at hp
    obtain ⟨p, rfl, hp1⟩ := hp
    have TL := Lib.hid (disk_told c hc1 p aD aA w1 (HW.out.below hb1) hp1)
    have B1 := Lib.hid hb1
    clear hb1 hp1
    go_wp2_with fail
    refine TL.out.mono ?_; rintro e w2 ⟨rfl, rfl⟩
    go_wp2_with fail
    go_ret2
    exact ⟨rfl, B1.out⟩
/-- A write or a flush is counted. -/
def Dk.tick (d : Dk) : Dk := if d.armed then { d with left := d.left - 1 } else d
def Dk.falls (d : Dk) : Bool := d.armed && decide (d.left - 1 < 0)
set_option maxHeartbeats 2000000 in
theorem disk_crashes (g mb cb k : Nat) (kv : Value) (d : Dk) (w : World) (hd : DiskAt w g mb cb k kv d) (hl : d.armed = true → 0 ≤ d.left ∧ d.left ≤ 100000) :
    Calls Tryz.prog 93 #[.pointer (some ⟨g, 0, none⟩)] w fun e w' => e = .returned (.bool d.falls) ∧ DiskAt w' g mb cb k kv d.tick ∧ Fr (fun q => q = g) w w' := by
  have HD := Lib.hid hd
  have hc := blk_cell hd.blk
  have hf := blk_frozen hd.blk
  unfold dkCells at hc
  clear hd
  cases ha : d.armed with
  | false =>
    rw [ha] at hc
    have e1 : d.falls = false := by unfold Dk.falls; rw [ha]; rfl
    have e2 : d.tick = d := by unfold Dk.tick; rw [ha]; rfl
    rw [e1, e2]
    clear ha e1 e2
    go_enter Tryz.func93, Tryz.ntmps93
    go_wp2_with fail
    go_ret
    exact ⟨rfl, HD.out, Fr.refl _ _⟩
  | true =>
    obtain ⟨l0, l1⟩ := hl ha
    have HS := Lib.hid (HD.out.set (d' := d.tick) 4 (.int .i64 (d.left - 1)) (by unfold Dk.tick; rw [ha]; simp [dkCells, ha]) (by unfold Dk.tick; rw [ha]; rfl) (by unfold Dk.tick; rw [ha]; rfl) (by unfold Dk.tick; rw [ha]; rfl) (by unfold Dk.tick; rw [ha]; rfl))
    have ht : Hid (d.tick.left = d.left - 1) := by show _ = _; unfold Dk.tick; rw [ha]; rfl
    rw [ha] at hc
    have e1 : d.falls = decide (d.left - 1 < 0) := by unfold Dk.falls; rw [ha]; rfl
    rw [e1]
    clear ha e1
    have hc2 := blk_cell HS.out.blk
    unfold dkCells at hc2
    go_enter Tryz.func93, Tryz.ntmps93
    go_wp2_with fail
    go_ret
    exact ⟨by rw [ht.out]; rfl, HS.out, fr_set (S := fun q => q = g) rfl _ _⟩
set_option maxHeartbeats 1000000 in
theorem disk_Dead (g mb cb k : Nat) (kv : Value) (d : Dk) (w : World) (hd : DiskAt w g mb cb k kv d) :
    Calls Tryz.prog 36 #[.pointer (some ⟨g, 0, none⟩)] w fun e w' => e = .returned (.bool d.dead) ∧ w = w' := by
  have hc := blk_cell hd.blk
  unfold dkCells at hc
  clear hd
  go_enter Tryz.func36, Tryz.ntmps36
  go_wp2_with fail
  go_ret
  exact ⟨rfl, rfl⟩
set_option maxHeartbeats 1000000 in
theorem disk_Size (g mb cb k : Nat) (kv : Value) (d : Dk) (w : World) (hd : DiskAt w g mb cb k kv d) :
    Calls Tryz.prog 68 #[.pointer (some ⟨g, 0, none⟩)] w fun e w' => e = .returned (.int .i64 d.n) ∧ w = w' := by
  have hc := blk_cell hd.blk
  unfold dkCells at hc
  clear hd
  go_enter Tryz.func68, Tryz.ntmps68
  go_wp2_with fail
  go_ret
  exact ⟨rfl, rfl⟩
def Dk.start (d : Dk) : Dk := { d with dead := false, armed := false }
set_option maxHeartbeats 1000000 in
theorem disk_Start (g mb cb k : Nat) (kv : Value) (d : Dk) (w : World) (hd : DiskAt w g mb cb k kv d) :
    Calls Tryz.prog 18 #[.pointer (some ⟨g, 0, none⟩)] w fun e w' => e = .returned (.tuple #[]) ∧ DiskAt w' g mb cb k kv d.start ∧ Fr (fun q => q = g) w w' := by
  have h1 := Lib.hid (hd.set (d' := { d with dead := false }) 6 (.bool false) (by simp [dkCells]) rfl rfl rfl rfl)
  have h2 := Lib.hid (h1.out.set (d' := d.start) 3 (.bool false) (by simp [dkCells, Dk.start]) rfl rfl rfl rfl)
  have hc := blk_cell hd.blk
  have hf := blk_frozen hd.blk
  have hc1 := blk_cell h1.out.blk
  have hf1 := blk_frozen h1.out.blk
  unfold dkCells at hc hc1
  clear hd
  go_enter Tryz.func18, Tryz.ntmps18
  go_wp2_with fail
  refine bodyPost_end (v := .tuple #[]) (by simp [results, Tryz.results18, go_sem]) rfl ?_
  exact ⟨rfl, h2.out, (fr_set (S := fun q => q = g) rfl _ _).trans (fr_set (S := fun q => q = g) rfl _ _)⟩
def Dk.new (n : Int) : Dk := ⟨n, fun _ => none, fun _ => none, false, 0, [], false⟩
set_option maxHeartbeats 1000000 in
theorem disk_New (n : Int) (h0 : 1 ≤ n) (h1 : n ≤ 4096) (w : World) :
    Calls Tryz.prog 11 #[.int .i64 n] w fun e w' => e = .returned (.tuple #[.pointer (some ⟨w.heap.size + 2, 0, none⟩), .int .i64 0]) ∧ DiskAt w' (w.heap.size + 2) w.heap.size (w.heap.size + 1) 0 (.slice none 0 0) (Dk.new n) ∧ Below w.heap.size w w' := by
  have hn0 : ¬ n < 1 := by omega
  have hn1 : ¬ 4096 < n := by omega
  have hmm := @run_makeMap Tryz.prog
  go_enter Tryz.func11, Tryz.ntmps11
  go_wp2_with fail
  go_ret2
  obtain ⟨C, hC⟩ : ∃ C : Obj, C = .cells (dkCells (Dk.new n) w.heap.size (w.heap.size + 1) (.slice none 0 0)) 109 (0, 0) := ⟨_, rfl⟩
  refine ⟨rfl, ?_, ?_⟩
  · show DiskAt (((w.alloc (.map #[] 0)).alloc (.map #[] 0)).alloc (.cells (dkCells (Dk.new n) w.heap.size (w.heap.size + 1) (.slice none 0 0)) 109 (0, 0))) _ _ _ _ _ _
    rw [← hC]
    have e1 : (w.alloc (.map #[] 0)).heap.size = w.heap.size + 1 := by simp
    have e2 : ((w.alloc (.map #[] 0)).alloc (.map #[] 0)).heap.size = w.heap.size + 2 := by simp
    have b := blk_new ((w.alloc (.map #[] 0)).alloc (.map #[] 0)) C
    have m2 := (MapS.made (w.alloc (.map #[] 0))).below (below_alloc1 _ C)
    rw [e1] at m2
    rw [e2] at b
    exact ⟨by rw [b, hC], ((MapS.made w).below (below_alloc1 _ (.map #[] 0))).below (below_alloc1 _ C), m2, .inl ⟨rfl, _, _, rfl⟩, h0, h1, by omega, by omega, by omega, fun _ _ _ _ e => by cases e⟩
  · exact bstep (bstep (below_alloc1 w _) (below_alloc1 _ _)) (below_alloc1 _ _)
end Go.Proofs.YtdbiebnnogjccaaGreatDoor
