/- Disks (layer 19): the reference's disk: what it is in memory; At, Read, counted, Start. -/
import Derived.Test.YtdbiebnnogjccaaGreatDoorDu
namespace Go.Proofs.YtdbiebnnogjccaaGreatDoor
open Go.RowKit
theorem strE {T : ByteArray} (h : T.data.toList = []) : T.toList = [] ∧ T.toList.isEmpty = true ∧ (T.toList == []) = true := by
  have e : T.toList = [] := by rw [Lib.toList_data]; exact h
  rw [e]; exact ⟨rfl, rfl, rfl⟩
theorem strF {T : ByteArray} (h : T.data.toList ≠ []) : ¬ T.toList = [] ∧ T.toList.isEmpty = false ∧ (T.toList == []) = false := by
  have e : T.toList ≠ [] := by rw [Lib.toList_data]; exact h
  refine ⟨e, ?_, ?_⟩
  · cases hT : T.toList with
    | nil => exact absurd hT e
    | cons => rfl
  · rw [beq_eq_false_iff_ne]; exact e
theorem full256 {T : ByteArray} (h : T.size = 256) : T.data.toList ≠ [] := fun e => by
  rw [← size_list, e] at h; cases h
/-- The block's first n cells hold these texts. -/
def RowF (w : World) (b n : Nat) (f : Nat → ByteArray) : Prop := ∃ cs t, w.heap[b]? = some (.cells cs t (0, 0)) ∧ ∀ i, i < n → cs[i]? = some (.string (f i))
theorem RowF.lt {w : World} {b n : Nat} {f : Nat → ByteArray} (h : RowF w b n f) : b < w.heap.size := by obtain ⟨cs, t, h, _⟩ := h; exact blk_lt h
theorem RowF.cell {w : World} {b n : Nat} {f : Nat → ByteArray} (h : RowF w b n f) {i : Nat} (hi : i < n) : w.cell? ⟨b, i, none⟩ = some (.string (f i)) := by
  obtain ⟨cs, t, h1, h2⟩ := h; rw [blk_cell h1, h2 i hi]
theorem RowF.frozen {w : World} {b n : Nat} {f : Nat → ByteArray} (h : RowF w b n f) (i : Nat) : w.frozen? ⟨b, i, none⟩ = false := by
  obtain ⟨cs, t, h1, _⟩ := h; exact blk_frozen h1 i
theorem RowF.fr {S : Nat → Prop} {w w' : World} {b n : Nat} {f : Nat → ByteArray} (h : RowF w b n f) (hf : Fr S w w') (hs : ¬ S b) : RowF w' b n f := by
  obtain ⟨cs, t, h1, h2⟩ := h; exact ⟨cs, t, blk_fr h1 hf hs, h2⟩
theorem RowF.below {w w' : World} {b n : Nat} {f : Nat → ByteArray} (h : RowF w b n f) (hb : Below w.heap.size w w') : RowF w' b n f := by
  obtain ⟨cs, t, h1, h2⟩ := h; exact ⟨cs, t, blk_below h1 hb, h2⟩
theorem RowF.congr {w : World} {b n : Nat} {f g : Nat → ByteArray} (h : RowF w b n f) (e : ∀ i, i < n → f i = g i) : RowF w b n g := by
  obtain ⟨cs, t, h1, h2⟩ := h; exact ⟨cs, t, h1, fun i hi => by rw [h2 i hi, e i hi]⟩
theorem RowF.set {w : World} {b n : Nat} {f : Nat → ByteArray} (h : RowF w b n f) (i : Nat) (s : ByteArray) : RowF (w.setCell ⟨b, i, none⟩ (.string s)) b n (upd8 f i s) := by
  obtain ⟨cs, t, h1, h2⟩ := h
  refine ⟨_, t, blk_set h1 i _, fun j hj => ?_⟩
  rw [Array.getElem?_setIfInBounds]
  unfold upd8
  have hjs := (Array.getElem?_eq_some_iff.1 (h2 j hj)).1
  by_cases e : j = i
  · subst e
    rw [if_pos rfl, if_pos hjs, if_pos rfl]
  · rw [if_neg (fun h => e h.symm), if_neg e]; exact h2 j hj
def rfCells (sb cb c1 c2 n : Nat) (rn : Int) (kv : Value) (d : Dk) : Array Value := #[.slice (some ⟨sb, 0, none⟩) n c1, .slice (some ⟨cb, 0, none⟩) n c2, .bool d.dead, .bool d.armed, .int .i64 rn, kv]
/-- What a place of the reference's cache holds. -/
def Dk.ca (d : Dk) (i : Nat) : ByteArray := (d.c (i : Int)).getD ⟨#[]⟩
/-- The reference's disk in memory. -/
structure RefAt (w : World) (q sb cb c1 c2 n : Nat) (rn : Int) (kv : Value) (d : Dk) : Prop where
  blk : w.heap[q]? = some (.cells (rfCells sb cb c1 c2 n rn kv d) 62 (0, 0))
  s : RowF w sb n (fun i => d.at (i : Int))
  c : RowF w cb n d.ca
  hn : (n : Int) = d.n
  hr : d.armed = true → rn = d.left
  hk : SlKept w kv d.keep
  qs : q ≠ sb
  qc : q ≠ cb
  sc : sb ≠ cb
  kn : ∀ b off n c, kv = .slice (some ⟨b, off, none⟩) n c → b ≠ q ∧ b ≠ sb ∧ b ≠ cb
theorem RefAt.below {w w' : World} {q sb cb c1 c2 n : Nat} {rn : Int} {kv : Value} {d : Dk} (h : RefAt w q sb cb c1 c2 n rn kv d) (hb : Below w.heap.size w w') : RefAt w' q sb cb c1 c2 n rn kv d :=
  ⟨blk_below h.blk hb, h.s.below hb, h.c.below hb, h.hn, h.hr, h.hk.below hb, h.qs, h.qc, h.sc, h.kn⟩
theorem RefAt.fr {S : Nat → Prop} {w w' : World} {q sb cb c1 c2 n : Nat} {rn : Int} {kv : Value} {d : Dk} (h : RefAt w q sb cb c1 c2 n rn kv d) (hf : Fr S w w') (h1 : ¬ S q) (h2 : ¬ S sb) (h3 : ¬ S cb) (h4 : ∀ b off n c, kv = .slice (some ⟨b, off, none⟩) n c → ¬ S b) : RefAt w' q sb cb c1 c2 n rn kv d :=
  ⟨blk_fr h.blk hf h1, h.s.fr hf h2, h.c.fr hf h3, h.hn, h.hr, h.hk.fr hf h4, h.qs, h.qc, h.sc, h.kn⟩
/-- The struct's cell is written. -/
theorem RefAt.set {w : World} {q sb cb c1 c2 n : Nat} {rn rn' : Int} {kv : Value} {d d' : Dk} (h : RefAt w q sb cb c1 c2 n rn kv d) (o : Nat) (v : Value) (hd : (rfCells sb cb c1 c2 n rn kv d).setIfInBounds o v = rfCells sb cb c1 c2 n rn' kv d') (hm : d'.m = d.m) (hc : d'.c = d.c) (hk : d'.keep = d.keep) (hn : d'.n = d.n) (hr : d'.armed = true → rn' = d'.left) : RefAt (w.setCell ⟨q, o, none⟩ v) q sb cb c1 c2 n rn' kv d' := by
  refine ⟨by rw [blk_set h.blk, hd], (h.s.fr (fr_set (S := fun x => x = q) rfl o v) h.qs.symm).congr fun i _ => ?_, (h.c.fr (fr_set (S := fun x => x = q) rfl o v) h.qc.symm).congr fun i _ => ?_, by rw [hn]; exact h.hn, hr, ?_, h.qs, h.qc, h.sc, h.kn⟩
  · unfold Dk.at; rw [hm]
  · unfold Dk.ca; rw [hc]
  · rw [hk]; exact h.hk.fr (fr_set (S := fun x => x = q) rfl o v) fun b off n c e => (h.kn b off n c e).1
/-- The blocks of the reference's disk. -/
def RfS (q sb cb x : Nat) : Prop := x = q ∨ x = sb ∨ x = cb
set_option maxRecDepth 20000 in
set_option maxHeartbeats 1000000 in
theorem ref_At (i : Nat) (q sb cb c1 c2 n : Nat) (rn : Int) (kv : Value) (d : Dk) (ok : ∀ i s, d.c i = some s → s.size = 256) (hi : i < n) (w : World) (hd : RefAt w q sb cb c1 c2 n rn kv d) :
    Calls Tryz.prog 125 #[.pointer (some ⟨q, 0, none⟩), .int .i64 (i : Int)] w fun e w' => e = .returned (.string (d.tell (i : Int))) ∧ w = w' := by
  have hc := blk_cell hd.blk
  unfold rfCells at hc
  have h1 : (0 : Int) ≤ (i : Int) := by omega
  have h2 : (i : Int) < (n : Int) := by omega
  have hs := hd.s.cell hi
  have hca := hd.c.cell hi
  unfold Dk.ca at hca
  clear hd
  cases hci : d.c (i : Int) with
  | none =>
    rw [hci] at hca
    have hca : w.cell? ⟨cb, i, none⟩ = some (.string ⟨#[]⟩) := hca
    have e : d.tell (i : Int) = d.at (i : Int) := by unfold Dk.tell; rw [hci]; rfl
    rw [e]
    obtain ⟨X, hX⟩ : ∃ X, X = d.at (i : Int) := ⟨_, rfl⟩
    rw [← hX] at hs ⊢
    clear e hX hci
    go_enter Tryz.func125, Tryz.ntmps125
    go_wp2_with fail
    go_ret
    exact ⟨rfl, rfl⟩
  | some t =>
    rw [hci] at hca
    have hca : w.cell? ⟨cb, i, none⟩ = some (.string t) := hca
    have e : d.tell (i : Int) = t := by unfold Dk.tell; rw [hci]; rfl
    rw [e]
    obtain ⟨f1, f2, f3⟩ := strF (full256 (ok _ t hci))
    clear e hci hs
    go_enter Tryz.func125, Tryz.ntmps125
    go_wp2_with fail
    go_ret
    exact ⟨rfl, rfl⟩
theorem read_dead {d : Dk} (i : Int) (h : d.dead = true) : d.read i = (⟨#[]⟩, 74) := by
  have h0 : d.may i = 74 := by unfold Dk.may; rw [h]; rfl
  unfold Dk.read; rw [h0]; rfl
theorem read_out {d : Dk} {i : Int} (h : d.dead = false) (hi : i < 0 ∨ d.n ≤ i) : d.read i = (⟨#[]⟩, 1) := by
  have h0 : d.may i = 1 := by unfold Dk.may; rw [h, if_neg (by decide), if_pos hi]
  unfold Dk.read; rw [h0]; rfl
set_option maxRecDepth 20000 in
set_option maxHeartbeats 1000000 in
theorem ref_Read (i : Int) (q sb cb c1 c2 n : Nat) (rn : Int) (kv : Value) (d : Dk) (ok : ∀ i s, d.c i = some s → s.size = 256) (w : World) (hd : RefAt w q sb cb c1 c2 n rn kv d) :
    Calls Tryz.prog 100 #[.pointer (some ⟨q, 0, none⟩), .int .i64 i] w fun e w' => e = .returned (.tuple #[.string (d.read i).1, .int .i64 (d.read i).2]) ∧ w = w' := by
  have hc := blk_cell hd.blk
  unfold rfCells at hc
  have hn := hd.hn
  have HD := Lib.hid hd
  clear hd
  cases hdd : d.dead with
  | true =>
    rw [hdd] at hc
    rw [read_dead i hdd]
    clear hdd hn
    go_enter Tryz.func100, Tryz.ntmps100
    go_wp2_with fail
    go_ret2
    exact ⟨rfl, rfl⟩
  | false =>
    rw [hdd] at hc
    by_cases h0 : i < 0
    · rw [read_out hdd (.inl h0)]
      clear hdd hn
      go_enter Tryz.func100, Tryz.ntmps100
      go_wp2_with fail
      go_ret2
      exact ⟨rfl, rfl⟩
    · by_cases h1 : d.n ≤ i
      · rw [read_out hdd (.inr h1)]
        have h2 : (n : Int) ≤ i := by omega
        clear hdd hn h1
        go_enter Tryz.func100, Tryz.ntmps100
        go_wp2_with fail
        go_ret2
        exact ⟨rfl, rfl⟩
      · rw [read_ok hdd ⟨by omega, by omega⟩]
        obtain ⟨k, rfl⟩ : ∃ k : Nat, i = (k : Int) := ⟨i.toNat, by omega⟩
        have AT := Lib.hid (ref_At k q sb cb c1 c2 n rn kv d ok (by omega) w HD.out)
        have h2 : ¬ (n : Int) ≤ (k : Int) := by omega
        clear hdd hn h1
        go_enter Tryz.func100, Tryz.ntmps100
        go_wp2_with fail
        refine AT.out.mono ?_; rintro e w1 ⟨rfl, rfl⟩
        go_wp2_with fail
        go_ret2
        exact ⟨rfl, rfl⟩
/-- The same, whatever its count is. -/
def RefAny (w : World) (q sb cb c1 c2 n : Nat) (kv : Value) (d : Dk) : Prop := ∃ rn, RefAt w q sb cb c1 c2 n rn kv d
set_option maxHeartbeats 2000000 in
theorem ref_counted_no (q sb cb c1 c2 n : Nat) (rn : Int) (kv : Value) (d : Dk) (hl : d.armed = true → 0 ≤ d.left ∧ d.left ≤ 100000) (hf : d.falls = false) (w : World) (hd : RefAt w q sb cb c1 c2 n rn kv d) :
    Calls Tryz.prog 95 #[.pointer (some ⟨q, 0, none⟩)] w fun e w' => e = .returned (.bool false) ∧ RefAny w' q sb cb c1 c2 n kv d.tick ∧ Fr (fun x => x = q) w w' := by
  have HD := Lib.hid hd
  have hc := blk_cell hd.blk
  have hfz := blk_frozen hd.blk
  unfold rfCells at hc
  have hr := hd.hr
  clear hd
  cases ha : d.armed with
  | false =>
    rw [ha] at hc
    have e2 : d.tick = d := by unfold Dk.tick; rw [ha]; rfl
    rw [e2]
    have HP : Hid (RefAny w q sb cb c1 c2 n kv d) := ⟨rn, HD.out⟩
    clear ha e2 hr hl hf
    go_enter Tryz.func95, Tryz.ntmps95
    go_wp2_with fail
    go_ret
    exact ⟨rfl, HP.out, Fr.refl _ _⟩
  | true =>
    obtain ⟨l0, l1⟩ := hl ha
    have hr1 := hr ha
    have h0 : 0 < d.left := by unfold Dk.falls at hf; rw [ha] at hf; simp at hf; omega
    rw [ha] at hc
    have hp : (0 : Int) < rn := by omega
    have hp2 : rn ≤ 100000 := by omega
    have HS := Lib.hid (HD.out.set (rn' := rn - 1) (d' := d.tick) 4 (.int .i64 (rn - 1)) (by unfold Dk.tick; rw [ha]; simp [rfCells, ha]) (by rw [Dk.tick_m]) (by rw [Dk.tick_c]) (by rw [Dk.tick_keep]) (by rw [Dk.tick_n]) (fun _ => by unfold Dk.tick; rw [ha, if_pos rfl]; show rn - 1 = d.left - 1; omega))
    have HP : Hid (RefAny (w.setCell ⟨q, 4, none⟩ (.int .i64 (rn - 1))) q sb cb c1 c2 n kv d.tick) := ⟨_, HS.out⟩
    clear ha hr hl hr1 h0 l0 l1 hf
    go_enter Tryz.func95, Tryz.ntmps95
    go_wp2_with fail
    go_ret
    exact ⟨rfl, HP.out, fr_set (S := fun x => x = q) rfl _ _⟩
set_option maxHeartbeats 2000000 in
theorem ref_counted_yes (q sb cb c1 c2 n : Nat) (rn : Int) (kv : Value) (d : Dk) (hf : d.falls = true) (w : World) (hd : RefAt w q sb cb c1 c2 n rn kv d) :
    Calls Tryz.prog 95 #[.pointer (some ⟨q, 0, none⟩)] w fun e w' => e = .returned (.bool true) ∧ w = w' := by
  have hc := blk_cell hd.blk
  unfold rfCells at hc
  have hr := hd.hr
  clear hd
  have ha : d.armed = true := by unfold Dk.falls at hf; simp at hf; exact hf.1
  have h0 : d.left < 1 := by unfold Dk.falls at hf; simp at hf; omega
  have hr1 := hr ha
  rw [ha] at hc
  have hp : ¬ (0 : Int) < rn := by omega
  clear ha hr hr1 h0 hf
  go_enter Tryz.func95, Tryz.ntmps95
  go_wp2_with fail
  go_ret
  exact ⟨rfl, rfl⟩
set_option maxHeartbeats 1000000 in
theorem ref_Start (q sb cb c1 c2 n : Nat) (rn : Int) (kv : Value) (d : Dk) (w : World) (hd : RefAt w q sb cb c1 c2 n rn kv d) :
    Calls Tryz.prog 28 #[.pointer (some ⟨q, 0, none⟩)] w fun e w' => e = .returned (.tuple #[]) ∧ RefAt w' q sb cb c1 c2 n rn kv d.start ∧ Fr (fun x => x = q) w w' := by
  have h1 := Lib.hid (hd.set (rn' := rn) (d' := { d with dead := false }) 2 (.bool false) (by simp [rfCells]) rfl rfl rfl rfl hd.hr)
  have h2 := Lib.hid (h1.out.set (rn' := rn) (d' := d.start) 3 (.bool false) (by simp [rfCells, Dk.start]) rfl rfl rfl rfl (fun e => by cases e))
  have hc := blk_cell hd.blk
  have hf := blk_frozen hd.blk
  have hc1 := blk_cell h1.out.blk
  have hf1 := blk_frozen h1.out.blk
  unfold rfCells at hc hc1
  clear hd
  go_enter Tryz.func28, Tryz.ntmps28
  go_wp2_with fail
  refine bodyPost_end (v := .tuple #[]) (by simp [results, Tryz.results28, go_sem]) rfl ?_
  exact ⟨rfl, h2.out, (fr_set (S := fun x => x = q) rfl _ _).trans (fr_set (S := fun x => x = q) rfl _ _)⟩
end Go.Proofs.YtdbiebnnogjccaaGreatDoor
