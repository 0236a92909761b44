/- Disks (layer 19): plain words for the laws; an array of eight texts. -/
import Derived.Test.YtdbiebnnogjccaaGreatDoorOpd
import Derived.Test.YtdbiebnnogjccaaGreatDoorGm
namespace Go.Proofs.YtdbiebnnogjccaaGreatDoor
open Go.RowKit
theorem tell_put (d : Dk) (i : Int) (s : ByteArray) (j : Int) : (d.put i s).tell j = if j = i then s else d.tell j := by
  unfold Dk.tell Dk.put setF
  by_cases h : j = i
  · simp [h]
  · simp [h]; rfl
theorem pour_at (d : Dk) (j : Int) : d.pour.at j = d.tell j := by
  unfold Dk.tell Dk.at Dk.pour
  cases h : d.c j <;> simp [h]
theorem pour_tell (d : Dk) (j : Int) : d.pour.tell j = d.tell j := by
  exact (show d.pour.tell j = d.pour.at j from rfl).trans (pour_at d j)
theorem dirty_pour (d : Dk) : d.pour.dirty = [] := by
  unfold Dk.dirty Dk.pour
  rw [List.filter_eq_nil_iff]
  intro a _ h
  cases h
theorem new_tell (n : Int) (j : Int) : (Dk.new n).tell j = nil256 := rfl
theorem new_at (n : Int) (j : Int) : (Dk.new n).at j = nil256 := rfl
/-- Eight texts' cells. -/
def arr8 (f : Nat → ByteArray) : Array Value := #[.string (f 0), .string (f 1), .string (f 2), .string (f 3), .string (f 4), .string (f 5), .string (f 6), .string (f 7)]
def upd8 (f : Nat → ByteArray) (i : Nat) (s : ByteArray) : Nat → ByteArray := fun j => if j = i then s else f j
theorem lt8 {i : Nat} (h : i < 8) : i = 0 ∨ i = 1 ∨ i = 2 ∨ i = 3 ∨ i = 4 ∨ i = 5 ∨ i = 6 ∨ i = 7 := by omega
theorem arr8_get (f : Nat → ByteArray) {i : Nat} (h : i < 8) : (arr8 f)[i]? = some (.string (f i)) := by
  rcases lt8 h with rfl | rfl | rfl | rfl | rfl | rfl | rfl | rfl <;> rfl
theorem arr8_set (f : Nat → ByteArray) {i : Nat} (h : i < 8) (s : ByteArray) : (arr8 f).setIfInBounds i (.string s) = arr8 (upd8 f i s) := by
  rcases lt8 h with rfl | rfl | rfl | rfl | rfl | rfl | rfl | rfl <;> simp [arr8, upd8]
theorem SlU8.form {w : World} {v : Value} {l : List Int} (h : SlU8 w v l) : ∃ p c, v = .slice p l.length c := by
  rcases h with ⟨e, p, c, h⟩ | ⟨b, off, cap, e, _⟩
  · subst e; exact ⟨p, c, h⟩
  · exact ⟨_, _, e⟩
theorem SlU8.at {w : World} {v : Value} {l : List Int} (h : SlU8 w v l) {k : Nat} (hk : k < l.length) : ∃ b off cap, v = .slice (some ⟨b, off, none⟩) l.length cap ∧ b < w.heap.size ∧ w.cell? ⟨b, off + k, none⟩ = some (.int .u8 l[k]) := by
  rcases h with ⟨e, _⟩ | ⟨b, off, cap, e, hb, hc⟩
  · subst e; exact absurd hk (by simp)
  · exact ⟨b, off, cap, e, hb (fun e => by subst e; exact absurd hk (by simp)), hc k hk⟩
theorem SlU8.below {w w' : World} {v : Value} {l : List Int} (h : SlU8 w v l) (hb : Below w.heap.size w w') : SlU8 w' v l := by
  rcases h with h | ⟨b, off, cap, e, h1, h2⟩
  · exact .inl h
  · by_cases hl : l = []
    · subst hl
      exact .inl ⟨rfl, _, _, e⟩
    · have := h1 hl
      exact .inr ⟨b, off, cap, e, fun _ => Nat.lt_of_lt_of_le this hb.size, fun i hi => by rw [hb.cell (p := ⟨b, off + i, none⟩) this]; exact h2 i hi⟩
/-- The first k texts, one behind the other. -/
def cat8 (f : Nat → ByteArray) (k : Nat) : List UInt8 := ((List.range k).map fun i => (f i).data.toList).flatten
theorem cat8_succ (f : Nat → ByteArray) (k : Nat) : cat8 f (k + 1) = cat8 f k ++ (f k).data.toList := by
  unfold cat8; rw [List.range_succ, List.map_append, List.flatten_append]; simp
theorem cat8_len {f : Nat → ByteArray} (hf : ∀ i, i < 8 → (f i).size = 256) : ∀ {k : Nat}, k ≤ 8 → (cat8 f k).length = k * 256
  | 0, _ => by simp [cat8]
  | k + 1, h => by rw [cat8_succ, List.length_append, cat8_len hf (by omega), size_list, hf k (by omega)]; omega
/-- A disk that is neither dead nor armed, of n sectors. -/
structure Dk.Calm (d : Dk) (n : Int) : Prop where
  ok : d.Ok
  dead : d.dead = false
  armed : d.armed = false
  n : d.n = n
theorem Dk.Calm.put {d : Dk} {n : Int} (h : d.Calm n) {i : Int} {s : ByteArray} (hi : 0 ≤ i ∧ i < n) (hs : s.size = 256) : (d.put i s).Calm n := ⟨h.ok.put (by rw [h.n]; exact hi) hs, h.dead, h.armed, h.n⟩
theorem Dk.Calm.pour {d : Dk} {n : Int} (h : d.Calm n) : d.pour.Calm n := ⟨h.ok.pour, h.dead, h.armed, h.n⟩
theorem Dk.Calm.write {d : Dk} {n : Int} (h : d.Calm n) {i : Int} {s : ByteArray} (hi : 0 ≤ i ∧ i < n) (hs : s.size = 256) : d.write i s = (d.put i s, 0) := write_ok h.dead h.armed (by rw [h.n]; exact hi) hs
theorem Dk.Calm.flush {d : Dk} {n : Int} (h : d.Calm n) : d.flush = (d.pour, 0) := flush_ok h.dead h.armed h.ok.n0
theorem Dk.Calm.read {d : Dk} {n : Int} (h : d.Calm n) {i : Int} (hi : 0 ≤ i ∧ i < n) : d.read i = (d.tell i, 0) := read_ok h.dead (by rw [h.n]; exact hi)
theorem calm_new {n : Int} (h0 : 1 ≤ n) (h1 : n ≤ 4096) : (Dk.new n).Calm n := ⟨Dk.Ok.new h0 h1, rfl, rfl, rfl⟩
theorem bytes_cat {d : Dk} {f : Nat → ByteArray} (hn : d.n = 8) (h : ∀ i : Nat, i < 8 → d.at (i : Int) = f i) : d.bytes = cat8 f 8 := by
  unfold Dk.bytes Dk.firstB cat8
  rw [hn]
  congr 1
  refine List.map_congr_left fun i hi => ?_
  rw [h i (by have := List.mem_range.1 hi; omega)]
end Go.Proofs.YtdbiebnnogjccaaGreatDoor

/- Pages (layer 22): plain words on a calm disk: what is written is read. -/
namespace Go.Proofs.YtdbiebnnogjccaaGreatDoor
open Go.RowKit
theorem pageS_size {num : Int} {s : ByteArray} (hs : s.size ≤ 236) : (pageS num s).size = 256 := by
  have hl : (allF s.data.toList).length = 1 * 244 := by rw [allF_length, size_list]; unfold szN; omega
  unfold pageS
  rw [ofL_size]
  exact sec_length hl (by decide)
theorem read_page {num : Int} {s : ByteArray} (h0 : 0 < num) (h1 : num < 4294967296) (hs : s.size ≤ 236) : readF [(pageS num s).data.toList] = some (s.data.toList, num, 1) := by
  have h := read_made h0 h1 (s := s.data.toList) (by rw [size_list]; omega) []
  have e : secsF num s.data.toList = [(pageS num s).data.toList] := by
    have h2 := secs_page (num := num) hs
    have h3 := congrArg (List.map fun b : ByteArray => b.data.toList) h2
    rw [List.map_map] at h3
    simpa [Function.comp_def, ofL_list] using h3
  rw [e, List.append_nil, show szN s.data.toList.length = 1 by rw [size_list]; unfold szN; omega] at h
  exact h
/-- A calm disk with pages. -/
structure PgCalm (n : Int) (lg : Nat) (l : List Int) (d : Dk) : Prop where
  c : d.Calm n
  len : (l.length : Int) = n - 2 - (lg : Int)
theorem PgCalm.write {n : Int} {lg : Nat} {l : List Int} {d : Dk} (h : PgCalm n lg l d) {i num : Int} {s : ByteArray} (hk : kindL l i = 2) (hn : num ≠ 0) (hs : s.size ≤ 236) : pwrite d l (2 + (lg : Int)) i num s = (d.put (2 + (lg : Int) + i) (pageS num s), 0) ∧ PgCalm n lg l (d.put (2 + (lg : Int) + i) (pageS num s)) := by
  have hi := kindL_in (l := l) (i := i) (by rw [hk]; decide)
  have hr : 0 ≤ 2 + (lg : Int) + i ∧ 2 + (lg : Int) + i < n := by have := h.len; omega
  refine ⟨?_, h.c.put hr (pageS_size hs), h.len⟩
  unfold pwrite
  rw [if_neg (fun k => k.elim (fun k => k hk) hn), if_neg (by omega)]
  exact h.c.write hr (pageS_size hs)
theorem PgCalm.read {n : Int} {lg : Nat} {l : List Int} {d : Dk} (h : PgCalm n lg l d) {i : Int} (hi : 0 ≤ i ∧ i < (l.length : Int)) : pread d l.length (2 + (lg : Int)) i = match readF [(d.tell (2 + (lg : Int) + i)).data.toList] with | some (s, _, _) => (ofL s, 0) | none => (⟨#[]⟩, 11) := by
  have hr : 0 ≤ 2 + (lg : Int) + i ∧ 2 + (lg : Int) + i < n := by have := h.len; omega
  unfold pread isP
  rw [if_pos (decide_eq_true hi), h.c.read hr, if_neg (fun k => k rfl)]
  rfl
theorem PgCalm.read_put {n : Int} {lg : Nat} {l : List Int} {d : Dk} (h : PgCalm n lg l d) {i num : Int} {s : ByteArray} (hi : 0 ≤ i ∧ i < (l.length : Int)) (h0 : 0 < num) (h1 : num < 4294967296) (ht : d.tell (2 + (lg : Int) + i) = pageS num s) (hs : s.size ≤ 236) : pread d l.length (2 + (lg : Int)) i = (s, 0) := by
  rw [h.read hi, ht, read_page h0 h1 hs]
  show (ofL s.data.toList, 0) = _
  rw [ofL_of]
theorem pwrite_no {d : Dk} {l : List Int} {base i num : Int} {s : ByteArray} (hk : kindL l i ≠ 2) : pwrite d l base i num s = (d, 1) := by unfold pwrite; rw [if_pos (.inl hk)]
def gsA : ByteArray := ⟨#[97, 98, 99]⟩
def gsX : ByteArray := ⟨#[120]⟩
/-- The kinds behind a taking of the first words. -/
def gl1 : List Int := setL (keepL 23 [0]) 1 2
theorem wakes22_words : ∃ d1 : Dk, (Dk.new 32).Ok ∧ d1.Ok ∧ newG (Dk.new 32) [0] = (some (keepL 23 [0]), 0) ∧ takeL (keepL 23 [0]) = (gl1, 1, 0) ∧ (Dk.new 32).logs = 7 ∧ pwrite (Dk.new 32) gl1 9 1 5 gsA = (d1, 0) ∧ pread d1 23 9 1 = (gsA, 0) ∧ (ofK gl1 0).length = 21 ∧ pwrite d1 gl1 9 0 5 gsX = (d1, 1) := by
  have hlg : (Dk.new 32).logs = 7 := by decide
  have hc : PgCalm 32 7 gl1 (Dk.new 32) := ⟨calm_new (by decide) (by decide), by decide⟩
  obtain ⟨h1, h2⟩ := hc.write (i := 1) (num := 5) (s := gsA) (by decide) (by decide) (by decide)
  refine ⟨_, hc.c.ok, h2.c.ok, ?_, by decide, hlg, h1, ?_, by decide, pwrite_no (by decide)⟩
  · unfold newG
    rw [if_neg (by decide), hlg]
    rfl
  · exact h2.read_put (i := 1) (num := 5) (by decide) (by decide) (by decide) (by rw [tell_put, if_pos rfl]) (by decide)
end Go.Proofs.YtdbiebnnogjccaaGreatDoor

/- Pages (layer 22): wakes; nil pagers. -/
namespace Go.Proofs.YtdbiebnnogjccaaGreatDoor
open Go.RowKit
/-- A new disk, and pages on it. -/
theorem bel_g {w0 w w' : World} {S : Nat → Prop} (hb : Below w0.heap.size w0 w) (hf : Fr S w w') (hS : ∀ b, S b → w0.heap.size ≤ b) : Below w0.heap.size w0 w' := bel_G hb hf hS
theorem slIl_one {w : World} {x : Int} {G : Nat} {t : TypeId} (h : w.heap[G]? = some (.cells #[.int .i64 x] t (0, 0))) : SlIl w (.slice (some ⟨G, 0, none⟩) 1 1) [x] :=
  .inr ⟨G, 0, 1, rfl, Nat.le_refl _, ⟨fun _ => blk_lt h, fun i hi => by
    have e : i = 0 := by simpa using hi
    subst e
    rw [blk_cell h]; rfl⟩⟩
set_option maxRecDepth 20000 in
set_option maxHeartbeats 4000000 in
theorem wakes22 (w : World) (hw : PgW w) : Calls Tryz.prog 40 #[] w fun e w' => e = .returned (.bool true) ∧ Below w.heap.size w w' := by
  have HW := Lib.hid hw
  obtain ⟨d1, o0, o1, n1, t1, lg1, w1e, r1, lf, w2e⟩ := wakes22_words
  have NW := Lib.hid (disk_New 32 (by decide) (by decide) w)
  obtain ⟨d0, hd0⟩ : ∃ d, d = Dk.new 32 := ⟨_, rfl⟩
  have dn : d0.n = 32 := by rw [hd0]; rfl
  rw [← hd0] at o0 n1 lg1 w1e NW
  have PN := Lib.hid (fun v g mb cb W k1 k3 => pager_New v [0] (by decide) g mb cb d0 W k1 o0 k3)
  rw [n1] at PN
  unfold NewG at PN
  dsimp only at PN
  rw [lg1, dn] at PN
  have GL : Hid (gl1.length = 23) := by show _ = _; decide
  have LF := Lib.hid (fun S p d W k => pager_Left (S := S) (p := p) (n := 32) (lg := 7) (l := gl1) (d := d) W k)
  rw [lf] at LF
  rw [show ((21 : Nat) : Int) = 21 from rfl] at LF
  have TK := Lib.hid (fun S p W k => pager_Take (S := S) (p := p) (n := 32) (lg := 7) (l := keepL 23 [0]) (d := d0) W k)
  rw [t1] at TK
  unfold TakeP at TK
  dsimp only at TK
  have W1 := Lib.hid (fun S p W k1 k2 k3 => pager_Write (S := S) (p := p) (n := 32) (lg := 7) (l := gl1) (d := d0) 1 (by decide) 5 (by decide) (by decide) gsA w W HW.out k1 k2 k3)
  rw [show (2 + ((7 : Nat) : Int)) = 9 from rfl, w1e] at W1
  have RD := Lib.hid (fun S p W k1 k2 => pager_Read (S := S) (p := p) (n := 32) (lg := 7) (l := gl1) (d := d1) 1 W k1 k2)
  rw [show (2 + ((7 : Nat) : Int)) = 9 from rfl, GL.out, r1] at RD
  have W2 := Lib.hid (fun S p W k1 k2 k3 => pager_Write (S := S) (p := p) (n := 32) (lg := 7) (l := gl1) (d := d1) 0 (by decide) 5 (by decide) (by decide) gsX w W HW.out k1 k2 k3)
  rw [show (2 + ((7 : Nat) : Int)) = 9 from rfl, w2e] at W2
  unfold gsA at W1 RD
  unfold gsX at W2
  obtain ⟨g, hg⟩ : ∃ g, g = w.heap.size + 2 := ⟨_, rfl⟩
  obtain ⟨cb, hcb⟩ : ∃ cb, cb = w.heap.size + 1 := ⟨_, rfl⟩
  obtain ⟨mb, hmb⟩ : ∃ mb, mb = w.heap.size := ⟨_, rfl⟩
  rw [← hg, ← hcb] at NW
  have NW' : Hid (Calls Tryz.prog 11 #[.int .i64 32] w fun e w' => e = .returned (.tuple #[.pointer (some ⟨g, 0, none⟩), .int .i64 0]) ∧ DiskAt w' g mb cb 0 (.slice none 0 0) d0 ∧ Below w.heap.size w w') := by rw [hmb]; exact NW.out
  have LD : Hid (∀ x, DkS g mb cb x → w.heap.size ≤ x) := by rintro x (h | h | h) <;> omega
  clear hw o0 o1 n1 t1 lg1 w1e r1 lf w2e hd0 dn NW hg hcb hmb
  go_enter Tryz.func40, Tryz.ntmps40
  go_wp2_with fail
  refine NW'.out.mono ?_; rintro e w1 ⟨rfl, hd, hb⟩
  have D1 : Hid (DiskAt w1 g mb cb 4096 (.slice none 0 0) d0) := ⟨hd.blk, hd.hm.mono (by omega), hd.hc.mono (by omega), hd.hk, hd.n0, hd.n1, hd.gm, hd.gc, hd.mc, hd.kn⟩
  have B1 := Lib.hid hb
  clear hd hb NW'
  go_wp2_with fail
  refine (PN.out _ _ _ _ _ (D1.out.below (below_a1 _ _)) (slIl_one (blk_new _ _))).mono ?_; rintro e w2 ⟨hb, p, pm, rfl, hc, hp, hm⟩
  obtain ⟨S, hS⟩ : ∃ S, S = PgS p pm g mb cb := ⟨_, rfl⟩
  have P2 : Hid (PgAt w2 S p 32 7 (keepL 23 [0]) d0) := by rw [hS]; exact hc.at
  have B2 := Lib.hid (bstep (bstep B1.out (below_a1 _ _)) hb)
  have SB : Hid (∀ b, S b → w.heap.size ≤ b) := by
    have s1 := B1.out.size
    rw [hS]
    rintro b (hb | rfl | rfl)
    · exact LD.out b hb
    · simp at hp; omega
    · simp at hm; omega
  clear hb hc hp hm hS D1 PN
  go_wp2_with fail
  refine (TK.out _ _ _ P2.out).mono ?_; rintro e w3 ⟨rfl, hP, hF⟩
  have P3 := Lib.hid hP
  have B3 := Lib.hid (bel_G B2.out hF SB.out)
  clear hP hF TK
  go_wp2_with fail
  refine (W1.out _ _ _ B3.out SB.out P3.out).mono ?_; rintro e w4 ⟨rfl, hP, hF⟩
  have P4 := Lib.hid hP
  have B4 := Lib.hid (bel_G B3.out hF SB.out)
  clear hP hF W1
  go_wp2_with fail
  refine (RD.out _ _ _ (HW.out.below B4.out) P4.out).mono ?_; rintro e w5 ⟨rfl, hb⟩
  have P5 := Lib.hid (P4.out.below hb)
  have B5 := Lib.hid (bstep B4.out hb)
  clear hb RD
  go_wp2_with fail
  refine (LF.out _ _ _ _ P5.out).mono ?_; rintro e w6 ⟨rfl, k, hk⟩
  have B6' : Below w5.heap.size w5 w6 := by rw [hk]; exact below_dN _ _
  have P6 := Lib.hid (P5.out.below B6')
  have B6 := Lib.hid (bstep B5.out B6')
  clear hk B6' LF
  go_wp2_with fail
  refine (W2.out _ _ _ B6.out SB.out P6.out).mono ?_; rintro e w7 ⟨rfl, hP, hF⟩
  have B7 := Lib.hid (bel_G B6.out hF SB.out)
  clear hP hF W2
  go_wp2_with fail
  go_ret
  exact ⟨rfl, B7.out⟩
set_option maxHeartbeats 1000000 in
theorem pnil_Take  (w : World) : Calls Tryz.prog 41 #[.pointer none] w fun e w' => e = .returned (.tuple #[.int .i64 0, .int .i64 1]) ∧ w = w' := by
  go_enter Tryz.func41, Tryz.ntmps41
  go_wp2_with fail
  go_ret2
  exact ⟨rfl, rfl⟩
set_option maxHeartbeats 1000000 in
theorem pnil_Give (i : Int) (w : World) : Calls Tryz.prog 45 #[.pointer none, .int .i64 i] w fun e w' => e = .returned (.int .i64 1) ∧ w = w' := by
  go_enter Tryz.func45, Tryz.ntmps45
  go_wp2_with fail
  go_ret
  exact ⟨rfl, rfl⟩
set_option maxHeartbeats 1000000 in
theorem pnil_Drop  (w : World) : Calls Tryz.prog 46 #[.pointer none] w fun e w' => e = .returned (.tuple #[]) ∧ w = w' := by
  go_enter Tryz.func46, Tryz.ntmps46
  go_wp2_with fail
  go_end0
  exact ⟨rfl, rfl⟩
set_option maxHeartbeats 1000000 in
theorem pnil_Left  (w : World) : Calls Tryz.prog 51 #[.pointer none] w fun e w' => e = .returned (.int .i64 0) ∧ w = w' := by
  go_enter Tryz.func51, Tryz.ntmps51
  go_wp2_with fail
  go_ret
  exact ⟨rfl, rfl⟩
set_option maxHeartbeats 1000000 in
theorem pnil_Keep (v : Value) (w : World) : Calls Tryz.prog 43 #[.pointer none, v] w fun e w' => e = .returned (.int .i64 1) ∧ Below w.heap.size w w' := by
  go_enter Tryz.func43, Tryz.ntmps43
  go_wp2_with fail
  go_ret
  exact ⟨rfl, below_a1 _ _⟩
set_option maxHeartbeats 1000000 in
theorem pnil_of (c : Int) (w : World) : Calls Tryz.prog 109 #[.pointer none, .int .i64 c] w fun e w' => e = .returned (.slice none 0 0) ∧ w = w' := by
  go_enter Tryz.func109, Tryz.ntmps109
  go_wp2_with fail
  go_ret
  exact ⟨rfl, rfl⟩
set_option maxHeartbeats 1000000 in
theorem pnil_Live (w : World) : Calls Tryz.prog 49 #[.pointer none] w fun e w' => e = .returned (.slice none 0 0) ∧ w = w' := by
  go_enter Tryz.func49, Tryz.ntmps49
  go_wp2_with fail
  refine (pnil_of 1 _).mono ?_; rintro e w1 ⟨rfl, rfl⟩
  go_wp2_with fail
  go_ret
  exact ⟨rfl, rfl⟩
set_option maxHeartbeats 1000000 in
theorem pnil_Fresh (w : World) : Calls Tryz.prog 50 #[.pointer none] w fun e w' => e = .returned (.slice none 0 0) ∧ w = w' := by
  go_enter Tryz.func50, Tryz.ntmps50
  go_wp2_with fail
  refine (pnil_of 2 _).mono ?_; rintro e w1 ⟨rfl, rfl⟩
  go_wp2_with fail
  go_ret
  exact ⟨rfl, rfl⟩
theorem arg_errG {w : World} (hw : PgW w) : ∃ pA pF pL pD, PgE w pA pF pL pD := by
  obtain ⟨a0, a1, a2, aD, aA, pA, pF, pL, pD, _, h⟩ := hw; exact ⟨pA, pF, pL, pD, h⟩
set_option maxHeartbeats 2000000 in
theorem pnil_Write (i num : Int) (s : ByteArray) (w : World) (hw : PgW w) : Calls Tryz.prog 42 #[.pointer none, .int .i64 i, .int .u32 num, .string s] w fun e w' => e = .returned (.int .i64 1) ∧ Below w.heap.size w w' := by
  have HW := Lib.hid hw
  obtain ⟨pA, pF, pL, pD, he⟩ := arg_errG hw
  have W1 : Hid (Calls Tryz.prog 102 #[.pointer none, .int .i64 i, .int .u32 num, .string s] w fun e w' => e = .returned (.iface 308 (.pointer (some pA))) ∧ w = w') := by
    have vA := he.vA
    clear hw he
    show Calls _ _ _ _ _
    go_enter Tryz.func102, Tryz.ntmps102
    go_wp2_with fail
    go_ret
    exact ⟨rfl, rfl⟩
  have TD := Lib.hid (pager_told 1 (.iface 308 (.pointer (some pA))) w hw (.inr (.inl ⟨pA, pF, pL, pD, he, .inl rfl, rfl⟩)))
  clear hw he
  go_enter Tryz.func42, Tryz.ntmps42
  go_wp2_with fail
  refine W1.out.mono ?_; rintro e w1 ⟨rfl, rfl⟩
  go_wp2_with fail
  refine TD.out.mono ?_; rintro e w1 ⟨rfl, hb⟩
  have B1 := Lib.hid hb
  clear hb
  go_wp2_with fail
  go_ret
  exact ⟨rfl, B1.out⟩
set_option maxHeartbeats 2000000 in
theorem pnil_Read (i : Int) (w : World) (hw : PgW w) : Calls Tryz.prog 47 #[.pointer none, .int .i64 i] w fun e w' => e = .returned (.tuple #[.string ⟨#[]⟩, .int .i64 1]) ∧ Below w.heap.size w w' := by
  have HW := Lib.hid hw
  obtain ⟨pA, pF, pL, pD, he⟩ := arg_errG hw
  have W1 : Hid (Calls Tryz.prog 108 #[.pointer none, .int .i64 i] w fun e w' => e = .returned (.tuple #[.string ⟨#[]⟩, .iface 308 (.pointer (some pA))]) ∧ ∃ k, w' = w.drewN k) := by
    have vA := he.vA
    clear hw he
    show Calls _ _ _ _ _
    go_enter Tryz.func108, Tryz.ntmps108
    go_wp2_with fail
    go_quiet (fail)
    go_wp2_with fail
    go_ret2
    exact ⟨rfl, _, rfl⟩
  have TD := Lib.hid (fun k => pager_told 1 (.iface 308 (.pointer (some pA))) (w.drewN k) (hw.below (below_dN w k)) (.inr (.inl ⟨pA, pF, pL, pD, he.below (below_dN w k), .inl rfl, rfl⟩)))
  clear hw he
  go_enter Tryz.func47, Tryz.ntmps47
  go_wp2_with fail
  refine W1.out.mono ?_; rintro e w1 ⟨rfl, k, rfl⟩
  go_wp2_with fail
  refine (TD.out k).mono ?_; rintro e w1 ⟨rfl, hb⟩
  have B1 := Lib.hid (bstep (below_dN w k) hb)
  clear hb
  go_wp2_with fail
  go_ret2
  exact ⟨rfl, B1.out⟩
end Go.Proofs.YtdbiebnnogjccaaGreatDoor
