/- The log (layer 21): the reference's Append, Sync, Left, Empty. -/
import Derived.Test.YtdbiebnnogjccaaGreatDoorWz
import Derived.Test.YtdbiebnnogjccaaGreatDoorWx
import Derived.Test.YtdbiebnnogjccaaGreatDoorFq
import Derived.Test.YtdbiebnnogjccaaGreatDoorFd
import Derived.Test.YtdbiebnnogjccaaGreatDoorDu
import Derived.Test.YtdbiebnnogjccaaGreatDoorDz
import Derived.BigQuiet
import Derived.Test.YtdbiebnnogjccaaGreatDoorWw
import Derived.Test.YtdbiebnnogjccaaGreatDoorWd
import Derived.Test.YtdbiebnnogjccaaGreatDoorWe
import Derived.Test.YtdbiebnnogjccaaGreatDoorDx
namespace Go.Proofs.YtdbiebnnogjccaaGreatDoor
open Go.RowKit
/-- The reference's log and its disk. -/
structure RlQ (w : World) (y q sb cb c1 c2 nn : Nat) (kr vr : Value) (n : Int) (lg : Nat) (x : Wl) (d : Dk) : Prop where
  log : RlAt w y q n lg vr x
  dsk : RefAny w q sb cb c1 c2 nn kr d
  ok : d.Ok
  dn : d.n = n
  nl : (lg : Int) = (n - 2) / 4
  n32 : 32 ≤ n
  yS : ¬ RfS q sb cb y
  vS : ∀ b off m c, vr = .slice (some ⟨b, off, none⟩) m c → m ≠ 0 → ¬ RfS q sb cb b ∧ b ≠ y
  kN : d.keep ≠ [] → ∀ b off m c, kr = .slice (some ⟨b, off, none⟩) m c → b ≠ y
theorem SlStrs.frN {S : Nat → Prop} {w w' : World} {v : Value} {l : List ByteArray} (h : SlStrs w v l) (hf : Fr S w w') (hs : ∀ b off m c, v = .slice (some ⟨b, off, none⟩) m c → m ≠ 0 → ¬ S b) : SlStrs w' v l := by
  rcases h with h | ⟨b, off, cap, e, hc, h⟩
  · exact .inl h
  · refine .inr ⟨b, off, cap, e, hc, h.fr hf fun hne => hs _ _ _ _ e (fun h0 => hne (List.eq_nil_of_length_eq_zero h0))⟩
theorem RefAny.blk {w : World} {q sb cb c1 c2 n : Nat} {kv : Value} {d : Dk} (h : RefAny w q sb cb c1 c2 n kv d) : ∀ b, RfS q sb cb b → b < w.heap.size := by
  obtain ⟨rn, h⟩ := h
  rintro x (rfl | rfl | rfl)
  · exact blk_lt h.blk
  · exact h.s.lt
  · exact h.c.lt
theorem RefAny.frK {S : Nat → Prop} {w w' : World} {q sb cb c1 c2 n : Nat} {kv : Value} {d : Dk} (h : RefAny w q sb cb c1 c2 n kv d) (hf : Fr S w w') (h1 : ∀ b, RfS q sb cb b → ¬ S b) (h4 : d.keep ≠ [] → ∀ b off n c, kv = .slice (some ⟨b, off, none⟩) n c → ¬ S b) : RefAny w' q sb cb c1 c2 n kv d := by
  obtain ⟨rn, h⟩ := h
  exact ⟨rn, blk_fr h.blk hf (h1 _ (.inl rfl)), h.s.fr hf (h1 _ (.inr (.inl rfl))), h.c.fr hf (h1 _ (.inr (.inr rfl))), h.hn, h.hr, h.hk.fr' hf h4, h.qs, h.qc, h.sc, h.kn⟩
section
variable {w w' : World} {y q sb cb c1 c2 nn : Nat} {kr vr : Value} {n : Int} {lg : Nat} {x : Wl} {d : Dk}
theorem RlAt.below (h : RlAt w y q n lg vr x) (hb : Below w.heap.size w w') : RlAt w' y q n lg vr x := ⟨blk_below h.blk hb, h.recs.below hb, h.x0, h.x1, h.us, h.rl, h.l1⟩
theorem RlQ.below (h : RlQ w y q sb cb c1 c2 nn kr vr n lg x d) (hb : Below w.heap.size w w') : RlQ w' y q sb cb c1 c2 nn kr vr n lg x d :=
  ⟨h.log.below hb, h.dsk.below hb, h.ok, h.dn, h.nl, h.n32, h.yS, h.vS, h.kN⟩
/-- The disk is written. -/
theorem RlQ.wrote {d' : Dk} (h : RlQ w y q sb cb c1 c2 nn kr vr n lg x d) (hd : RefAny w' q sb cb c1 c2 nn kr d') (hf : Fr (RfS q sb cb) w w') (ok : d'.Ok) (hn : d'.n = d.n) (hk : d'.keep = d.keep) : RlQ w' y q sb cb c1 c2 nn kr vr n lg x d' :=
  ⟨⟨blk_fr h.log.blk hf h.yS, h.log.recs.frN hf (fun b off m c e hm => (h.vS b off m c e hm).1), h.log.x0, h.log.x1, h.log.us, h.log.rl, h.log.l1⟩, hd, ok, hn.trans h.dn, h.nl, h.n32, h.yS, h.vS, fun k => h.kN (by rw [← hk]; exact k)⟩
/-- The log's struct is written. -/
theorem RlQ.set {x' : Wl} (h : RlQ w y q sb cb c1 c2 nn kr vr n lg x d) (o : Nat) (v : Value) (he : (rlCells q n lg vr x).setIfInBounds o v = rlCells q n lg vr x') (hr : x'.recs = x.recs) (x0 : 1 ≤ x'.next) (x1 : x'.next ≤ 2147483649) (us : x'.used ≤ lg) (ul : x'.recs.length ≤ x'.used) : RlQ (w.setCell ⟨y, o, none⟩ v) y q sb cb c1 c2 nn kr vr n lg x' d := by
  have hf := fr_set (S := fun b => b = y) (w := w) rfl o v
  refine ⟨⟨by rw [blk_set h.log.blk, he], by rw [hr]; exact h.log.recs.frN hf (fun b off m c e hm => (h.vS b off m c e hm).2), x0, x1, us, ul, h.log.l1⟩, h.dsk.frK hf (fun b hb e => h.yS (e ▸ hb)) (fun k b off n c e => h.kN k b off n c e), h.ok, h.dn, h.nl, h.n32, h.yS, h.vS, h.kN⟩
theorem write_keep (d : Dk) (i : Int) (s : ByteArray) : (d.write i s).1.keep = d.keep := by
  unfold Dk.write
  split
  · rfl
  · split
    · rfl
    · split
      · show (((d.put i s).tick).crash d.keep).keep = _; unfold Dk.crash Dk.tick; split <;> split <;> rfl
      · show ((d.put i s).tick).keep = _; unfold Dk.tick; split <;> rfl
theorem flush_keep (d : Dk) : d.flush.1.keep = d.keep := by
  unfold Dk.flush
  split
  · rfl
  · split
    · show (d.tick.crash d.keep).keep = _; unfold Dk.crash Dk.tick; split <;> split <;> rfl
    · show d.tick.keep = _; unfold Dk.tick; split <;> rfl
/-- The reference's blocks that are written. -/
def RlS (q sb cb y : Nat) (b : Nat) : Prop := RfS q sb cb b ∨ b = y
set_option maxHeartbeats 1000000 in
theorem ref21_Left (w : World) (h : RlAt w y q n lg vr x) : Calls Tryz.prog 86 #[.pointer (some ⟨y, 0, none⟩)] w fun e w' => e = .returned (.int .i64 ((lg : Int) - (x.used : Int))) ∧ ∃ k, w' = w.drewN k := by
  have hc := blk_cell h.blk
  have us := h.us
  have l1 := h.l1
  unfold rlCells at hc
  clear h
  go_enter Tryz.func86, Tryz.ntmps86
  go_wp2_with fail
  go_quiet (fail)
  go_wp2_with fail
  go_ret
  refine ⟨?_, _, rfl⟩
  first | rfl | (congr 2; rw [IntWalk.i64_in _ (by omega)])
set_option maxHeartbeats 2000000 in
theorem ref21_Sync (w : World) (h : RlQ w y q sb cb c1 c2 nn kr vr n lg x d) :
    Calls Tryz.prog 26 #[.pointer (some ⟨y, 0, none⟩)] w fun e w' => e = .returned (.int .i64 (d.sync x).2.2) ∧ RlQ w' y q sb cb c1 c2 nn kr vr n lg (d.sync x).2.1 (d.sync x).1 ∧ Fr (RlS q sb cb y) w w' := by
  have FL := Lib.hid (ref_Flush q sb cb c1 c2 nn kr d h.ok w h.dsk)
  have H := Lib.hid h
  have hc := blk_cell h.log.blk
  unfold rlCells at hc
  have ok2 := h.ok.flush
  have hk2 := flush_keep d
  clear h
  cases hd : x.dead with
  | true =>
    rw [hd] at hc
    rw [show d.sync x = (d, x, 74) by unfold Dk.sync; rw [if_pos hd]]
    clear hd ok2
    go_enter Tryz.func26, Tryz.ntmps26
    go_wp2_with fail
    go_ret
    exact ⟨rfl, H.out, Fr.refl _ _⟩
  | false =>
    rw [hd] at hc
    rw [show d.sync x = (d.flush.1, { x with dead := decide (d.flush.2 ≠ 0) }, d.flush.2) by unfold Dk.sync; rw [if_neg (by rw [hd]; decide)]]
    have hn2 := flush_nW d
    obtain ⟨d2, c, hF⟩ : ∃ d2 c, d.flush = (d2, c) := ⟨_, _, rfl⟩
    rw [hF] at FL ok2 hn2 hk2 ⊢
    dsimp only at FL ok2 hn2 hk2 ⊢
    have OK2 := Lib.hid ok2
    have HN2 := Lib.hid hn2
    have HK2 := Lib.hid hk2
    have XD := Lib.hid hd
    clear hd hF ok2 hn2 hk2
    by_cases hcc : c = 0
    · subst hcc
      have ex : ({ x with dead := decide ((0 : Int) ≠ 0) } : Wl) = x := by
        obtain ⟨a1, a2, a3, a4⟩ := x
        have := XD.out
        simp only at this
        subst this
        rfl
      rw [ex]
      go_enter Tryz.func26, Tryz.ntmps26
      go_wp2_with fail
      refine FL.out.mono ?_; rintro e w1 ⟨rfl, hd, hf⟩
      have W1 := Lib.hid (H.out.wrote hd hf OK2.out HN2.out HK2.out)
      have F1 := Lib.hid hf
      clear hd hf hc
      go_wp2_with fail
      go_ret
      exact ⟨rfl, W1.out, F1.out.mono (fun _ h => .inl h)⟩
    · have q1 : (c != 0) = true := by rw [bne_iff_ne]; exact hcc
      rw [show decide (c ≠ 0) = true from decide_eq_true hcc]
      clear hcc
      go_enter Tryz.func26, Tryz.ntmps26
      go_wp2_with fail
      refine FL.out.mono ?_; rintro e w1 ⟨rfl, hd, hf⟩
      have W1 := Lib.hid (H.out.wrote hd hf OK2.out HN2.out HK2.out)
      have F1 := Lib.hid hf
      clear hd hf hc
      have hc1 := blk_cell W1.out.log.blk
      have hf1 := blk_frozen W1.out.log.blk
      unfold rlCells at hc1
      have W2 := Lib.hid (W1.out.set (x' := { x with dead := true }) 8 (.bool true) (by simp [rlCells]) rfl W1.out.log.x0 W1.out.log.x1 W1.out.log.us W1.out.log.rl)
      have F2 : Hid (Fr (RlS q sb cb y) w (w1.setCell ⟨y, 8, none⟩ (.bool true))) := (F1.out.mono (fun _ h => .inl h)).trans (fr_set (S := RlS q sb cb y) (.inr rfl) _ _)
      go_wp2_with fail
      go_ret
      exact ⟨rfl, W2.out, F2.out⟩
set_option maxHeartbeats 1000000 in
theorem ref21_Empty (w : World) (h : RlQ w y q sb cb c1 c2 nn kr vr n lg x d) :
    Calls Tryz.prog 32 #[.pointer (some ⟨y, 0, none⟩)] w fun e w' => e = .returned (.tuple #[]) ∧ RlQ w' y q sb cb c1 c2 nn kr (.slice none 0 0) n lg ⟨[], x.next, 0, x.dead⟩ d ∧ Fr (RlS q sb cb y) w w' := by
  have H := Lib.hid h
  have hc := blk_cell h.log.blk
  have hfz := blk_frozen h.log.blk
  unfold rlCells at hc
  have hf : Fr (fun b => b = y) w ((w.setCell ⟨y, 1, none⟩ (.slice none 0 0)).setCell ⟨y, 7, none⟩ (.int .i64 0)) := (fr_set (S := fun b => b = y) rfl _ _).trans (fr_set (S := fun b => b = y) rfl _ _)
  have R2 : Hid (RlQ ((w.setCell ⟨y, 1, none⟩ (.slice none 0 0)).setCell ⟨y, 7, none⟩ (.int .i64 0)) y q sb cb c1 c2 nn kr (.slice none 0 0) n lg ⟨[], x.next, 0, x.dead⟩ d) := by
    refine ⟨⟨?_, .inl ⟨rfl, rfl⟩, h.log.x0, h.log.x1, Nat.zero_le _, Nat.zero_le _, h.log.l1⟩, h.dsk.frK hf (fun b hb e => h.yS (e ▸ hb)) (fun k b off n c e => h.kN k b off n c e), h.ok, h.dn, h.nl, h.n32, h.yS, (fun b off m c e => by cases e), h.kN⟩
    rw [blk_set (blk_set h.log.blk _ _)]
    simp [rlCells]
  have F2 := Lib.hid (hf.mono (T := RlS q sb cb y) (fun _ h => .inr h))
  clear h hf
  go_enter Tryz.func32, Tryz.ntmps32
  go_wp2_with fail
  go_end0
  exact ⟨rfl, R2.out, F2.out⟩
end
end Go.Proofs.YtdbiebnnogjccaaGreatDoor

/- Disks (layer 19): DiskLast. -/
namespace Go.Proofs.YtdbiebnnogjccaaGreatDoor
open Go.RowKit
theorem b8 (b : Int) (h0 : 0 ≤ b) (h1 : b < 256) : ∃ r : Nat, r < 8 ∧ b % 8 = (r : Int) ∧ b.tmod 8 = (r : Int) := by
  refine ⟨(b % 8).toNat, by omega, by omega, ?_⟩
  rw [Int.tmod_eq_emod_of_nonneg h0]; have := h1; omega
theorem DiskAt.setOther {w : World} {g mb cb k q : Nat} {d : Dk} (h : DiskAt w g mb cb k (.slice none 0 0) d) (h1 : q ≠ g) (h2 : q ≠ mb) (h3 : q ≠ cb) (o : Nat) (v : Value) : DiskAt (w.setCell ⟨q, o, none⟩ v) g mb cb k (.slice none 0 0) d :=
  h.fr (fr_set (S := fun x => x = q) (g := q) rfl o v) h1.symm h2.symm h3.symm (fun b off n c e => by cases e)
theorem ifs_step {i : Nat} {A B : ByteArray} : (upd8 (fun j => if j < i then A else B) i A) = fun j => if j < i + 1 then A else B := by
  funext j
  unfold upd8
  by_cases h : j = i
  · subst h; simp
  · by_cases h2 : j < i
    · rw [if_neg h]; dsimp only; rw [if_pos h2, if_pos (by omega)]
    · rw [if_neg h]; dsimp only; rw [if_neg h2, if_neg (by omega)]
theorem set_far {W : World} {b q o o' : Nat} {u : Option Value} (h : W.cell? ⟨b, o, none⟩ = u) (hne : b ≠ q) (v : Value) : (W.setCell ⟨q, o', none⟩ v).cell? ⟨b, o, none⟩ = u :=
  (World.cell?_of_block (w := W) (Below.heap_setCell W ⟨q, o', none⟩ v b hne)).trans h
theorem upd8_same (f : Nat → ByteArray) (i : Nat) (s : ByteArray) : upd8 f i s i = s := by unfold upd8; rw [if_pos rfl]
end Go.Proofs.YtdbiebnnogjccaaGreatDoor

/- Disks (layer 19): the law DiskKeeps. -/
namespace Go.Proofs.YtdbiebnnogjccaaGreatDoor
open Go.RowKit
theorem keptN_drop {l : List (Int × Int)} {i : Int} {k : Nat} (hk : k < l.length) : keptN (l.drop k) i = if l[k].1 = i then some (min (max l[k].2 0) 256).toNat else keptN (l.drop (k + 1)) i := by
  rw [List.drop_eq_getElem_cons hk]
  unfold keptN
  rw [List.find?_cons]
  by_cases h : l[k].1 = i
  · have : (l[k].1 == i) = true := by rw [beq_iff_eq]; exact h
    rw [this, if_pos h]; rfl
  · have : (l[k].1 == i) = false := by rw [beq_eq_false_iff_ne]; exact h
    rw [this, if_neg h]
/-- What is in the cache, what is durable. -/
def CaP (d : Dk) (f g : Nat → ByteArray) : Prop := ∀ j : Nat, j < 8 → d.at (j : Int) = f j ∧ (f j).size = 256 ∧ ((g j = ⟨#[]⟩ ∧ d.c (j : Int) = none) ∨ (d.c (j : Int) = some (g j) ∧ (g j).size = 256))
theorem CaP.put {d : Dk} {f g : Nat → ByteArray} (h : CaP d f g) {r : Nat} {S : ByteArray} (hS : S.size = 256) : CaP (d.put (r : Int) S) f (upd8 g r S) := fun j hj => by
  obtain ⟨h1, h2, h3⟩ := h j hj
  refine ⟨h1, h2, ?_⟩
  unfold upd8 Dk.put setF
  by_cases e : j = r
  · subst e; right; exact ⟨by simp, by rw [if_pos rfl]; exact hS⟩
  · have : ¬ (j : Int) = (r : Int) := by omega
    rw [if_neg e]
    dsimp only
    rw [if_neg this]; exact h3
theorem CaP.of_pour {d : Dk} {f : Nat → ByteArray} (h : ∀ j : Nat, j < 8 → d.tell (j : Int) = f j ∧ (f j).size = 256) : CaP d.pour f (fun _ => ⟨#[]⟩) := fun j hj =>
  ⟨by rw [pour_at]; exact (h j hj).1, (h j hj).2, .inl ⟨rfl, rfl⟩⟩
theorem start_at (d : Dk) (i : Int) : d.start.at i = d.at i := rfl
theorem crash_tell {d : Dk} (h : d.dead = false) (l : List (Int × Int)) (i : Int) : (d.crash l).start.tell i = d.fat l i := by
  unfold Dk.tell
  rw [start_at, crash_at h]
  unfold Dk.crash; rw [if_neg (by rw [h]; decide)]; rfl
end Go.Proofs.YtdbiebnnogjccaaGreatDoor

/- The log (layer 21): plain words of a whole disk: what is appended, what a crash leaves, what is opened. -/
namespace Go.Proofs.YtdbiebnnogjccaaGreatDoor
theorem logs_of {d : Dk} {n : Int} {lg : Nat} (h : d.n = n) (h0 : 32 ≤ n) (h1 : n ≤ 4096) (hl : (lg : Int) = (n - 2) / 4) : d.logs = lg := by
  unfold Dk.logs
  rw [h, lay_log h0 h1 hl]
  simp
theorem writes_calm {n : Int} : ∀ (L : List ByteArray) (d : Dk) (i : Int), d.Calm n → (∀ b ∈ L, b.size = 256) → 0 ≤ i → i + L.length ≤ n → ∃ d', d.writes i L = (d', 0) ∧ d'.Calm n ∧ d'.m = d.m ∧ ∀ j, d'.c j = if i ≤ j ∧ j < i + L.length then L[(j - i).toNat]? else d.c j
  | [], d, i, h, _, _, _ => ⟨d, rfl, h, rfl, fun j => by rw [if_neg (by simp)]⟩
  | s :: L, d, i, h, hs, h0, h1 => by
    rw [List.length_cons] at h1
    have hw := h.write (i := i) (s := s) ⟨h0, by omega⟩ (hs s (List.mem_cons_self ..))
    have hp := h.put (i := i) (s := s) ⟨h0, by omega⟩ (hs s (List.mem_cons_self ..))
    obtain ⟨d', e1, e2, e3, e4⟩ := writes_calm L (d.put i s) (i + 1) hp (fun b hb => hs b (List.mem_cons_of_mem _ hb)) (by omega) (by omega)
    refine ⟨d', ?_, e2, e3, fun j => ?_⟩
    · rw [writes_cons (by rw [hw]), hw]; exact e1
    · rw [e4, List.length_cons]
      by_cases c : i + 1 ≤ j ∧ j < i + 1 + L.length
      · rw [if_pos c, if_pos (by omega)]
        have e : (j - i).toNat = (j - (i + 1)).toNat + 1 := by omega
        rw [e, List.getElem?_cons_succ]
      · rw [if_neg c]
        by_cases c2 : j = i
        · subst c2
          rw [if_pos (by omega)]
          have e : (j - j).toNat = 0 := by omega
          rw [e]
          unfold Dk.put setF; simp
        · rw [if_neg (by omega)]
          unfold Dk.put setF; simp [c2]
/-- The sectors of the log behind the writing of some. -/
theorem secs_writes {d d' : Dk} {u : Nat} {L : List ByteArray} (hn : d'.n = d.n) (hm : d'.m = d.m) (hc : ∀ j, d'.c j = if 2 + (u : Int) ≤ j ∧ j < 2 + (u : Int) + L.length then L[(j - (2 + (u : Int))).toNat]? else d.c j) (hu : u + L.length ≤ d.logs) :
    d'.secs = d.secs.take u ++ (L ++ d.secs.drop (u + L.length)) := by
  have hlg : d'.logs = d.logs := by unfold Dk.logs; rw [hn]
  have l1 : d.secs.length = d.logs := secs_length d
  have l2 : d'.secs.length = d.logs := (secs_length d').trans hlg
  have tl : (d.secs.take u).length = u := by rw [List.length_take, l1]; omega
  refine List.ext_getElem (by simp only [List.length_append, List.length_drop, tl, l1, l2]; omega) fun i h1 h2 => ?_
  rw [secs_get]
  have hat : ∀ j, d'.at j = d.at j := fun j => by unfold Dk.at; rw [hm]
  rw [l2] at h1
  by_cases c1 : i < u
  · rw [List.getElem_append_left (by rw [tl]; exact c1), List.getElem_take, secs_get]
    unfold Dk.tell
    rw [hc, if_neg (by omega), hat]
  · rw [List.getElem_append_right (by rw [tl]; omega)]
    by_cases c2 : i - u < L.length
    · rw [List.getElem_append_left (by rw [tl]; exact c2)]
      unfold Dk.tell
      rw [hc, if_pos (by omega)]
      have e : (2 + (i : Int) - (2 + (u : Int))).toNat = i - u := by omega
      rw [e, List.getElem?_eq_getElem c2, Option.getD_some]
      congr 1
      rw [tl]
    · rw [List.getElem_append_right (by rw [tl]; omega), List.getElem_drop, secs_get]
      have e : u + L.length + (i - (d.secs.take u).length - L.length) = i := by rw [tl]; omega
      rw [e]
      unfold Dk.tell
      rw [hc, if_neg (by omega), hat]
theorem secsF_size (n : Int) (s : List UInt8) : ∀ b ∈ (secsF n s).map ofL, b.size = 256 := by
  intro b hb
  obtain ⟨x, hx, rfl⟩ := List.mem_map.1 hb
  obtain ⟨i, hi, rfl⟩ := List.mem_iff_getElem.1 hx
  rw [secsF_get, ofL_size]
  rw [secsF_length] at hi
  exact sec_length (allF_length s) hi
/-- An appending that goes well. -/
theorem append_calm {d : Dk} {n : Int} {x : Wl} {lg : Nat} {s : ByteArray} (h : d.Calm n) (h0 : 32 ≤ n) (h1 : n ≤ 4096) (hl : (lg : Int) = (n - 2) / 4) (hd : x.dead = false) (hs : s.size ≤ 2000) (hx : x.next ≤ 2147483648) (hf : x.used + szN s.size ≤ lg) :
    ∃ d', d.append x lg s = (d', ⟨x.recs ++ [s], x.next + 1, x.used + szN s.size, false⟩, 0) ∧ d'.Calm n ∧ d'.m = d.m ∧ (∀ j, d'.c j = if 2 + (x.used : Int) ≤ j ∧ j < 2 + (x.used : Int) + szN s.size then ((secsF x.next s.data.toList).map ofL)[(j - (2 + (x.used : Int))).toNat]? else d.c j) ∧ d'.secs = d.secs.take x.used ++ ((secsF x.next s.data.toList).map ofL ++ d.secs.drop (x.used + szN s.size)) := by
  have hlen : ((secsF x.next s.data.toList).map ofL).length = szN s.size := by rw [List.length_map, secsF_length, size_list]
  have hmay : x.may lg s = 0 := by
    unfold Wl.may
    rw [if_neg (by rw [hd]; decide), if_neg (by omega), if_neg]
    rw [sizeF_nat hs]
    omega
  obtain ⟨d', e1, e2, e3, e4⟩ := writes_calm ((secsF x.next s.data.toList).map ofL) d (2 + (x.used : Int)) h (secsF_size _ _) (by omega) (by rw [hlen]; omega)
  rw [hlen] at e4
  refine ⟨d', ?_, e2, e3, e4, ?_⟩
  · unfold Dk.append
    rw [if_neg (by rw [hmay]; decide)]
    dsimp only
    rw [e1, if_neg (fun k => k rfl)]
  · have := secs_writes (d := d) (d' := d') (u := x.used) (L := (secsF x.next s.data.toList).map ofL) (by rw [e2.n, h.n]) e3 (by rw [hlen]; exact e4) (by rw [hlen, logs_of h.n h0 h1 hl]; exact hf)
    rw [hlen] at this; exact this
theorem append_may {d : Dk} {x : Wl} {lg : Nat} {s : ByteArray} (h : x.may lg s ≠ 0) : d.append x lg s = (d, x, x.may lg s) := by unfold Dk.append; rw [if_pos h]
/-- A crash that keeps nothing of what was not flushed. -/
theorem fat_nil (d : Dk) (i : Int) : d.fat [] i = d.at i := by
  unfold Dk.fat Dk.fallen Dk.at
  cases d.c i <;> rfl
theorem calm_crashed {d : Dk} {n : Int} (h : d.Calm n) (l : List (Int × Int)) : (d.crash l).start.Calm n := by
  have e : d.crash l = { d with m := d.fallen l, c := fun _ => none, dead := true, armed := false } := by unfold Dk.crash; rw [if_neg (by rw [h.dead]; decide)]
  have ok := h.ok.crash l
  refine ⟨?_, rfl, ?_, ?_⟩
  · exact ok.start
  · rw [e]; rfl
  · rw [e]; exact h.n
theorem openW_calm {d : Dk} {n first : Int} {lg : Nat} (h : d.Calm n) (h0 : 32 ≤ n) (h1 : n ≤ 4096) (hl : (lg : Int) = (n - 2) / 4) (hf : first ≠ 0) (hm : nextW first d.secs ≤ 2147483648) : d.openW first = (some ⟨(scanW d.secs lg first 0).1, nextW first d.secs, (scanW d.secs lg first 0).2, false⟩, 0) := by
  have e2 : (layN d.n).2 = 0 := by rw [h.n, lay_log h0 h1 hl]
  unfold Dk.openW
  rw [if_neg hf, if_neg (fun k => k e2), if_neg (by rw [h.dead]; decide), if_neg (by omega), logs_of h.n h0 h1 hl]
theorem nil_ends : endA nil256 = 0 ∧ endB nil256 = 0 := by
  have e : nil256.data.toList = List.replicate 256 0 := by rw [nil256, ofL_list]
  unfold endA endB
  rw [e]
  have e1 : (List.replicate 256 (0 : UInt8)).take 4 = [0, 0, 0, 0] := by decide +kernel
  have e2 : (List.replicate 256 (0 : UInt8)).drop 252 = [0, 0, 0, 0] := by decide +kernel
  rw [e1, e2, valLE4]
  decide
theorem nextW_cons (m : Int) (b : ByteArray) (L : List ByteArray) : nextW m (b :: L) = nextW (upB m b) L := rfl
theorem nextW_nil {m : Int} (h : 1 ≤ m) : ∀ k, nextW m (List.replicate k nil256) = m
  | 0 => rfl
  | k + 1 => by
    rw [List.replicate_succ]
    show nextW (upB m nil256) _ = m
    have e : upB m nil256 = m := by unfold upB upN; rw [nil_ends.1, nil_ends.2, if_pos (by decide), if_pos (by decide)]; omega
    rw [e]; exact nextW_nil h k
theorem numF_nil : numF nil256.data.toList = 0 := by
  unfold numF
  split
  · exact nil_ends.1
  · rfl
theorem scan_nil {L : List ByteArray} {f : Nat} {m : Int} {u k : Nat} (h : L.drop u = List.replicate k nil256) : scanW L f m u = ([], u) := by
  refine scanW_none ?_
  rw [h]
  cases k with
  | zero => rfl
  | succ k => rw [List.replicate_succ]; exact readF_nonum numF_nil
theorem secs_new (n : Int) : (Dk.new n).secs = List.replicate (Dk.new n).logs nil256 := by
  refine List.ext_getElem (by rw [secs_length, List.length_replicate]) fun i h1 h2 => ?_
  rw [secs_get, List.getElem_replicate]; rfl
theorem open_new {n first : Int} {lg : Nat} (h0 : 32 ≤ n) (h1 : n ≤ 4096) (hl : (lg : Int) = (n - 2) / 4) (f0 : 1 ≤ first) (f1 : first ≤ 2147483648) : (Dk.new n).openW first = (some ⟨[], first, 0, false⟩, 0) := by
  have hs := secs_new n
  have hn : nextW first (Dk.new n).secs = first := by rw [hs]; exact nextW_nil f0 _
  rw [openW_calm (calm_new (by omega) h1) h0 h1 hl (by omega) (by rw [hn]; exact f1), hn, scan_nil (k := (Dk.new n).logs) (by rw [List.drop_zero, hs])]
theorem secs_tell {d d' : Dk} (hn : d'.n = d.n) (h : ∀ i, d'.tell i = d.tell i) : d'.secs = d.secs := by
  have hlg : d'.logs = d.logs := by unfold Dk.logs; rw [hn]
  unfold Dk.secs
  rw [hlg]
  exact List.map_congr_left fun i _ => h _
theorem sync_calm {d : Dk} {n : Int} {x : Wl} (h : d.Calm n) (hd : x.dead = false) : d.sync x = (d.pour, x, 0) := by
  unfold Dk.sync
  rw [if_neg (by rw [hd]; decide), h.flush]
  dsimp only
  congr 2
  cases x; simp_all
def wsA : ByteArray := ⟨#[97]⟩
def wsB : ByteArray := ⟨#[98]⟩
theorem wakes21_words : ∃ d1 d3 : Dk, (Dk.new 64).Calm 64 ∧ d1.Calm 64 ∧ d3.Calm 64 ∧ (Dk.new 64).openW 5 = (some ⟨[], 5, 0, false⟩, 0) ∧ (Dk.new 64).append ⟨[], 5, 0, false⟩ 15 wsA = (d1, ⟨[wsA], 6, 1, false⟩, 0) ∧ d1.sync ⟨[wsA], 6, 1, false⟩ = (d1.pour, ⟨[wsA], 6, 1, false⟩, 0) ∧ d1.pour.append ⟨[wsA], 6, 1, false⟩ 15 wsB = (d3, ⟨[wsA, wsB], 7, 2, false⟩, 0) ∧ (d3.crash []).start.openW 5 = (some ⟨[wsA], 6, 1, false⟩, 0) := by
  have c0 : (Dk.new 64).Calm 64 := calm_new (by decide) (by decide)
  have zA : szN wsA.size = 1 := by decide
  have zB : szN wsB.size = 1 := by decide
  obtain ⟨d1, a1, a2, a3, a4, a5⟩ := append_calm (x := ⟨[], 5, 0, false⟩) (lg := 15) (s := wsA) c0 (by decide) (by decide) (by decide) rfl (by decide) (by decide) (by show 0 + szN wsA.size ≤ 15; rw [zA]; decide)
  rw [zA] at a1 a5
  have c1 := a2.pour
  obtain ⟨d3, b1, b2, b3, _, _⟩ := append_calm (x := ⟨[wsA], 6, 1, false⟩) (lg := 15) (s := wsB) c1 (by decide) (by decide) (by decide) rfl (by decide) (by decide) (by show 1 + szN wsB.size ≤ 15; rw [zB]; decide)
  rw [zB] at b1
  have ht : ∀ i, (d3.crash []).start.tell i = d1.tell i := fun i => by
    rw [crash_tell b2.dead, fat_nil]
    have e : d3.at i = d1.pour.at i := by unfold Dk.at; rw [b3]
    rw [e, pour_at]
  have cT := calm_crashed b2 []
  have hT : (d3.crash []).start.secs = (secsF 5 wsA.data.toList).map ofL ++ List.replicate 14 nil256 := by
    rw [secs_tell (by rw [cT.n, a2.n]) ht, a5, secs_new, logs_of (n := 64) (lg := 15) rfl (by decide) (by decide) (by decide)]
    rfl
  obtain ⟨b, hb⟩ : ∃ b, (secsF 5 wsA.data.toList).map ofL = [b] := by
    have hl : ((secsF 5 wsA.data.toList).map ofL).length = 1 := by rw [List.length_map, secsF_length, size_list, zA]
    match hm : (secsF 5 wsA.data.toList).map ofL, hl with
    | [b], _ => exact ⟨b, rfl⟩
  have hb2 : b.data.toList = secF 5 (allF wsA.data.toList) (szN wsA.data.toList.length) 0 := by
    have h0 : ((secsF 5 wsA.data.toList).map ofL)[0]? = some b := by rw [hb]; rfl
    rw [List.getElem?_map, List.getElem?_eq_getElem (by rw [secsF_length]; exact sz_pos _), secsF_get] at h0
    simp at h0
    rw [← h0, ofL_list, size_list]
  have ea : endA b = 5 := endA_of (by decide) (by decide) (by rw [hb2]; exact sec_take4)
  have eb : endB b = 5 := endB_of (by decide) (by decide) (by rw [hb2]; exact sec_end (allF_length _) (sz_pos _))
  have hnx : nextW 5 (d3.crash []).start.secs = 6 := by
    rw [hT, hb, List.singleton_append, nextW_cons]
    have e : upB 5 b = 6 := by unfold upB upN; rw [ea, eb]; decide
    rw [e]; exact nextW_nil (by decide) _
  have hrd : readF (LL ((d3.crash []).start.secs.drop 0)) = some (wsA.data.toList, 5, 1) := by
    have := read_made (n := 5) (s := wsA.data.toList) (by decide) (by decide) (by decide) (LL (List.replicate 14 nil256))
    rw [size_list, zA] at this
    rw [← this, List.drop_zero, hT]
    unfold LL
    rw [List.map_append, List.map_map]
    congr 2
  have hsc : scanW (d3.crash []).start.secs 15 5 0 = ([wsA], 1) := by
    have hl15 : (d3.crash []).start.secs.length = 15 := by rw [secs_length, logs_of (n := 64) (lg := 15) cT.n (by decide) (by decide) (by decide)]
    rw [scanW_step hrd (by decide) (by rw [hl15]; decide), scan_nil (k := 14) (by rw [hT, hb]; rfl)]
    rw [ofL_of]
  refine ⟨d1, d3, c0, a2, b2, open_new (lg := 15) (by decide) (by decide) (by decide) (by decide) (by decide), a1, sync_calm a2 rfl, b1, ?_⟩
  rw [openW_calm (lg := 15) cT (by decide) (by decide) (by decide) (by decide) (by rw [hnx]; decide), hnx, hsc]
end Go.Proofs.YtdbiebnnogjccaaGreatDoor
