/- Disks (layer 19): the reference's Write, Flush, Arm. -/
import Derived.Test.YtdbiebnnogjccaaGreatDoorDx
namespace Go.Proofs.YtdbiebnnogjccaaGreatDoor
open Go.RowKit
theorem put_ca (d : Dk) (k : Nat) (s : ByteArray) : (d.put (k : Int) s).ca = upd8 d.ca k s := by
  funext j
  unfold Dk.ca Dk.put setF upd8
  by_cases e : j = k
  · subst e; simp
  · have : ¬ (j : Int) = (k : Int) := by omega
    simp [e, this]
theorem RefAt.put {w : World} {q sb cb c1 c2 n : Nat} {rn : Int} {kv : Value} {d : Dk} (h : RefAt w q sb cb c1 c2 n rn kv d) (k : Nat) (s : ByteArray) : RefAt (w.setCell ⟨cb, k, none⟩ (.string s)) q sb cb c1 c2 n rn kv (d.put (k : Int) s) :=
  ⟨blk_fr h.blk (fr_set (S := fun x => x = cb) rfl k _) h.qc, h.s.fr (fr_set (S := fun x => x = cb) rfl k _) h.sc, by rw [put_ca]; exact h.c.set k s, h.hn, h.hr, h.hk.fr (fr_set (S := fun x => x = cb) rfl k _) (fun b off n c e => (h.kn b off n c e).2.2), h.qs, h.qc, h.sc, h.kn⟩
theorem RefAt.like {w : World} {q sb cb c1 c2 n : Nat} {rn : Int} {kv : Value} {d d' : Dk} (h : RefAt w q sb cb c1 c2 n rn kv d) (h1 : ∀ j : Nat, j < n → d.at (j : Int) = d'.at (j : Int)) (h2 : ∀ j, j < n → d.ca j = d'.ca j) (e1 : d'.dead = d.dead) (e2 : d'.armed = d.armed) (e3 : d'.n = d.n) (e4 : d'.left = d.left) (e5 : d'.keep = d.keep) : RefAt w q sb cb c1 c2 n rn kv d' :=
  ⟨by have := h.blk; unfold rfCells at this ⊢; rw [e1, e2]; exact this, h.s.congr h1, h.c.congr h2, by rw [e3]; exact h.hn, by rw [e2, e4]; exact h.hr, by rw [e5]; exact h.hk, h.qs, h.qc, h.sc, h.kn⟩
theorem write_dead {d : Dk} (i : Int) (s : ByteArray) (h : d.dead = true) : d.write i s = (d, 74) := by
  have h0 : d.may i = 74 := by unfold Dk.may; rw [h]; rfl
  unfold Dk.write; rw [h0]; rfl
theorem write_out {d : Dk} {i : Int} {s : ByteArray} (h : d.dead = false) (hi : i < 0 ∨ d.n ≤ i ∨ s.size ≠ 256) : d.write i s = (d, 1) := by
  by_cases h1 : i < 0 ∨ d.n ≤ i
  · have h0 : d.may i = 1 := by unfold Dk.may; rw [h, if_neg (by decide), if_pos h1]
    unfold Dk.write; rw [h0]; rfl
  · have h0 : d.may i = 0 := by unfold Dk.may; rw [h, if_neg (by decide), if_neg h1]
    have h2 : s.size ≠ 256 := by rcases hi with h | h | h; exact absurd (.inl h) h1; exact absurd (.inr h) h1; exact h
    unfold Dk.write; rw [h0, if_neg (by decide), if_pos h2]
theorem write_fall {d : Dk} {i : Int} {s : ByteArray} (hd : d.dead = false) (hf : d.falls = true) (hi : 0 ≤ i ∧ i < d.n) (hs : s.size = 256) : d.write i s = (((d.put i s).tick).crash d.keep, 74) := by
  have h0 : d.may i = 0 := by unfold Dk.may; rw [hd, if_neg (by decide), if_neg (by omega)]
  unfold Dk.write; rw [if_neg (by simpa using h0), if_neg (by simpa using hs), if_pos hf]
theorem write_pass {d : Dk} {i : Int} {s : ByteArray} (hd : d.dead = false) (hf : d.falls = false) (hi : 0 ≤ i ∧ i < d.n) (hs : s.size = 256) : d.write i s = ((d.put i s).tick, 0) := by
  have h0 : d.may i = 0 := by unfold Dk.may; rw [hd, if_neg (by decide), if_neg (by omega)]
  unfold Dk.write; rw [if_neg (by simpa using h0), if_neg (by simpa using hs), if_neg (by rw [hf]; decide)]
/-- A crash takes no heed of the count. -/
theorem crash_tick (d : Dk) (l : List (Int × Int)) (hd : d.dead = false) : d.tick.crash l = { d.crash l with left := d.tick.left } := by
  unfold Dk.crash
  rw [if_neg (by rw [Dk.tick_dead, hd]; decide), if_neg (by rw [hd]; decide)]
  unfold Dk.tick
  split <;> rfl
theorem RefAt.left {w : World} {q sb cb c1 c2 n : Nat} {rn : Int} {kv : Value} {d : Dk} (h : RefAt w q sb cb c1 c2 n rn kv d) (ha : d.armed = false) (x : Int) : RefAt w q sb cb c1 c2 n rn kv { d with left := x } :=
  ⟨h.blk, h.s, h.c, h.hn, (fun e => by rw [ha] at e; cases e), h.hk, h.qs, h.qc, h.sc, h.kn⟩
theorem rf_kn {w : World} {q sb cb c1 c2 n : Nat} {rn : Int} {kv : Value} {d : Dk} (h : RefAt w q sb cb c1 c2 n rn kv d) : ∀ b off n c, kv = .slice (some ⟨b, off, none⟩) n c → ¬ RfS q sb cb b := fun b off n c e h2 => by
  have := h.kn b off n c e; rcases h2 with h2 | h2 | h2; exact this.1 h2; exact this.2.1 h2; exact this.2.2 h2
set_option maxRecDepth 20000 in
set_option maxHeartbeats 2000000 in
theorem ref_Write (i : Int) (s : ByteArray) (q sb cb c1 c2 n : Nat) (kv : Value) (d : Dk) (ok : d.Ok) (w : World) (hd : RefAny w q sb cb c1 c2 n kv d) :
    Calls Tryz.prog 35 #[.pointer (some ⟨q, 0, none⟩), .int .i64 i, .string s] w fun e w' => e = .returned (.int .i64 (d.write i s).2) ∧ RefAny w' q sb cb c1 c2 n kv (d.write i s).1 ∧ Fr (RfS q sb cb) w w' := by
  obtain ⟨rn, hd⟩ := hd
  have hc := blk_cell hd.blk
  unfold rfCells at hc
  have hn := hd.hn
  have HD := Lib.hid hd
  have OK := Lib.hid ok
  have HP : Hid (RefAny w q sb cb c1 c2 n kv d) := ⟨rn, hd⟩
  clear hd ok
  cases hdd : d.dead with
  | true =>
    rw [hdd] at hc
    rw [write_dead i s hdd]
    clear hdd hn
    go_enter Tryz.func35, Tryz.ntmps35
    go_wp2_with fail
    go_ret
    exact ⟨rfl, HP.out, Fr.refl _ _⟩
  | false =>
    rw [hdd] at hc
    by_cases h0 : i < 0
    · rw [write_out hdd (.inl h0)]
      clear hdd hn
      go_enter Tryz.func35, Tryz.ntmps35
      go_wp2_with fail
      go_ret
      exact ⟨rfl, HP.out, Fr.refl _ _⟩
    by_cases h1 : d.n ≤ i
    · rw [write_out hdd (.inr (.inl h1))]
      have h2 : (n : Int) ≤ i := by omega
      clear hdd hn h1
      go_enter Tryz.func35, Tryz.ntmps35
      go_wp2_with fail
      go_ret
      exact ⟨rfl, HP.out, Fr.refl _ _⟩
    obtain ⟨k, rfl⟩ : ∃ k : Nat, i = (k : Int) := ⟨i.toNat, by omega⟩
    have h2 : ¬ (n : Int) ≤ (k : Int) := by omega
    by_cases hs : s.size = 256
    · have hl : ((s.size : Int) != 256) = false := by rw [hs]; rfl
      have hkn : k < n := by omega
      have hk1 : (k : Int) < (n : Int) := by omega
      have hk0 : (0 : Int) ≤ (k : Int) := by omega
      have hcc := HD.out.c.cell hkn
      have hfc := HD.out.c.frozen k
      have D1 := Lib.hid (HD.out.put k s)
      have O1 := Lib.hid (OK.out.put (i := (k : Int)) (s := s) ⟨hk0, by omega⟩ hs)
      have F1 : Hid (Fr (RfS q sb cb) w (w.setCell ⟨cb, k, none⟩ (.string s))) := fr_set (S := RfS q sb cb) (.inr (.inr rfl)) k _
      obtain ⟨W, hW⟩ : ∃ W, W = w.setCell ⟨cb, k, none⟩ (.string s) := ⟨_, rfl⟩
      rw [← hW] at D1 F1
      have Hdd := Lib.hid hdd
      cases hf : d.falls with
      | true =>
        rw [write_fall hdd hf ⟨hk0, by omega⟩ hs]
        have hfp : (d.put (k : Int) s).falls = true := hf
        have CT := Lib.hid (ref_counted_yes q sb cb c1 c2 n rn kv _ hfp W D1.out)
        have CR := Lib.hid (ref_Crash kv d.keep OK.out.kl q sb cb c1 c2 n rn kv _ W D1.out O1.out.ok0 D1.out.hk (fun _ => rf_kn D1.out))
        rw [crash_tick _ _ (show (d.put (k : Int) s).dead = false from hdd)]
        have hc1 := blk_cell D1.out.blk
        unfold rfCells at hc1
        have hx : Hid (((d.put (k : Int) s).crash d.keep).armed = false) := by
          show _ = _; unfold Dk.crash; rw [if_neg (by show ¬ d.dead = true; rw [hdd]; decide)]
        clear hdd hn h1 hs hf hfp
        go_enter Tryz.func35, Tryz.ntmps35
        go_wp2_with fail
        rw [← hW]
        clear hW hc
        refine CT.out.mono ?_; rintro e w2 ⟨rfl, rfl⟩
        go_wp2_with fail
        refine CR.out.mono ?_; rintro e w3 ⟨rfl, hd3, hf3⟩
        have D3 := Lib.hid hd3
        have F3 := Lib.hid hf3
        clear hd3 hf3
        go_wp2_with fail
        go_ret
        exact ⟨rfl, ⟨rn, D3.out.left hx.out _⟩, F1.out.trans F3.out⟩
      | false =>
        rw [write_pass hdd hf ⟨hk0, by omega⟩ hs]
        have hfp : (d.put (k : Int) s).falls = false := hf
        have CT := Lib.hid (ref_counted_no q sb cb c1 c2 n rn kv _ O1.out.lf hfp W D1.out)
        clear hdd hn h1 hs hf hfp
        go_enter Tryz.func35, Tryz.ntmps35
        go_wp2_with fail
        rw [← hW]
        clear hW hc
        refine CT.out.mono ?_; rintro e w2 ⟨rfl, hd2, hf2⟩
        have D2 := Lib.hid hd2
        have F2 := Lib.hid hf2
        clear hd2 hf2
        go_wp2_with fail
        go_ret
        exact ⟨rfl, D2.out, F1.out.trans (F2.out.mono fun _ h => .inl h)⟩
    · have hl : ((s.size : Int) != 256) = true := by rw [bne_iff_ne]; omega
      rw [write_out hdd (.inr (.inr hs))]
      clear hdd hn h1 hs
      go_enter Tryz.func35, Tryz.ntmps35
      go_wp2_with fail
      go_ret
      exact ⟨rfl, HP.out, Fr.refl _ _⟩
end Go.Proofs.YtdbiebnnogjccaaGreatDoor

/- Disks (layer 19): the reference's Flush, Arm. -/
namespace Go.Proofs.YtdbiebnnogjccaaGreatDoor
open Go.RowKit
theorem flush_dead {d : Dk} (h : d.dead = true) : d.flush = (d, 74) := by
  have h0 : d.may 0 = 74 := by unfold Dk.may; rw [h]; rfl
  unfold Dk.flush; rw [h0]; rfl
theorem flush_fall {d : Dk} (hd : d.dead = false) (hf : d.falls = true) (hn : 1 ≤ d.n) : d.flush = (d.tick.crash d.keep, 74) := by
  have h0 : d.may 0 = 0 := by unfold Dk.may; rw [hd, if_neg (by decide), if_neg (by omega)]
  unfold Dk.flush; rw [if_neg (by simpa using h0), if_pos hf]
theorem flush_pass {d : Dk} (hd : d.dead = false) (hf : d.falls = false) (hn : 1 ≤ d.n) : d.flush = (d.tick.pour, 0) := by
  have h0 : d.may 0 = 0 := by unfold Dk.may; rw [hd, if_neg (by decide), if_neg (by omega)]
  unfold Dk.flush; rw [if_neg (by simpa using h0), if_neg (by rw [hf]; decide)]
/-- A flush under way: the places below i are done. -/
def Dk.pouring (d : Dk) (i : Nat) : Dk := { d with m := fun j => if 0 ≤ j ∧ j < (i : Int) then some (d.tell j) else d.m j, c := fun j => if 0 ≤ j ∧ j < (i : Int) then none else d.c j }
theorem pouring_at (d : Dk) (i j : Nat) : (d.pouring i).at (j : Int) = if j < i then d.tell (j : Int) else d.at (j : Int) := by
  unfold Dk.pouring Dk.at
  by_cases h : j < i
  · have : (0 : Int) ≤ (j : Int) ∧ (j : Int) < (i : Int) := ⟨by omega, by omega⟩
    simp [h]
  · have : ¬ ((0 : Int) ≤ (j : Int) ∧ (j : Int) < (i : Int)) := by omega
    simp [h]
theorem pouring_ca (d : Dk) (i j : Nat) : (d.pouring i).ca j = if j < i then ⟨#[]⟩ else d.ca j := by
  unfold Dk.pouring Dk.ca
  by_cases h : j < i
  · simp [h]
  · simp [h]
theorem pouring_tell (d : Dk) (i : Nat) : (d.pouring i).tell (i : Int) = d.tell (i : Int) := by
  unfold Dk.pouring Dk.tell Dk.at; simp
set_option maxRecDepth 20000 in
set_option maxHeartbeats 4000000 in
theorem ref_pours (q sb cb c1 c2 n : Nat) (kv : Value) (d : Dk) (ok : d.Ok) (hdd : d.dead = false) (hf : d.falls = false) (w : World) (hd : RefAny w q sb cb c1 c2 n kv d) :
    Calls Tryz.prog 89 #[.pointer (some ⟨q, 0, none⟩)] w fun e w' => e = .returned (.int .i64 0) ∧ RefAny w' q sb cb c1 c2 n kv d.tick.pour ∧ Fr (RfS q sb cb) w w' := by
  obtain ⟨rn, hd⟩ := hd
  have hc := blk_cell hd.blk
  unfold rfCells at hc
  rw [hdd] at hc
  have CT := Lib.hid (ref_counted_no q sb cb c1 c2 n rn kv d ok.lf hf w hd)
  have O1 := Lib.hid (ok.tick hf)
  have Hdd : Hid (d.tick.dead = false) := by show _ = _; rw [Dk.tick_dead]; exact hdd
  have hn4 : n ≤ 4096 := by have := hd.hn; have := ok.n1; omega
  obtain ⟨d1, hd1⟩ : ∃ d1, d1 = d.tick := ⟨_, rfl⟩
  rw [← hd1] at O1 Hdd CT ⊢
  clear hd ok hdd hf hd1
  go_enter Tryz.func89, Tryz.ntmps89
  go_wp2_with fail
  refine CT.out.mono ?_; rintro e w1 ⟨rfl, ⟨rn1, hd1⟩, hf1⟩
  have D1 := Lib.hid hd1
  have F1 : Hid (Fr (RfS q sb cb) w w1) := hf1.mono fun _ h => .inl h
  clear hd1 hf1 hc
  have SOf : Hid (∀ W, Fr (fun x => x = sb ∨ x = cb) w1 W → ∀ o, W.cell? ⟨q, o, none⟩ = (#[.slice (some ⟨sb, 0, none⟩) n c1, .slice (some ⟨cb, 0, none⟩) n c2, .bool false, .bool d1.armed, .int .i64 rn1, kv] : Array Value)[o]?) := fun W h o => by
    have := blk_cell (blk_fr D1.out.blk h (by rintro (h | h); exact D1.out.qs h; exact D1.out.qc h)) o
    unfold rfCells at this
    rw [Hdd.out] at this
    exact this
  go_wp2_with fail
  go_loopw [3] (fun c wr => ∃ i : Nat, i ≤ n ∧ c = .int .i64 i ∧ RefAt wr q sb cb c1 c2 n rn1 kv (d1.pouring i) ∧ Fr (fun x => x = sb ∨ x = cb) w1 wr) (fun c _ => n - (intOf c).toNat)
  case atStart => exact ⟨0, Nat.zero_le _, rfl, D1.out.like (fun j _ => by rw [pouring_at, if_neg (by omega)]) (fun j _ => by rw [pouring_ca, if_neg (by omega)]) rfl rfl rfl rfl rfl, Fr.refl _ _⟩
  case round =>
    obtain ⟨i, hin, rfl, hD, hF⟩ := hrel
    have HD := Lib.hid hD; have HF := Lib.hid hF
    clear hD hF
    have hcq := SOf.out wr HF.out
    by_cases hlt : i < n
    · have hi : (i : Int) < (n : Int) := by omega
      have hi0 : (0 : Int) ≤ (i : Int) := by omega
      have AT := Lib.hid (fun W h => ref_At i q sb cb c1 c2 n rn1 kv (d1.pouring i) (fun j s h => by
        unfold Dk.pouring at h
        dsimp only at h
        split at h
        · cases h
        · exact O1.out.sc j s h) hlt W h)
      simp only [pouring_tell] at AT
      obtain ⟨T, hT⟩ : ∃ T, T = d1.tell (i : Int) := ⟨_, rfl⟩
      rw [← hT] at AT
      have HT := Lib.hid hT
      clear hT
      go_upto_region 9 with (fail)
      have D0 : Hid (Below wr.heap.size wr wr.drew) := ⟨rfl, rfl, rfl, Nat.le_refl _, fun _ _ => rfl⟩
      have S0 : (∀ o, wr.drew.cell? ⟨q, o, none⟩ = (#[.slice (some ⟨sb, 0, none⟩) n c1, .slice (some ⟨cb, 0, none⟩) n c2, .bool false, .bool d1.armed, .int .i64 rn1, kv] : Array Value)[o]?) := hcq
      have hsd : wr.drew.cell? ⟨sb, i, none⟩ = some (.string ((d1.pouring i).at (i : Int))) := HD.out.s.cell hlt
      have hfd : wr.drew.frozen? ⟨sb, i, none⟩ = false := HD.out.s.frozen i
      have S9 : (∀ o, (wr.drew.setCell ⟨sb, i, none⟩ (.string T)).cell? ⟨q, o, none⟩ = (#[.slice (some ⟨sb, 0, none⟩) n c1, .slice (some ⟨cb, 0, none⟩) n c2, .bool false, .bool d1.armed, .int .i64 rn1, kv] : Array Value)[o]?) := set_farA S0 HD.out.qs _
      clear hcq
      go_region_held3 (fun w' => (∀ o, w'.cell? ⟨q, o, none⟩ = (#[.slice (some ⟨sb, 0, none⟩) n c1, .slice (some ⟨cb, 0, none⟩) n c2, .bool false, .bool d1.armed, .int .i64 rn1, kv] : Array Value)[o]?)) (first | exact S0 | exact S9 | assumption)
        (first
          | (go_at_call 125; refine (AT.out _ (HD.out.below D0.out)).mono ?_; rintro e y ⟨rfl, rfl⟩))
      have RS : Hid (RowF (wr.drew.setCell ⟨sb, i, none⟩ (.string T)) sb n (fun j => (d1.pouring (i + 1)).at (j : Int))) := by
        have := ((HD.out.s.below D0.out).set i T).congr (g := fun j => (d1.pouring (i + 1)).at (j : Int)) (fun j hj => by
          unfold upd8
          rw [pouring_at d1 (i + 1) j]
          by_cases e : j = i
          · subst e; rw [if_pos rfl, if_pos (by omega), HT.out]
          · rw [if_neg e]
            show (d1.pouring i).at (j : Int) = _
            rw [pouring_at d1 i j]
            by_cases h2 : j < i
            · rw [if_pos h2, if_pos (by omega)]
            · rw [if_neg h2, if_neg (by omega)])
        exact this
      have RC : Hid (RowF (wr.drew.setCell ⟨sb, i, none⟩ (.string T)) cb n (d1.pouring i).ca) := (HD.out.c.below D0.out).fr (fr_set (S := fun x => x = sb) rfl i _) HD.out.sc.symm
      have FF : Hid (Fr (fun x => x = sb ∨ x = cb) wr (wr.drew.setCell ⟨sb, i, none⟩ (.string T))) := (Fr.of_below D0.out).trans (fr_set (S := fun x => x = sb ∨ x = cb) (.inl rfl) i _)
      obtain ⟨z, hz⟩ : ∃ z, z = wr.drew.setCell ⟨sb, i, none⟩ (.string T) := ⟨_, rfl⟩
      rw [← World.setCell_drew]
      rw [← hz] at RS RC FF S9 ⊢
      clear S0 hsd hfd hz
      have hcc := RC.out.cell hlt
      have hfc := RC.out.frozen i
      go_wp2_with fail
      go_roundw
      case rel =>
        have f2 := FF.out.trans (fr_set (S := fun x => x = sb ∨ x = cb) (w := z) (g := cb) (.inr rfl) i (.string ⟨#[]⟩))
        refine ⟨i + 1, by omega, by go_num, ⟨blk_fr HD.out.blk f2 (by rintro (h | h); exact HD.out.qs h; exact HD.out.qc h), RS.out.fr (fr_set (S := fun x => x = cb) rfl i _) HD.out.sc, (RC.out.set i ⟨#[]⟩).congr (fun j hj => ?_), HD.out.hn, HD.out.hr, HD.out.hk.fr f2 (fun b off n c e h => by have := HD.out.kn b off n c e; rcases h with h | h; exact this.2.1 h; exact this.2.2 h), HD.out.qs, HD.out.qc, HD.out.sc, HD.out.kn⟩, HF.out.trans f2⟩
        unfold upd8
        rw [pouring_ca d1 (i + 1) j]
        by_cases e : j = i
        · subst e; rw [if_pos rfl, if_pos (by omega)]
        · rw [if_neg e, pouring_ca d1 i j]
          by_cases h2 : j < i
          · rw [if_pos h2, if_pos (by omega)]
          · rw [if_neg h2, if_neg (by omega)]
      case measure => simp [intOf]; omega
    · have hi : ¬ (i : Int) < (n : Int) := by omega
      obtain rfl : i = n := by omega
      go_wp2_with fail
      go_ret
      refine ⟨rfl, ⟨rn1, HD.out.like (fun j hj => ?_) (fun j hj => ?_) rfl rfl rfl rfl rfl⟩, F1.out.trans (HF.out.mono (fun x h => by rcases h with h | h; exact .inr (.inl h); exact .inr (.inr h)))⟩
      · rw [pouring_at, if_pos hj, pour_at]
      · rw [pouring_ca, if_pos hj]; rfl
set_option maxRecDepth 20000 in
set_option maxHeartbeats 2000000 in
theorem ref_Flush (q sb cb c1 c2 n : Nat) (kv : Value) (d : Dk) (ok : d.Ok) (w : World) (hd : RefAny w q sb cb c1 c2 n kv d) :
    Calls Tryz.prog 89 #[.pointer (some ⟨q, 0, none⟩)] w fun e w' => e = .returned (.int .i64 d.flush.2) ∧ RefAny w' q sb cb c1 c2 n kv d.flush.1 ∧ Fr (RfS q sb cb) w w' := by
  have HP := Lib.hid hd
  obtain ⟨rn, hd⟩ := hd
  have hc := blk_cell hd.blk
  unfold rfCells at hc
  cases hdd : d.dead with
  | true =>
    rw [hdd] at hc
    rw [flush_dead hdd]
    clear hdd hd
    go_enter Tryz.func89, Tryz.ntmps89
    go_wp2_with fail
    go_ret
    exact ⟨rfl, HP.out, Fr.refl _ _⟩
  | false =>
    rw [hdd] at hc
    cases hf : d.falls with
    | true =>
      rw [flush_fall hdd hf ok.n0, crash_tick _ _ hdd]
      have CT := Lib.hid (ref_counted_yes q sb cb c1 c2 n rn kv _ hf w hd)
      have CR := Lib.hid (ref_Crash kv d.keep ok.kl q sb cb c1 c2 n rn kv _ w hd ok.ok0 hd.hk (fun _ => rf_kn hd))
      have hx : Hid ((d.crash d.keep).armed = false) := by
        show _ = _; unfold Dk.crash; rw [if_neg (by rw [hdd]; decide)]
      clear hdd hf hd ok
      go_enter Tryz.func89, Tryz.ntmps89
      go_wp2_with fail
      refine CT.out.mono ?_; rintro e w2 ⟨rfl, rfl⟩
      go_wp2_with fail
      refine CR.out.mono ?_; rintro e w3 ⟨rfl, hd3, hf3⟩
      have D3 := Lib.hid hd3
      have F3 := Lib.hid hf3
      clear hd3 hf3
      go_wp2_with fail
      go_ret
      exact ⟨rfl, ⟨rn, D3.out.left hx.out _⟩, F3.out⟩
    | false =>
      rw [flush_pass hdd hf ok.n0]
      exact ref_pours q sb cb c1 c2 n kv d ok hdd hf w HP.out
theorem RefAt.setKeep {w : World} {q sb cb c1 c2 n : Nat} {rn : Int} {kv kv' : Value} {d : Dk} {l : List (Int × Int)} (h : RefAt w q sb cb c1 c2 n rn kv d) (hk : SlKept w kv' l) (hn : ∀ b off n c, kv' = .slice (some ⟨b, off, none⟩) n c → b ≠ q ∧ b ≠ sb ∧ b ≠ cb) : RefAt (w.setCell ⟨q, 5, none⟩ kv') q sb cb c1 c2 n rn kv' { d with keep := l } :=
  ⟨by rw [blk_set h.blk]; simp [rfCells], h.s.fr (fr_set (S := fun x => x = q) rfl 5 kv') h.qs.symm, h.c.fr (fr_set (S := fun x => x = q) rfl 5 kv') h.qc.symm, h.hn, h.hr, hk.fr (fr_set (S := fun x => x = q) rfl 5 kv') (fun b off n c e => (hn b off n c e).1), h.qs, h.qc, h.sc, hn⟩
def ArmR (w : World) (q sb cb c1 c2 n : Nat) (kv : Value) (k0 : List (Int × Int)) (d' : Dk) (w' : World) : Prop := ∃ kv', ((kv' = kv ∧ d'.keep = k0) ∨ ∀ b off n c, kv' = .slice (some ⟨b, off, none⟩) n c → w.heap.size ≤ b) ∧ RefAny w' q sb cb c1 c2 n kv' d' ∧ Fr (fun x => x = q) w w'
set_option maxRecDepth 20000 in
set_option maxHeartbeats 2000000 in
theorem ref_Arm (m : Int) (kvv : Value) (l : List (Int × Int)) (hl : l.length ≤ 65536) (q sb cb c1 c2 n : Nat) (kv : Value) (d : Dk) (w : World) (hd : RefAny w q sb cb c1 c2 n kv d) (hk : SlKept w kvv l) :
    Calls Tryz.prog 30 #[.pointer (some ⟨q, 0, none⟩), .int .i64 m, kvv] w fun e w' => e = .returned (.int .i64 (d.arm m l).2) ∧ ArmR w q sb cb c1 c2 n kv d.keep (d.arm m l).1 w' := by
  have HP := Lib.hid hd
  obtain ⟨rn, hd⟩ := hd
  have HD := Lib.hid hd
  clear hd
  by_cases h0 : m < 0
  · have e : d.arm m l = (d, 1) := by unfold Dk.arm; rw [if_pos (.inl h0)]
    rw [e]; clear e
    go_enter Tryz.func30, Tryz.ntmps30
    go_wp2_with fail
    go_ret
    exact ⟨rfl, kv, .inl ⟨rfl, rfl⟩, HP.out, Fr.refl _ _⟩
  by_cases h1 : 100000 < m
  · have e : d.arm m l = (d, 1) := by unfold Dk.arm; rw [if_pos (.inr h1)]
    rw [e]; clear e
    go_enter Tryz.func30, Tryz.ntmps30
    go_wp2_with fail
    go_ret
    exact ⟨rfl, kv, .inl ⟨rfl, rfl⟩, HP.out, Fr.refl _ _⟩
  have e : d.arm m l = ({ d with armed := true, left := m, keep := l }, 0) := by unfold Dk.arm; rw [if_neg (by omega)]
  rw [e]; clear e
  have HK := Lib.hid hk
  clear hk
  obtain ⟨i0, ih, i1, i2, i3⟩ := info_parts Tryz.info131
  go_enter Tryz.func30, Tryz.ntmps30
  go_wp2_with (at_builtin; refine wpList_append_new rfl _ _ _ rfl 131 i0 _ Tryz.underlying37 ih i1 2 i2 (by omega) _ rfl _ rfl l.length (ktCells l) (ktCells_len l) (HK.out.below (below_alloc1 _ _)).cells (by omega) ?_; intro g c w1 k1 k2 k3 k4 k5; have K2 := Lib.hid (SlKept.of_cells k1 k2 (fun h => (k5 h).2)); have K3 := Lib.hid k3; have K4 := Lib.hid k4; have B1 := Lib.hid (bstep (below_alloc1 _ _) k3); have D1 := Lib.hid (HD.out.below B1.out); have lq := blk_lt HD.out.blk; have ls := HD.out.s.lt; have lc := HD.out.c.lt; have hg : w.heap.size ≤ g := (k4.elim (fun h => Nat.le_of_eq h.symm) (fun h => by rw [h]; simp)); have HN : Hid (∀ b off n c', Value.slice (some ⟨g, 0, none⟩) l.length c = .slice (some ⟨b, off, none⟩) n c' → w.heap.size ≤ b) := (fun b off n c' e => by injection e with e _ _; injection e with e; injection e with e _ _; omega); have HN2 : Hid (∀ b off n c', Value.slice (some ⟨g, 0, none⟩) l.length c = .slice (some ⟨b, off, none⟩) n c' → b ≠ q ∧ b ≠ sb ∧ b ≠ cb) := (fun b off n c' e => by have := HN.out b off n c' e; omega); have h2 := Lib.hid (D1.out.set (rn' := rn) (d' := { d with armed := true, left := rn }) 3 (.bool true) (by simp [rfCells]) rfl rfl rfl rfl (fun _ => rfl)); have h3 := Lib.hid (h2.out.set (rn' := m) (d' := { d with armed := true, left := m }) 4 (.int .i64 m) (by simp [rfCells]) rfl rfl rfl rfl (fun _ => rfl)); have hv3 := Lib.hid ((K2.out.fr (fr_set (w := w1) (S := fun x => x = q) (g := q) rfl 3 (.bool true)) (fun b off n c e => (HN2.out b off n c e).1)).fr (fr_set (S := fun x => x = q) (g := q) rfl 4 (.int .i64 m)) (fun b off n c e => (HN2.out b off n c e).1)); have h4 := Lib.hid (h3.out.setKeep hv3.out HN2.out); have hc1 := blk_cell D1.out.blk; have hf1 := blk_frozen D1.out.blk; have hc2 := blk_cell h2.out.blk; have hf2 := blk_frozen h2.out.blk; have hc3 := blk_cell h3.out.blk; have hf3 := blk_frozen h3.out.blk; unfold rfCells at hc1 hc2 hc3; clear k1 k2 k3 k4 k5 lq ls lc hg)
  go_ret
  refine ⟨rfl, _, .inr HN.out, ⟨m, h4.out⟩, ?_⟩
  exact (((Fr.of_below B1.out).trans (fr_set (S := fun x => x = q) rfl _ _)).trans (fr_set (S := fun x => x = q) rfl _ _)).trans (fr_set (S := fun x => x = q) rfl _ _)
end Go.Proofs.YtdbiebnnogjccaaGreatDoor
