/- Disks (layer 19): the reference's Write, Flush, Arm. -/
import Derived.Test.YtdbiebnnogjccaaGreatDoorDx
namespace Go.Proofs.YtdbiebnnogjccaaGreatDoor
open Go.RowKit
theorem put_ca (d : Dk) (k : Nat) (s : ByteArray) : (d.put (k : Int) s).ca = upd8 d.ca k s := by
  funext j
  unfold Dk.ca Dk.put setF upd8
  by_cases e : j = k
  · subst e; simp
  · have : ¬ (j : Int) = (k : Int) := by omega
    simp [e, this]
theorem RefAt.put {w : World} {q sb cb c1 c2 n : Nat} {rn : Int} {kv : Value} {d : Dk} (h : RefAt w q sb cb c1 c2 n rn kv d) (k : Nat) (s : ByteArray) : RefAt (w.setCell ⟨cb, k, none⟩ (.string s)) q sb cb c1 c2 n rn kv (d.put (k : Int) s) :=
  ⟨blk_fr h.blk (fr_set (S := fun x => x = cb) rfl k _) h.qc, h.s.fr (fr_set (S := fun x => x = cb) rfl k _) h.sc, by rw [put_ca]; exact h.c.set k s, h.hn, h.hr, h.hk.fr (fr_set (S := fun x => x = cb) rfl k _) (fun b off n c e => (h.kn b off n c e).2.2), h.qs, h.qc, h.sc, h.kn⟩
theorem RefAt.like {w : World} {q sb cb c1 c2 n : Nat} {rn : Int} {kv : Value} {d d' : Dk} (h : RefAt w q sb cb c1 c2 n rn kv d) (h1 : ∀ j : Nat, j < n → d.at (j : Int) = d'.at (j : Int)) (h2 : ∀ j, j < n → d.ca j = d'.ca j) (e1 : d'.dead = d.dead) (e2 : d'.armed = d.armed) (e3 : d'.n = d.n) (e4 : d'.left = d.left) (e5 : d'.keep = d.keep) : RefAt w q sb cb c1 c2 n rn kv d' :=
  ⟨by have := h.blk; unfold rfCells at this ⊢; rw [e1, e2]; exact this, h.s.congr h1, h.c.congr h2, by rw [e3]; exact h.hn, by rw [e2, e4]; exact h.hr, by rw [e5]; exact h.hk, h.qs, h.qc, h.sc, h.kn⟩
theorem write_dead {d : Dk} (i : Int) (s : ByteArray) (h : d.dead = true) : d.write i s = (d, 74) := by
  have h0 : d.may i = 74 := by unfold Dk.may; rw [h]; rfl
  unfold Dk.write; rw [h0]; rfl
theorem write_out {d : Dk} {i : Int} {s : ByteArray} (h : d.dead = false) (hi : i < 0 ∨ d.n ≤ i ∨ s.size ≠ 256) : d.write i s = (d, 1) := by
  by_cases h1 : i < 0 ∨ d.n ≤ i
  · have h0 : d.may i = 1 := by unfold Dk.may; rw [h, if_neg (by decide), if_pos h1]
    unfold Dk.write; rw [h0]; rfl
  · have h0 : d.may i = 0 := by unfold Dk.may; rw [h, if_neg (by decide), if_neg h1]
    have h2 : s.size ≠ 256 := by rcases hi with h | h | h; exact absurd (.inl h) h1; exact absurd (.inr h) h1; exact h
    unfold Dk.write; rw [h0, if_neg (by decide), if_pos h2]
theorem write_fall {d : Dk} {i : Int} {s : ByteArray} (hd : d.dead = false) (hf : d.falls = true) (hi : 0 ≤ i ∧ i < d.n) (hs : s.size = 256) : d.write i s = (((d.put i s).tick).crash d.keep, 74) := by
  have h0 : d.may i = 0 := by unfold Dk.may; rw [hd, if_neg (by decide), if_neg (by omega)]
  unfold Dk.write; rw [if_neg (by simpa using h0), if_neg (by simpa using hs), if_pos hf]
theorem write_pass {d : Dk} {i : Int} {s : ByteArray} (hd : d.dead = false) (hf : d.falls = false) (hi : 0 ≤ i ∧ i < d.n) (hs : s.size = 256) : d.write i s = ((d.put i s).tick, 0) := by
  have h0 : d.may i = 0 := by unfold Dk.may; rw [hd, if_neg (by decide), if_neg (by omega)]
  unfold Dk.write; rw [if_neg (by simpa using h0), if_neg (by simpa using hs), if_neg (by rw [hf]; decide)]
/-- A crash takes no heed of the count. -/
theorem crash_tick (d : Dk) (l : List (Int × Int)) (hd : d.dead = false) : d.tick.crash l = { d.crash l with left := d.tick.left } := by
  unfold Dk.crash
  rw [if_neg (by rw [Dk.tick_dead, hd]; decide), if_neg (by rw [hd]; decide)]
  unfold Dk.tick
  split <;> rfl
theorem RefAt.left {w : World} {q sb cb c1 c2 n : Nat} {rn : Int} {kv : Value} {d : Dk} (h : RefAt w q sb cb c1 c2 n rn kv d) (ha : d.armed = false) (x : Int) : RefAt w q sb cb c1 c2 n rn kv { d with left := x } :=
  ⟨h.blk, h.s, h.c, h.hn, (fun e => by rw [ha] at e; cases e), h.hk, h.qs, h.qc, h.sc, h.kn⟩
theorem rf_kn {w : World} {q sb cb c1 c2 n : Nat} {rn : Int} {kv : Value} {d : Dk} (h : RefAt w q sb cb c1 c2 n rn kv d) : ∀ b off n c, kv = .slice (some ⟨b, off, none⟩) n c → ¬ RfS q sb cb b := fun b off n c e h2 => by
  have := h.kn b off n c e; rcases h2 with h2 | h2 | h2; exact this.1 h2; exact this.2.1 h2; exact this.2.2 h2
set_option maxRecDepth 20000 in
set_option maxHeartbeats 2000000 in
theorem ref_Write (i : Int) (s : ByteArray) (q sb cb c1 c2 n : Nat) (kv : Value) (d : Dk) (ok : d.Ok) (w : World) (hd : RefAny w q sb cb c1 c2 n kv d) :
    Calls Tryz.prog 35 #[.pointer (some ⟨q, 0, none⟩), .int .i64 i, .string s] w fun e w' => e = .returned (.int .i64 (d.write i s).2) ∧ RefAny w' q sb cb c1 c2 n kv (d.write i s).1 ∧ Fr (RfS q sb cb) w w' := by
  obtain ⟨rn, hd⟩ := hd
  have hc := blk_cell hd.blk
  unfold rfCells at hc
  have hn := hd.hn
  have HD := Lib.hid hd
  have OK := Lib.hid ok
  have HP : Hid (RefAny w q sb cb c1 c2 n kv d) := ⟨rn, hd⟩
  clear hd ok
  cases hdd : d.dead with
  | true =>
    rw [hdd] at hc
    rw [write_dead i s hdd]
    clear hdd hn
    go_enter Tryz.func35, Tryz.ntmps35
    go_wp2_with fail
    go_ret
    exact ⟨rfl, HP.out, Fr.refl _ _⟩
  | false =>
    rw [hdd] at hc
    by_cases h0 : i < 0
    · rw [write_out hdd (.inl h0)]
      clear hdd hn
      go_enter Tryz.func35, Tryz.ntmps35
      go_wp2_with fail
      go_ret
      exact ⟨rfl, HP.out, Fr.refl _ _⟩
    by_cases h1 : d.n ≤ i
    · rw [write_out hdd (.inr (.inl h1))]
      have h2 : (n : Int) ≤ i := by omega
      clear hdd hn h1
      go_enter Tryz.func35, Tryz.ntmps35
      go_wp2_with fail
      go_ret
      exact ⟨rfl, HP.out, Fr.refl _ _⟩
    obtain ⟨k, rfl⟩ : ∃ k : Nat, i = (k : Int) := ⟨i.toNat, by omega⟩
    have h2 : ¬ (n : Int) ≤ (k : Int) := by omega
    by_cases hs : s.size = 256
    · have hl : ((s.size : Int) != 256) = false := by rw [hs]; rfl
      have hkn : k < n := by omega
      have hk1 : (k : Int) < (n : Int) := by omega
      have hk0 : (0 : Int) ≤ (k : Int) := by omega
      have hcc := HD.out.c.cell hkn
      have hfc := HD.out.c.frozen k
      have D1 := Lib.hid (HD.out.put k s)
      have O1 := Lib.hid (OK.out.put (i := (k : Int)) (s := s) ⟨hk0, by omega⟩ hs)
      have F1 : Hid (Fr (RfS q sb cb) w (w.setCell ⟨cb, k, none⟩ (.string s))) := fr_set (S := RfS q sb cb) (.inr (.inr rfl)) k _
      obtain ⟨W, hW⟩ : ∃ W, W = w.setCell ⟨cb, k, none⟩ (.string s) := ⟨_, rfl⟩
      rw [← hW] at D1 F1
      have Hdd := Lib.hid hdd
      cases hf : d.falls with
      | true =>
        rw [write_fall hdd hf ⟨hk0, by omega⟩ hs]
        have hfp : (d.put (k : Int) s).falls = true := hf
        have CT := Lib.hid (ref_counted_yes q sb cb c1 c2 n rn kv _ hfp W D1.out)
        have CR := Lib.hid (ref_Crash kv d.keep OK.out.kl q sb cb c1 c2 n rn kv _ W D1.out O1.out.ok0 D1.out.hk (fun _ => rf_kn D1.out))
        rw [crash_tick _ _ (show (d.put (k : Int) s).dead = false from hdd)]
        have hc1 := blk_cell D1.out.blk
        unfold rfCells at hc1
        have hx : Hid (((d.put (k : Int) s).crash d.keep).armed = false) := by
          show _ = _; unfold Dk.crash; rw [if_neg (by show ¬ d.dead = true; rw [hdd]; decide)]
        clear hdd hn h1 hs hf hfp
        go_enter Tryz.func35, Tryz.ntmps35
        go_wp2_with fail
        rw [← hW]
        clear hW hc
        refine CT.out.mono ?_; rintro e w2 ⟨rfl, rfl⟩
        go_wp2_with fail
        refine CR.out.mono ?_; rintro e w3 ⟨rfl, hd3, hf3⟩
        have D3 := Lib.hid hd3
        have F3 := Lib.hid hf3
        clear hd3 hf3
        go_wp2_with fail
        go_ret
        exact ⟨rfl, ⟨rn, D3.out.left hx.out _⟩, F1.out.trans F3.out⟩
      | false =>
        rw [write_pass hdd hf ⟨hk0, by omega⟩ hs]
        have hfp : (d.put (k : Int) s).falls = false := hf
        have CT := Lib.hid (ref_counted_no q sb cb c1 c2 n rn kv _ O1.out.lf hfp W D1.out)
        clear hdd hn h1 hs hf hfp
        go_enter Tryz.func35, Tryz.ntmps35
        go_wp2_with fail
        rw [← hW]
        clear hW hc
        refine CT.out.mono ?_; rintro e w2 ⟨rfl, hd2, hf2⟩
        have D2 := Lib.hid hd2
        have F2 := Lib.hid hf2
        clear hd2 hf2
        go_wp2_with fail
        go_ret
        exact ⟨rfl, D2.out, F1.out.trans (F2.out.mono fun _ h => .inl h)⟩
    · have hl : ((s.size : Int) != 256) = true := by rw [bne_iff_ne]; omega
      rw [write_out hdd (.inr (.inr hs))]
      clear hdd hn h1 hs
      go_enter Tryz.func35, Tryz.ntmps35
      go_wp2_with fail
      go_ret
      exact ⟨rfl, HP.out, Fr.refl _ _⟩
end Go.Proofs.YtdbiebnnogjccaaGreatDoor
