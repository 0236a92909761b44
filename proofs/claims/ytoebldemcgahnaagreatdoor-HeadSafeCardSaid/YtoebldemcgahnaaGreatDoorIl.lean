/- Slices of ints (i64) in memory; pannierkeep.Ints. -/
import Derived.Test.YtoebldemcgahnaaGreatDoorSl
import Derived.Test.YtoebldemcgahnaaGreatDoorHa
import Derived.Lib.Hide
import Derived.Deep.QuietTactic
import Derived.BigQuiet
import Derived.LoopTactic
namespace Go.Proofs.YtoebldemcgahnaaGreatDoor
open Go.RowKit
/-- The numbers lie in memory, a cell each. -/
structure IlAt (w : World) (b off : Nat) (l : List Int) : Prop where
  lt : l ≠ [] → b < w.heap.size
  at' : ∀ i (h : i < l.length), w.cell? ⟨b, off + i, none⟩ = some (.int .i64 l[i])
theorem IlAt.below {w w' : World} {b off : Nat} {l : List Int} (h : IlAt w b off l) (hb : Below w.heap.size w w') : IlAt w' b off l := by
  by_cases hl : l = []
  · subst hl
    exact ⟨fun h => absurd rfl h, fun i h => absurd h (by simp)⟩
  · have hlt := h.lt hl
    exact ⟨fun _ => Nat.lt_of_lt_of_le hlt hb.size, fun i hi => by rw [hb.cell (p := ⟨b, off + i, none⟩) hlt]; exact h.at' i hi⟩
def SlIl (w : World) (v : Value) (l : List Int) : Prop := (v = .slice none 0 0 ∧ l = []) ∨ ∃ b off cap, v = .slice (some ⟨b, off, none⟩) l.length cap ∧ l.length ≤ cap ∧ IlAt w b off l
theorem SlIl.below {w w' : World} {v : Value} {l : List Int} (h : SlIl w v l) (hb : Below w.heap.size w w') : SlIl w' v l := by
  rcases h with h | ⟨b, off, cap, e, hc, h⟩
  · exact .inl h
  · exact .inr ⟨b, off, cap, e, hc, h.below hb⟩
theorem SlIl.form {w : World} {v : Value} {l : List Int} (h : SlIl w v l) : ∃ p c, v = .slice p l.length c ∧ l.length ≤ c := by
  rcases h with ⟨h, e⟩ | ⟨b, off, cap, e, hc, h⟩
  · subst e; exact ⟨none, 0, h, Nat.le_refl _⟩
  · exact ⟨_, _, e, hc⟩
theorem SlIl.atN {w : World} {p : Option Addr} {n c k : Nat} {l : List Int} (hn : n = l.length) (h : SlIl w (.slice p n c) l) (hk : k < l.length) : ∃ b off, p = some ⟨b, off, none⟩ ∧ IlAt w b off l := by
  subst hn
  rcases h with ⟨_, h2⟩ | ⟨b, off, cap, e, _, h⟩
  · subst h2; exact absurd hk (by simp)
  · injection e with e1 e2 e3
    exact ⟨b, off, e1, h⟩
theorem SlIl.of_own {w : World} {base : Nat} {e : TypeId} {v : Value} {l : List Int} (h : w.ownsRow base e 1 v l.length (l.map (Value.int .i64))) : SlIl w v l := by
  rcases h.2 with ⟨h1, h2⟩ | ⟨g, cap, cur, hv, hb, hg, hn, _⟩
  · exact .inl ⟨h1, List.eq_nil_of_length_eq_zero h2⟩
  · refine .inr ⟨g, 0, cap, hv, hn, ⟨fun _ => blk_lt hg, fun i hi => ?_⟩⟩
    rw [Nat.zero_add]
    exact row_cellS h hv (by rw [List.getElem?_map, List.getElem?_eq_getElem hi]; rfl)
theorem SlIl.fr {S : Nat → Prop} {w w' : World} {v : Value} {l : List Int} (h : SlIl w v l) (hf : Fr S w w') (hs : ∀ b off n c, v = .slice (some ⟨b, off, none⟩) n c → ¬ S b) : SlIl w' v l := by
  rcases h with h | ⟨b, off, cap, e, hc, h⟩
  · exact .inl h
  · refine .inr ⟨b, off, cap, e, hc, ?_⟩
    have hs := hs _ _ _ _ e
    by_cases hl : l = []
    · subst hl
      exact ⟨fun h => absurd rfl h, fun i h => absurd h (by simp)⟩
    · have hlt := h.lt hl
      exact ⟨fun _ => Nat.lt_of_lt_of_le hlt hf.size, fun i hi => by rw [hf.cell hlt hs]; exact h.at' i hi⟩
theorem below_dN' (w : World) (n : Nat) : Below w.heap.size w (w.drewN n) := ⟨rfl, rfl, rfl, Nat.le_refl _, fun _ _ => rfl⟩
set_option maxRecDepth 100000 in
set_option maxHeartbeats 2000000 in
theorem keep_Ints (v u : Value) (L M : List Int) (hL : L.length < 9223372036854775807) (w : World) (hv : SlIl w v L) (hu : SlIl w u M) :
    Calls Tryz.prog 59 #[v, u] w fun e w' => e = .returned (.bool (decide (L = M))) ∧ Below w.heap.size w w' := by
  obtain ⟨p, cp, rfl, hcp⟩ := hv.form
  obtain ⟨q, cq, rfl, hcq⟩ := hu.form
  have HV := Lib.hid hv; have HU := Lib.hid hu
  clear hv hu hcp hcq
  by_cases hl : L.length = M.length
  · have z0 : ((L.length : Int) != (M.length : Int)) = false := by rw [hl]; simp
    have HL := Lib.hid hl
    obtain ⟨n, hn⟩ : ∃ n, n = L.length := ⟨_, rfl⟩
    obtain ⟨m, hm⟩ : ∃ m, m = M.length := ⟨_, rfl⟩
    have Hn := Lib.hid hn; have Hm := Lib.hid hm
    rw [← hn, ← hm] at z0 ⊢
    rw [← hn] at HV
    rw [← hm] at HU
    have hnb : n < 9223372036854775807 := by omega
    clear hl hn hm hL
    go_enter Tryz.func59, Tryz.ntmps59
    go_wp2_with fail
    go_loopw [5] (fun c wr => ∃ i : Nat, i ≤ n ∧ c = .int .i64 i ∧ Below w.heap.size w wr ∧ ∀ j (h1 : j < L.length) (h2 : j < M.length), j < i → L[j] = M[j]) (fun c _ => n - (intOf c).toNat)
    case atStart => exact ⟨0, Nat.zero_le _, rfl, Below.refl _ _, fun j _ _ h => absurd h (by omega)⟩
    case round =>
      obtain ⟨i, hi, rfl, hB, hP⟩ := hrel
      have HB := Lib.hid hB; have HP := Lib.hid hP
      clear hB hP
      by_cases hlt : i < n
      · have hi1 : (i : Int) < (n : Int) := by omega
        have hi2 : (i : Int) < (m : Int) := by have := HL.out; have := Hn.out; have := Hm.out; omega
        have hi0 : (0 : Int) ≤ (i : Int) := by omega
        have h1 : i < L.length := by rw [← Hn.out]; exact hlt
        have h2 : i < M.length := by rw [← HL.out]; exact h1
        obtain ⟨b, off, rfl, hS⟩ := SlIl.atN Hn.out HV.out h1
        obtain ⟨b', off', rfl, hT⟩ := SlIl.atN Hm.out HU.out h2
        have c1 := (hS.below HB.out).at' i h1
        have c2 := (hT.below HB.out).at' i h2
        by_cases he : L[i] = M[i]
        · have hq : (M[i] != M[i]) = false := by simp
          rw [he] at c1
          have HE := Lib.hid he
          obtain ⟨y, hy⟩ : ∃ y, y = M[i] := ⟨_, rfl⟩
          rw [← hy] at c1 c2 hq
          clear hS hT he hy
          go_wp2_with fail
          go_quiet (fail)
          go_wp2_with fail
          go_roundw
          case rel =>
            refine ⟨i + 1, by omega, by go_num, bstep HB.out (below_dN' _ _), fun j h1 h2 hj => ?_⟩
            by_cases hji : j < i
            · exact HP.out j h1 h2 hji
            · obtain rfl : j = i := by omega
              exact HE.out
          case measure => simp [intOf]; omega
        · have hq : (L[i] != M[i]) = true := by rw [bne_iff_ne]; exact he
          have HE : Hid (decide (L = M) = false) := by
            show _ = _
            rw [decide_eq_false_iff_not]
            intro h
            subst h
            exact he rfl
          obtain ⟨x, hx⟩ : ∃ x, x = L[i] := ⟨_, rfl⟩
          obtain ⟨y, hy⟩ : ∃ y, y = M[i] := ⟨_, rfl⟩
          rw [← hx] at c1 hq
          rw [← hy] at c2 hq
          clear hS hT he hy hx
          go_wp2_with fail
          go_quiet (fail)
          go_wp2_with fail
          go_ret
          exact ⟨by rw [HE.out]; rfl, bstep HB.out (below_dN' _ _)⟩
      · have hi1 : ¬ (i : Int) < (n : Int) := by omega
        have HE : Hid (decide (L = M) = true) := by
          show _ = _
          rw [decide_eq_true_eq]
          refine List.ext_getElem HL.out fun j h1 h2 => HP.out j h1 h2 ?_
          have := Hn.out; omega
        go_wp2_with fail
        go_ret
        exact ⟨by rw [HE.out]; rfl, HB.out⟩
  · have z0 : ((L.length : Int) != (M.length : Int)) = true := by rw [bne_iff_ne]; omega
    have HE : Hid (decide (L = M) = false) := by
      show _ = _
      rw [decide_eq_false_iff_not]
      intro h
      exact hl (by rw [h])
    clear hl
    go_enter Tryz.func59, Tryz.ntmps59
    go_wp2_with fail
    go_ret
    exact ⟨by rw [HE.out]; rfl, Below.refl _ _⟩
end Go.Proofs.YtoebldemcgahnaaGreatDoor
