/- Disks (layer 19): steps; fair; a disk that nobody made. -/
import Derived.Test.YtikgfkghfbfccaaDoorDr
namespace Go.Proofs.YtikgfkghfbfccaaDoor
open Go.RowKit
/-- A step in plain words. -/
structure Stp where
  k : Int
  n : Int
  s : ByteArray
  l : List (Int × Int)
/-- Steps in memory, four cells each. -/
structure StpsAt (w : World) (b off : Nat) (L : List Stp) : Prop where
  lt : L ≠ [] → b < w.heap.size
  kind : ∀ i (h : i < L.length), w.cell? ⟨b, off + i * 4, none⟩ = some (.int .i64 L[i].k)
  num : ∀ i (h : i < L.length), w.cell? ⟨b, off + i * 4 + 1, none⟩ = some (.int .i64 L[i].n)
  str : ∀ i (h : i < L.length), w.cell? ⟨b, off + i * 4 + 2, none⟩ = some (.string L[i].s)
  kep : ∀ i (h : i < L.length), ∃ v, w.cell? ⟨b, off + i * 4 + 3, none⟩ = some v ∧ SlKept w v L[i].l
theorem StpsAt.below {w w' : World} {b off : Nat} {L : List Stp} (h : StpsAt w b off L) (hb : Below w.heap.size w w') : StpsAt w' b off L := by
  by_cases hl : L = []
  · subst hl
    exact ⟨fun h => absurd rfl h, fun i h => absurd h (by simp), fun i h => absurd h (by simp), fun i h => absurd h (by simp), fun i h => absurd h (by simp)⟩
  · have hlt := h.lt hl
    exact ⟨fun _ => Nat.lt_of_lt_of_le hlt hb.size, fun i hi => by rw [hb.cell (p := ⟨b, off + i * 4, none⟩) hlt]; exact h.kind i hi, fun i hi => by rw [hb.cell (p := ⟨b, off + i * 4 + 1, none⟩) hlt]; exact h.num i hi, fun i hi => by rw [hb.cell (p := ⟨b, off + i * 4 + 2, none⟩) hlt]; exact h.str i hi, fun i hi => by
      obtain ⟨v, h1, h2⟩ := h.kep i hi
      exact ⟨v, by rw [hb.cell (p := ⟨b, off + i * 4 + 3, none⟩) hlt]; exact h1, h2.below hb⟩⟩
def SlStps (w : World) (v : Value) (L : List Stp) : Prop := (v = .slice none 0 0 ∧ L = []) ∨ ∃ b off cap, v = .slice (some ⟨b, off, none⟩) L.length cap ∧ L.length ≤ cap ∧ StpsAt w b off L
theorem SlStps.below {w w' : World} {v : Value} {L : List Stp} (h : SlStps w v L) (hb : Below w.heap.size w w') : SlStps w' v L := by
  rcases h with h | ⟨b, off, cap, e, hc, h⟩
  · exact .inl h
  · exact .inr ⟨b, off, cap, e, hc, h.below hb⟩
theorem SlStps.form {w : World} {v : Value} {L : List Stp} (h : SlStps w v L) : ∃ p c, v = .slice p L.length c ∧ L.length ≤ c := by
  rcases h with ⟨h, e⟩ | ⟨b, off, cap, e, hc, h⟩
  · subst e; exact ⟨none, 0, h, Nat.le_refl _⟩
  · exact ⟨_, _, e, hc⟩
theorem SlStps.atN {w : World} {p : Option Addr} {n c k : Nat} {L : List Stp} (hn : n = L.length) (h : SlStps w (.slice p n c) L) (hk : k < L.length) : ∃ b off, p = some ⟨b, off, none⟩ ∧ StpsAt w b off L := by
  subst hn
  rcases h with ⟨_, h2⟩ | ⟨b, off, cap, e, _, h⟩
  · subst h2; exact absurd hk (by simp)
  · injection e with e1 e2 e3
    exact ⟨b, off, e1, h⟩
/-- Is a list of steps not too long? -/
def fairB (L : List Stp) : Bool := (L.all fun x => decide (x.s.size ≤ 1000) && decide (x.l.length ≤ 50)) && decide (L.length ≤ 150)
theorem fairB_true {L : List Stp} (h : fairB L = true) : L.length ≤ 150 ∧ ∀ i (h : i < L.length), L[i].s.size ≤ 1000 ∧ L[i].l.length ≤ 50 := by
  unfold fairB at h
  simp only [Bool.and_eq_true, List.all_eq_true, decide_eq_true_eq] at h
  exact ⟨h.2, fun i hi => h.1 _ (List.getElem_mem hi)⟩
theorem fairB_no {L : List Stp} {i : Nat} (hi : i < L.length) (h : 1000 < L[i].s.size ∨ 50 < L[i].l.length) : fairB L = false := by
  cases hf : fairB L with
  | false => rfl
  | true => have := (fairB_true hf).2 i hi; omega
theorem fairB_yes {L : List Stp} (h : ∀ i (h : i < L.length), ¬ (1000 < L[i].s.size ∨ 50 < L[i].l.length)) : fairB L = decide (L.length ≤ 150) := by
  unfold fairB
  have : (L.all fun x => decide (x.s.size ≤ 1000) && decide (x.l.length ≤ 50)) = true := by
    rw [List.all_eq_true]
    intro x hx
    obtain ⟨i, hi, rfl⟩ := List.getElem_of_mem hx
    have := h i hi
    simp only [Bool.and_eq_true, decide_eq_true_eq]; omega
  rw [this]; rfl
theorem SlKept.formC {w : World} {v : Value} {l : List (Int × Int)} (h : SlKept w v l) : ∃ p c, v = .slice p l.length c := h.form
set_option maxRecDepth 20000 in
set_option maxHeartbeats 2000000 in
theorem law19_fair (v : Value) (L : List Stp) (hL : L.length < 9223372036854775807) (w : World) (hv : SlStps w v L) :
    Calls Tryd.prog 31 #[v] w fun e w' => e = .returned (.bool (fairB L)) ∧ w = w' := by
  obtain ⟨p, cp, rfl, hcp⟩ := hv.form
  have HV := Lib.hid hv
  obtain ⟨n, hn⟩ : ∃ n, n = L.length := ⟨_, rfl⟩
  have Hn := Lib.hid hn
  rw [← hn]
  rw [← hn] at HV hL
  clear hv hcp hn
  go_enter Tryd.func31, Tryd.ntmps31
  go_wp2_with fail
  go_loop [3] (fun c => ∃ i : Nat, i ≤ n ∧ c = .int .i64 i ∧ ∀ j (h : j < L.length), j < i → ¬ (1000 < L[j].s.size ∨ 50 < L[j].l.length)) (fun c => n - (intOf c).toNat)
  case atStart => exact ⟨0, Nat.zero_le _, rfl, fun j _ h => absurd h (by omega)⟩
  case round =>
    obtain ⟨i, hi, rfl, hP⟩ := hrel
    have HP := Lib.hid hP
    clear hP
    by_cases hlt : i < n
    · have hi1 : (i : Int) < (n : Int) := by omega
      have hi0 : (0 : Int) ≤ (i : Int) := by omega
      have h1 : i < L.length := by rw [← Hn.out]; exact hlt
      obtain ⟨b, off, rfl, hS⟩ := SlStps.atN Hn.out HV.out h1
      have c1 := hS.str i h1
      obtain ⟨kv, c2, hk⟩ := hS.kep i h1
      obtain ⟨q, cq, rfl⟩ := hk.form
      by_cases hs : 1000 < L[i].s.size
      · have HE := Lib.hid (fairB_no h1 (.inl hs))
        have hs1 : (1000 : Int) < (L[i].s.size : Int) := by omega
        obtain ⟨x, hx⟩ : ∃ x, x = L[i].s := ⟨_, rfl⟩
        rw [← hx] at c1 hs1
        clear hS hk hx hs c2
        go_wp2_with fail
        go_ret
        exact ⟨by rw [HE.out]; rfl, rfl⟩
      · have hs1 : ¬ (1000 : Int) < (L[i].s.size : Int) := by omega
        by_cases hl : 50 < L[i].l.length
        · have HE := Lib.hid (fairB_no h1 (.inr hl))
          have hl1 : (50 : Int) < (L[i].l.length : Int) := by omega
          obtain ⟨x, hx⟩ : ∃ x, x = L[i].s := ⟨_, rfl⟩
          obtain ⟨y, hy⟩ : ∃ y, y = L[i].l.length := ⟨_, rfl⟩
          rw [← hx] at c1 hs1
          rw [← hy] at c2 hl1
          clear hS hk hx hy hs hl
          go_wp2_with fail
          go_ret
          exact ⟨by rw [HE.out]; rfl, rfl⟩
        · have hl1 : ¬ (50 : Int) < (L[i].l.length : Int) := by omega
          have HN : Hid (¬ (1000 < L[i].s.size ∨ 50 < L[i].l.length)) := by show ¬ _; omega
          obtain ⟨x, hx⟩ : ∃ x, x = L[i].s := ⟨_, rfl⟩
          obtain ⟨y, hy⟩ : ∃ y, y = L[i].l.length := ⟨_, rfl⟩
          rw [← hx] at c1 hs1
          rw [← hy] at c2 hl1
          clear hS hk hx hy hs hl
          go_wp2_with fail
          go_round
          case rel =>
            refine ⟨i + 1, by omega, by go_num, fun j h hj => ?_⟩
            by_cases hji : j < i
            · exact HP.out j h hji
            · obtain rfl : j = i := by omega
              exact HN.out
          case measure => simp [intOf]; omega
    · have hi1 : ¬ (i : Int) < (n : Int) := by omega
      have HE : Hid (fairB L = decide ((n : Int) ≤ 150)) := by
        show _ = _
        rw [fairB_yes (fun j h => HP.out j h (by have := Hn.out; omega)), ← Hn.out, decide_eq_decide]
        omega
      go_wp2_with fail
      go_ret
      exact ⟨by rw [HE.out]; rfl, rfl⟩
end Go.Proofs.YtikgfkghfbfccaaDoor
