/- Frames (layer 18): pannierkeep.Texts, the law's wakes, FrameMakes. -/
import Derived.Test.YtbopppnlgicpeaaDoorFd
import Derived.Test.YtbopppnlgicpeaaDoorFi
namespace Go.Proofs.YtbopppnlgicpeaaDoor
open Go.RowKit
theorem SlStrs.atN {w : World} {p : Option Addr} {n c k : Nat} {l : List ByteArray} (hn : n = l.length) (h : SlStrs w (.slice p n c) l) (hk : k < l.length) : ∃ b off, p = some ⟨b, off, none⟩ ∧ StrsAt w b off l := by
  subst hn; exact h.at hk
set_option maxRecDepth 100000 in
set_option maxHeartbeats 2000000 in
theorem keep_Texts (v u : Value) (L M : List ByteArray) (hL : L.length < 9223372036854775807) (w : World) (hv : SlStrs w v L) (hu : SlStrs w u M) :
    Calls Tryd.prog 42 #[v, u] w fun e w' => e = .returned (.bool (decide (L = M))) ∧ Below w.heap.size w w' := by
  obtain ⟨p, cp, rfl, hcp⟩ := hv.form
  obtain ⟨q, cq, rfl, hcq⟩ := hu.form
  have HV := Lib.hid hv; have HU := Lib.hid hu
  clear hv hu hcp hcq
  by_cases hl : L.length = M.length
  · have z0 : ((L.length : Int) != (M.length : Int)) = false := by rw [hl]; simp
    have HL := Lib.hid hl
    obtain ⟨n, hn⟩ : ∃ n, n = L.length := ⟨_, rfl⟩
    obtain ⟨m, hm⟩ : ∃ m, m = M.length := ⟨_, rfl⟩
    have Hn := Lib.hid hn; have Hm := Lib.hid hm
    rw [← hn, ← hm] at z0 ⊢
    rw [← hn] at HV
    rw [← hm] at HU
    have hnb : n < 9223372036854775807 := by omega
    clear hl hn hm hL
    go_enter Tryd.func42, Tryd.ntmps42
    go_wp2_with fail
    go_loopw [5] (fun c wr => ∃ i : Nat, i ≤ n ∧ c = .int .i64 i ∧ Below w.heap.size w wr ∧ ∀ j (h1 : j < L.length) (h2 : j < M.length), j < i → L[j] = M[j]) (fun c _ => n - (intOf c).toNat)
    case atStart => exact ⟨0, Nat.zero_le _, rfl, Below.refl _ _, fun j _ _ h => absurd h (by omega)⟩
    case round =>
      obtain ⟨i, hi, rfl, hB, hP⟩ := hrel
      have HB := Lib.hid hB; have HP := Lib.hid hP
      clear hB hP
      by_cases hlt : i < n
      · have hi1 : (i : Int) < (n : Int) := by omega
        have hi2 : (i : Int) < (m : Int) := by have := HL.out; have := Hn.out; have := Hm.out; omega
        have hi0 : (0 : Int) ≤ (i : Int) := by omega
        have h1 : i < L.length := by rw [← Hn.out]; exact hlt
        have h2 : i < M.length := by rw [← HL.out]; exact h1
        obtain ⟨b, off, rfl, hS⟩ := SlStrs.atN Hn.out HV.out h1
        obtain ⟨b', off', rfl, hT⟩ := SlStrs.atN Hm.out HU.out h2
        have c1 := (hS.below HB.out).at' i h1
        have c2 := (hT.below HB.out).at' i h2
        by_cases he : L[i] = M[i]
        · have hq : (M[i].toList == M[i].toList) = true := by simp
          rw [he] at c1
          have HE := Lib.hid he
          obtain ⟨y, hy⟩ : ∃ y, y = M[i] := ⟨_, rfl⟩
          rw [← hy] at c1 c2 hq
          clear hS hT he hy
          go_wp2_with fail
          go_quiet (fail)
          go_wp2_with fail
          go_roundw
          case rel =>
            refine ⟨i + 1, by omega, by go_num, bstep HB.out (below_dN _ _), fun j h1 h2 hj => ?_⟩
            by_cases hji : j < i
            · exact HP.out j h1 h2 hji
            · obtain rfl : j = i := by omega
              exact HE.out
          case measure => simp [intOf]; omega
        · have hq : (L[i].toList == M[i].toList) = false := by
            rw [beq_eq_false_iff_ne]
            intro h
            rw [Lib.toList_data, Lib.toList_data] at h
            exact he (bytes_ext h)
          have HE : Hid (decide (L = M) = false) := by
            show _ = _
            rw [decide_eq_false_iff_not]
            intro h
            subst h
            exact he rfl
          obtain ⟨x, hx⟩ : ∃ x, x = L[i] := ⟨_, rfl⟩
          obtain ⟨y, hy⟩ : ∃ y, y = M[i] := ⟨_, rfl⟩
          rw [← hx] at c1 hq
          rw [← hy] at c2 hq
          clear hS hT he hy hx
          go_wp2_with fail
          go_quiet (fail)
          go_wp2_with fail
          go_ret
          exact ⟨by rw [HE.out]; rfl, bstep HB.out (below_dN _ _)⟩
      · have hi1 : ¬ (i : Int) < (n : Int) := by omega
        have HE : Hid (decide (L = M) = true) := by
          show _ = _
          rw [decide_eq_true_eq]
          refine List.ext_getElem HL.out fun j h1 h2 => HP.out j h1 h2 ?_
          have := Hn.out; omega
        go_wp2_with fail
        go_ret
        exact ⟨by rw [HE.out]; rfl, HB.out⟩
  · have z0 : ((L.length : Int) != (M.length : Int)) = true := by rw [bne_iff_ne]; omega
    have HE : Hid (decide (L = M) = false) := by
      show _ = _
      rw [decide_eq_false_iff_not]
      intro h
      exact hl (by rw [h])
    clear hl
    go_enter Tryd.func42, Tryd.ntmps42
    go_wp2_with fail
    go_ret
    exact ⟨by rw [HE.out]; rfl, Below.refl _ _⟩
end Go.Proofs.YtbopppnlgicpeaaDoor
