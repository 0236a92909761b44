/- Frames (layer 18): pannierkeep.Texts, the law's wakes, FrameMakes. -/
import Derived.Test.YtdbiebnnogjccaaGreatDoorFd
import Derived.Test.YtdbiebnnogjccaaGreatDoorFi
namespace Go.Proofs.YtdbiebnnogjccaaGreatDoor
open Go.RowKit
theorem SlStrs.atN {w : World} {p : Option Addr} {n c k : Nat} {l : List ByteArray} (hn : n = l.length) (h : SlStrs w (.slice p n c) l) (hk : k < l.length) : ∃ b off, p = some ⟨b, off, none⟩ ∧ StrsAt w b off l := by
  subst hn; exact h.at hk
set_option maxRecDepth 100000 in
set_option maxHeartbeats 2000000 in
theorem keep_Texts (v u : Value) (L M : List ByteArray) (hL : L.length < 9223372036854775807) (w : World) (hv : SlStrs w v L) (hu : SlStrs w u M) :
    Calls Tryz.prog 20 #[v, u] w fun e w' => e = .returned (.bool (decide (L = M))) ∧ Below w.heap.size w w' := by
  obtain ⟨p, cp, rfl, hcp⟩ := hv.form
  obtain ⟨q, cq, rfl, hcq⟩ := hu.form
  have HV := Lib.hid hv; have HU := Lib.hid hu
  clear hv hu hcp hcq
  by_cases hl : L.length = M.length
  · have z0 : ((L.length : Int) != (M.length : Int)) = false := by rw [hl]; simp
    have HL := Lib.hid hl
    obtain ⟨n, hn⟩ : ∃ n, n = L.length := ⟨_, rfl⟩
    obtain ⟨m, hm⟩ : ∃ m, m = M.length := ⟨_, rfl⟩
    have Hn := Lib.hid hn; have Hm := Lib.hid hm
    rw [← hn, ← hm] at z0 ⊢
    rw [← hn] at HV
    rw [← hm] at HU
    have hnb : n < 9223372036854775807 := by omega
    clear hl hn hm hL
    go_enter Tryz.func20, Tryz.ntmps20
    go_wp2_with fail
    go_loopw [5] (fun c wr => ∃ i : Nat, i ≤ n ∧ c = .int .i64 i ∧ Below w.heap.size w wr ∧ ∀ j (h1 : j < L.length) (h2 : j < M.length), j < i → L[j] = M[j]) (fun c _ => n - (intOf c).toNat)
    case atStart => exact ⟨0, Nat.zero_le _, rfl, Below.refl _ _, fun j _ _ h => absurd h (by omega)⟩
    case round =>
      obtain ⟨i, hi, rfl, hB, hP⟩ := hrel
      have HB := Lib.hid hB; have HP := Lib.hid hP
      clear hB hP
      by_cases hlt : i < n
      · have hi1 : (i : Int) < (n : Int) := by omega
        have hi2 : (i : Int) < (m : Int) := by have := HL.out; have := Hn.out; have := Hm.out; omega
        have hi0 : (0 : Int) ≤ (i : Int) := by omega
        have h1 : i < L.length := by rw [← Hn.out]; exact hlt
        have h2 : i < M.length := by rw [← HL.out]; exact h1
        obtain ⟨b, off, rfl, hS⟩ := SlStrs.atN Hn.out HV.out h1
        obtain ⟨b', off', rfl, hT⟩ := SlStrs.atN Hm.out HU.out h2
        have c1 := (hS.below HB.out).at' i h1
        have c2 := (hT.below HB.out).at' i h2
        by_cases he : L[i] = M[i]
        · have hq : (M[i].toList == M[i].toList) = true := by simp
          rw [he] at c1
          have HE := Lib.hid he
          obtain ⟨y, hy⟩ : ∃ y, y = M[i] := ⟨_, rfl⟩
          rw [← hy] at c1 c2 hq
          clear hS hT he hy
          go_wp2_with fail
          go_quiet (fail)
          go_wp2_with fail
          go_roundw
          case rel =>
            refine ⟨i + 1, by omega, by go_num, bstep HB.out (below_dN _ _), fun j h1 h2 hj => ?_⟩
            by_cases hji : j < i
            · exact HP.out j h1 h2 hji
            · obtain rfl : j = i := by omega
              exact HE.out
          case measure => simp [intOf]; omega
        · have hq : (L[i].toList == M[i].toList) = false := by
            rw [beq_eq_false_iff_ne]
            intro h
            rw [Lib.toList_data, Lib.toList_data] at h
            exact he (bytes_ext h)
          have HE : Hid (decide (L = M) = false) := by
            show _ = _
            rw [decide_eq_false_iff_not]
            intro h
            subst h
            exact he rfl
          obtain ⟨x, hx⟩ : ∃ x, x = L[i] := ⟨_, rfl⟩
          obtain ⟨y, hy⟩ : ∃ y, y = M[i] := ⟨_, rfl⟩
          rw [← hx] at c1 hq
          rw [← hy] at c2 hq
          clear hS hT he hy hx
          go_wp2_with fail
          go_quiet (fail)
          go_wp2_with fail
          go_ret
          exact ⟨by rw [HE.out]; rfl, bstep HB.out (below_dN _ _)⟩
      · have hi1 : ¬ (i : Int) < (n : Int) := by omega
        have HE : Hid (decide (L = M) = true) := by
          show _ = _
          rw [decide_eq_true_eq]
          refine List.ext_getElem HL.out fun j h1 h2 => HP.out j h1 h2 ?_
          have := Hn.out; omega
        go_wp2_with fail
        go_ret
        exact ⟨by rw [HE.out]; rfl, HB.out⟩
  · have z0 : ((L.length : Int) != (M.length : Int)) = true := by rw [bne_iff_ne]; omega
    have HE : Hid (decide (L = M) = false) := by
      show _ = _
      rw [decide_eq_false_iff_not]
      intro h
      exact hl (by rw [h])
    clear hl
    go_enter Tryz.func20, Tryz.ntmps20
    go_wp2_with fail
    go_ret
    exact ⟨by rw [HE.out]; rfl, Below.refl _ _⟩
end Go.Proofs.YtdbiebnnogjccaaGreatDoor

/- Frames (layer 18): the law's wakes, FrameMakes. -/
namespace Go.Proofs.YtdbiebnnogjccaaGreatDoor
open Go.RowKit
theorem LL_ofL (L : List (List UInt8)) : LL (L.map ofL) = L := by
  unfold LL
  rw [List.map_map]
  have e : ((fun b : ByteArray => b.data.toList) ∘ ofL) = id := by funext l; exact ofL_list l
  rw [e, List.map_id]
end Go.Proofs.YtdbiebnnogjccaaGreatDoor

/- Frames (layer 18): the reference's End; zeros. -/
namespace Go.Proofs.YtdbiebnnogjccaaGreatDoor
open Go.RowKit
theorem valLE_cons (c : UInt8) (l : List UInt8) : valLE (c :: l) = (c.toNat : Int) + 256 * valLE l := by
  unfold valLE
  rw [List.reverse_cons, valBE_snoc]; omega
theorem valLE_bd {l : List UInt8} {n : Nat} (h : l.length = n) : 0 ≤ valLE l ∧ valLE l < 256 ^ n := valBE_bd n _ (by rw [List.length_reverse, h])
theorem or_byte {n c : Nat} (hn : n < 16777216) (hc : c < 256) : bits .or .u32 ((n : Int) * 256) ((c : Int) % 4294967296) = ((n * 256 + c : Nat) : Int) := by
  have e1 : (n : Int) * 256 = ((n * 256 : Nat) : Int) := by omega
  have e2 : (c : Int) % 4294967296 = ((c : Nat) : Int) := by omega
  have o1 : n * 256 ||| c = n * 256 + c := by rw [Nat.or_comm, or_add (i := 8) (by omega), Nat.add_comm]
  rw [e1, e2, u32_or_nat _ _ (by omega) (by omega), o1]
set_option maxHeartbeats 1000000 in
theorem ref18_End (s : ByteArray) (hs : s.size = 4) (w : World) : Calls Tryz.prog 126 #[.string s] w fun e w' => e = .returned (.int .u32 (valLE s.data.toList)) ∧ w = w' := by
  have hl : s.data.toList.length = 4 := by rw [size_list, hs]
  have z : (s.size : Int) - 1 = ((4 : Nat) : Int) - 1 := by rw [hs]
  have hd : Hid (∀ k (h : k < s.size), valLE (s.data.toList.drop k) = ((s[k]'h).toNat : Int) + 256 * valLE (s.data.toList.drop (k + 1))) := fun k h => by
    rw [List.drop_eq_getElem_cons (by rw [size_list]; exact h), valLE_cons]
    simp [ByteArray.getElem_eq_getElem_data]
  have hb : Hid (∀ k, 1 ≤ k → 0 ≤ valLE (s.data.toList.drop k) ∧ valLE (s.data.toList.drop k) < 16777216) := fun k hk => by
    have h := valLE_bd (l := s.data.toList.drop k) rfl
    have h2 : (s.data.toList.drop k).length ≤ 3 := by rw [List.length_drop]; omega
    have h3 : (256 : Int) ^ (s.data.toList.drop k).length ≤ 16777216 := by
      generalize (s.data.toList.drop k).length = j at h2
      rcases (show j = 0 ∨ j = 1 ∨ j = 2 ∨ j = 3 by omega) with rfl | rfl | rfl | rfl <;> decide
    omega
  have Hs := Lib.hid hs
  have bz : s.size ≤ 4 := by omega
  clear hs hl
  go_enter Tryz.func126, Tryz.ntmps126
  go_wp2_with fail
  go_loop [3, 4] (fun n i => ∃ k : Nat, k ≤ 4 ∧ i = .int .i64 ((k : Int) - 1) ∧ n = .int .u32 (valLE (s.data.toList.drop k))) (fun _ i => (intOf i + 1).toNat)
  case atStart =>
    refine ⟨4, by omega, rfl, ?_⟩
    rw [List.drop_of_length_le (by rw [size_list]; omega)]; rfl
  case round =>
    obtain ⟨k, hk, rfl, rfl⟩ := hrel
    clear z
    cases k with
    | zero =>
      have h1 : ¬ (0 : Int) ≤ ((0 : Nat) : Int) - 1 := by decide
      go_wp2_with fail
      go_ret
      exact ⟨rfl, rfl⟩
    | succ k =>
      have hbk := hb.out (k + 1) (by omega)
      have hks : k < s.size := by have := Hs.out; omega
      have hdk := hd.out k hks
      obtain ⟨n, hn⟩ : ∃ n : Nat, (n : Int) = valLE (s.data.toList.drop (k + 1)) := ⟨(valLE (s.data.toList.drop (k + 1))).toNat, by omega⟩
      rw [← hn] at hbk hdk ⊢
      have e1 : ((k + 1 : Nat) : Int) - 1 = (k : Int) := by omega
      rw [e1]
      have i0 : (0 : Int) ≤ (k : Int) := by omega
      have i1 : (k : Int) < (s.size : Int) := by omega
      have ho := or_byte (n := n) (c := s[k].toNat) (by omega) s[k].toNat_lt
      have HD : Hid (valLE (s.data.toList.drop k) = ((n * 256 + s[k].toNat : Nat) : Int)) := by show _ = _; rw [hdk]; omega
      clear hdk hn e1
      go_wp2_with fail
      go_round
      case rel => exact ⟨k, by omega, rfl, by rw [HD.out, Int.natCast_add, Int.natCast_mul]; rfl⟩
      case measure => simp [intOf]
end Go.Proofs.YtdbiebnnogjccaaGreatDoor
