/- Heads (layer 20), plain words: what is read from one sector is that sector's record. -/
import Derived.Test.YtdbiebnnogjccaaGreatDoorFp
import Derived.Test.YtdbiebnnogjccaaGreatDoorCp
import Derived.Test.YtdbiebnnogjccaaGreatDoorCt
import Derived.Lib.Hide
namespace Go.Proofs.YtdbiebnnogjccaaGreatDoor
theorem beBytes_high (x : Int) : ∀ (n m : Nat) (c : Int), n ≤ m → beBytes (c * 256 ^ m + x) n = beBytes x n
  | 0, _, _, _ => rfl
  | n + 1, m, c, h => by
    rw [beBytes_succ, beBytes_succ, beBytes_high x n m c (by omega)]
    congr 3
    obtain ⟨k, rfl⟩ : ∃ k, m = n + 1 + k := ⟨m - (n + 1), by omega⟩
    have e : c * (256 : Int) ^ (n + 1 + k) + x = x + (256 : Int) ^ n * (256 * (c * 256 ^ k)) := by
      rw [Int.pow_add, Int.pow_succ]
      rw [Int.add_comm]
      congr 1
      rw [Int.mul_comm c, Int.mul_assoc, Int.mul_assoc, Int.mul_comm (256 ^ k) c]
    rw [e, Int.add_mul_ediv_left _ _ (by exact Int.ne_of_gt (Int.pow_pos (by omega)))]
    omega
theorem be_val : ∀ l : List UInt8, beBytes (valBE l) l.length = l
  | [] => rfl
  | c :: l => by
    obtain ⟨h0, h1⟩ := valBE_bd l.length l rfl
    rw [List.length_cons, beBytes_succ, valBE_cons, beBytes_high _ _ _ _ (Nat.le_refl _), be_val l]
    congr 1
    rw [Int.add_comm, Int.add_mul_ediv_right _ _ (Int.ne_of_gt (Int.pow_pos (by omega))), Int.ediv_eq_zero_of_lt h0 h1]
    have := UInt8.toNat_lt c
    rw [Int.zero_add, Int.emod_eq_of_lt (by omega) (by omega)]
    simp
theorem mk_val {l : List UInt8} (h : l.length = 4) : mkL (valLE l) = l := by
  unfold mkL valLE
  have := be_val l.reverse
  rw [List.length_reverse, h] at this
  rw [this, List.reverse_reverse]
/-- What is read from one sector is its record. -/
theorem read_one {b s : List UInt8} {n : Int} {k : Nat} (h : readF [b] = some (s, n, k)) : k = 1 ∧ b = secF n (allF s) 1 0 ∧ s.length ≤ 236 ∧ 0 < n ∧ n < 4294967296 ∧ szN s.length = 1 := by
  unfold readF at h
  dsimp only at h
  split at h
  · cases h
  · rename_i c1
    have hk : (valBE ((b.drop 6).take 2)).toNat = 1 := by simp only [List.length_cons, List.length_nil] at c1; omega
    rw [hk] at h
    split at h
    · rename_i c2
      have hp : pieceF (numF b) 1 b 0 = true := by simpa using c2
      have hb : (List.take 1 [b]) = [b] := rfl
      rw [hb] at h
      have hbd : bodyF [b] = (b.drop 8).take 244 := by simp [bodyF]
      rw [hbd] at h
      have hn0 : numF b ≠ 0 := fun e => c1 (.inl e)
      obtain ⟨hl, ht⟩ : b.length = 256 ∧ b.take 4 = b.drop 252 := by
        unfold numF at hn0
        split at hn0
        · assumption
        · exact absurd rfl hn0
      have hnv : numF b = valLE (b.take 4) := by unfold numF; rw [if_pos ⟨hl, ht⟩]
      cases hx : textF ((b.drop 8).take 244) 1 with
      | none => rw [hx] at h; cases h
      | some t =>
        rw [hx] at h
        obtain ⟨rfl, rfl, rfl⟩ : t = s ∧ numF b = n ∧ 1 = k := by simpa using h
        obtain ⟨all, hall⟩ : ∃ all, all = (b.drop 8).take 244 := ⟨_, rfl⟩
        have hal : all.length = 244 := by rw [hall, List.length_take, List.length_drop, hl]; rfl
        rw [← hall] at hx
        unfold textF at hx
        split at hx
        · cases hx
        · rename_i c3
          split at hx
          · rename_i c4
            obtain ⟨L, hL⟩ : ∃ L, L = (valBE (all.take 4)).toNat := ⟨_, rfl⟩
            obtain ⟨v0, v1⟩ := valBE_bd 4 (all.take 4) (by rw [List.length_take, hal]; rfl)
            have hLv : valBE (all.take 4) = (L : Int) := by omega
            rw [← hL] at hx c4 c3
            have hs : t = (all.drop 4).take L := by injection hx with hx; exact hx.symm
            have hsz : szN L = 1 := by omega
            have hL6 : L ≤ 236 := by unfold szN at hsz; omega
            have hsl : t.length = L := by rw [hs, List.length_take, List.length_drop, hal]; omega
            have e4 : all.take 4 = beBytes (L : Int) 4 := by
              have := be_val (all.take 4)
              rw [hLv, List.length_take, hal] at this
              exact this.symm
            have eh : all.take (4 + L) = head4 t := by
              unfold head4
              rw [List.take_add, e4, hsl, ← hs]
            have es : (all.drop (4 + L)).take 4 = beBytes (sumN (head4 t) : Nat) 4 := by
              have := be_val ((all.drop (4 + L)).take 4)
              rw [c4.1, eh, List.length_take, List.length_drop, hal, show min 4 (244 - (4 + L)) = 4 by omega] at this
              exact this.symm
            have ez : all.drop (8 + L) = List.replicate (244 - (L + 8)) 0 := by
              have hz : ∀ x ∈ all.drop (8 + L), x = 0 := fun x hx => by
                have := List.all_eq_true.1 c4.2 x hx
                simpa using this
              have := List.eq_replicate_of_mem hz
              rw [List.length_drop, hal] at this
              rw [this]; congr 1; omega
            have ea : all = allF t := by
              unfold allF summed
              rw [hsl, hsz, ← es, ← eh, Nat.one_mul, ← ez]
              have e1 : all.take (4 + L) ++ (all.drop (4 + L)).take 4 = all.take (8 + L) := by
                rw [← List.take_add]; congr 1; omega
              rw [e1, List.take_append_drop]
            have hp2 : (b.drop 4).take 4 = beBytes 0 2 ++ beBytes 1 2 := by
              unfold pieceF at hp
              simp only [Bool.and_eq_true, decide_eq_true_eq] at hp
              exact hp.2
            have hm : mkL (numF b) = b.take 4 := by rw [hnv]; exact mk_val (by rw [List.length_take, hl]; rfl)
            have hnb := valBE_bd 4 (b.take 4).reverse (by rw [List.length_reverse, List.length_take, hl]; rfl)
            have hnn : 0 ≤ numF b ∧ numF b < 4294967296 := by
              rw [hnv]; unfold valLE; exact ⟨hnb.1, by have := hnb.2; omega⟩
            refine ⟨rfl, ?_, by omega, by omega, hnn.2, by rw [hsl]; exact hsz⟩
            unfold secF
            rw [hm, ← ea, hall, Nat.zero_mul, List.drop_zero, List.take_take, Nat.min_self]
            have e8 : beBytes ((0 : Nat) : Int) 2 ++ (beBytes ((1 : Nat) : Int) 2 ++ ((b.drop 8).take 244 ++ b.take 4)) = (b.drop 4).take 4 ++ ((b.drop 8).take 244 ++ b.drop 252) := by
              rw [hp2, ← ht, List.append_assoc]; rfl
            rw [e8]
            have e9 : (b.drop 8).take 244 ++ b.drop 252 = b.drop 8 := by
              have := List.take_append_drop 244 (b.drop 8)
              rw [List.drop_drop] at this
              exact this
            have e10 : (b.drop 4).take 4 ++ b.drop 8 = b.drop 4 := by
              have := List.take_append_drop 4 (b.drop 4)
              rw [List.drop_drop] at this
              exact this
            rw [e9, e10, List.take_append_drop]
          · cases hx
    · cases h
/-- A head in plain words. -/
structure Hd where
  e : Int
  r : Int
  f : Int
def Hd.good (h : Hd) : Prop := (1 ≤ h.e ∧ h.e ≤ 2147483648) ∧ (1 ≤ h.f ∧ h.f ≤ 2147483648) ∧ -1 ≤ h.r ∧ h.r ≤ 4096
instance (h : Hd) : Decidable h.good := by unfold Hd.good; infer_instance
def nameL : List UInt8 := [112, 97, 110, 110, 105, 101, 114]
def Hd.body (h : Hd) : List UInt8 := nameL ++ (beBytes (h.r + 1) 2 ++ beBytes h.f 4)
theorem Hd.body_length (h : Hd) : h.body.length = 13 := by simp [Hd.body, nameL, beBytes_length]
noncomputable def Hd.sec (h : Hd) : List UInt8 := secF h.e (allF h.body) 1 0
noncomputable def encH (h : Hd) : ByteArray × Int := if h.good then (ofL h.sec, 0) else (⟨#[]⟩, 1)
def Hd.ofS (n : Int) (s : List UInt8) : Hd := ⟨n, valBE ((s.drop 7).take 2) - 1, valBE ((s.drop 9).take 4)⟩
noncomputable def decL (b : List UInt8) : Hd × Int :=
  match readF [b] with
  | none => (⟨0, 0, 0⟩, 11)
  | some (s, n, _) => if s.length = 13 ∧ s.take 7 = nameL ∧ (Hd.ofS n s).good then (Hd.ofS n s, 0) else (⟨0, 0, 0⟩, 11)
noncomputable def decH (b : ByteArray) : Hd × Int := decL b.data.toList
theorem Hd.secs (h : Hd) : secsF h.e h.body = [h.sec] := by
  unfold secsF Hd.sec
  rw [h.body_length]; rfl
theorem Hd.ofS_body (h : Hd) (g : h.good) : Hd.ofS h.e h.body = h := by
  obtain ⟨e, r, f⟩ := h
  obtain ⟨⟨h1, h2⟩, ⟨h3, h4⟩, h5, h6⟩ := g
  dsimp only at h1 h2 h3 h4 h5 h6
  unfold Hd.ofS Hd.body
  dsimp only
  have a1 : ((nameL ++ (beBytes (r + 1) 2 ++ beBytes f 4)).drop 7).take 2 = beBytes (r + 1) 2 := by
    rw [List.drop_left' (show nameL.length = 7 from rfl)]; exact List.take_left' (beBytes_length _ _)
  have a2 : ((nameL ++ (beBytes (r + 1) 2 ++ beBytes f 4)).drop 9).take 4 = beBytes f 4 := by
    rw [← List.append_assoc, List.drop_left' (by simp [nameL, beBytes_length])]
    rw [List.take_of_length_le (by rw [beBytes_length]; omega)]
  rw [a1, a2, valBE_small (by omega) (by omega), valBE_small (by omega) (by omega)]
  congr 1; omega
theorem Hd.body_of {n : Int} {s : List UInt8} (h1 : s.length = 13) (h2 : s.take 7 = nameL) : (Hd.ofS n s).body = s := by
  unfold Hd.ofS Hd.body
  dsimp only
  have a1 : beBytes (valBE ((s.drop 7).take 2) - 1 + 1) 2 = (s.drop 7).take 2 := by
    rw [Int.sub_add_cancel]
    have := be_val ((s.drop 7).take 2)
    rw [List.length_take, List.length_drop, h1] at this
    exact this
  have a2 : beBytes (valBE ((s.drop 9).take 4)) 4 = (s.drop 9).take 4 := by
    have := be_val ((s.drop 9).take 4)
    rw [List.length_take, List.length_drop, h1] at this
    exact this
  rw [a1, a2, ← h2]
  have b1 : (s.drop 9).take 4 = s.drop 9 := List.take_of_length_le (by rw [List.length_drop, h1]; omega)
  have b2 : (s.drop 7).take 2 ++ s.drop 9 = s.drop 7 := by
    have := List.take_append_drop 2 (s.drop 7)
    rw [List.drop_drop] at this; exact this
  rw [b1, b2, List.take_append_drop]
/-- The head of a head's sector is it. -/
theorem dec_enc {h : Hd} (g : h.good) : decL h.sec = (h, 0) := by
  have hr : readF [h.sec] = some (h.body, h.e, 1) := by
    have := read_made (n := h.e) (s := h.body) (by have := g.1.1; omega) (by have := g.1.2; omega) (by rw [h.body_length]; omega) []
    rw [h.secs, List.append_nil, h.body_length] at this
    exact this
  unfold decL
  rw [hr]
  dsimp only
  rw [h.ofS_body g, if_pos ⟨h.body_length, List.take_left' rfl, g⟩]
/-- What is a head's sector, is that head's. -/
theorem enc_dec {b : ByteArray} {h : Hd} (hd : decH b = (h, 0)) : h.good ∧ encH h = (b, 0) := by
  unfold decH decL at hd
  cases hr : readF [b.data.toList] with
  | none => rw [hr] at hd; simp at hd
  | some x =>
    obtain ⟨s, n, k⟩ := x
    rw [hr] at hd
    dsimp only at hd
    split at hd
    · rename_i c
      obtain ⟨c1, c2, c3⟩ := c
      have e : Hd.ofS n s = h := by injection hd
      have hb := Hd.body_of (n := n) c1 c2
      rw [e] at c3 hb
      obtain ⟨_, h2, _, _, _, _⟩ := read_one hr
      have he : h.e = n := by rw [← e]; rfl
      refine ⟨c3, ?_⟩
      unfold encH
      rw [if_pos c3]
      unfold Hd.sec
      rw [hb, he, ← h2, ofL_of]
    · simp at hd
theorem dec_cases (b : ByteArray) : (∃ h, h.good ∧ decH b = (h, 0)) ∨ decH b = (⟨0, 0, 0⟩, 11) := by
  unfold decH decL
  cases hr : readF [b.data.toList] with
  | none => exact .inr rfl
  | some x =>
    obtain ⟨s, n, k⟩ := x
    dsimp only
    split
    · rename_i c; exact .inl ⟨_, c.2.2, rfl⟩
    · exact .inr rfl
theorem Hd.sec_len (h : Hd) : h.sec.length = 256 := by
  have := allF_length h.body
  rw [h.body_length] at this
  exact sec_length this (by decide)
end Go.Proofs.YtdbiebnnogjccaaGreatDoor

/- Heads (layer 20): layouts; what can be a head. -/
namespace Go.Proofs.YtdbiebnnogjccaaGreatDoor
open Go.RowKit
/-- A layout: log, logs, page, pages; and why there is none. -/
def layN (n : Int) : (Int × Int × Int × Int) × Int :=
  if n < 32 then ((0, 0, 0, 0), 75) else if 4096 < n then ((0, 0, 0, 0), 1) else ((2, (n - 2) / 4, 2 + (n - 2) / 4, n - 2 - (n - 2) / 4), 0)
def layV (x : Int × Int × Int × Int) : Value := .agg #[.int .i64 x.1, .int .i64 x.2.1, .int .i64 x.2.2.1, .int .i64 x.2.2.2]
set_option maxRecDepth 20000 in
set_option maxHeartbeats 1000000 in
theorem head_Lay (n : Int) (w : World) :
    Calls Tryz.prog 67 #[.int .i64 n] w fun e w' => e = .returned (.tuple #[layV (layN n).1, .int .i64 (layN n).2]) ∧ Below w.heap.size w w' := by
  by_cases h0 : n < 32
  · have e : layN n = ((0, 0, 0, 0), 75) := by unfold layN; rw [if_pos h0]
    rw [e]; clear e; unfold layV
    go_enter Tryz.func67, Tryz.ntmps67
    go_wp2_with fail
    exact bodyPost_ret (v := .tuple #[.agg #[.int .i64 0, .int .i64 0, .int .i64 0, .int .i64 0], .int .i64 75]) (by simp [results, Tryz.results67, go_sem]) rfl ⟨rfl, below_a1 _ _⟩
  by_cases h1 : 4096 < n
  · have e : layN n = ((0, 0, 0, 0), 1) := by unfold layN; rw [if_neg h0, if_pos h1]
    rw [e]; clear e; unfold layV
    go_enter Tryz.func67, Tryz.ntmps67
    go_wp2_with fail
    exact bodyPost_ret (v := .tuple #[.agg #[.int .i64 0, .int .i64 0, .int .i64 0, .int .i64 0], .int .i64 1]) (by simp [results, Tryz.results67, go_sem]) rfl ⟨rfl, below_a1 _ _⟩
  have e : layN n = ((2, (n - 2) / 4, 2 + (n - 2) / 4, n - 2 - (n - 2) / 4), 0) := by unfold layN; rw [if_neg h0, if_neg h1]
  rw [e]; clear e; unfold layV
  have d1 : (n - 2).tdiv 4 = (n - 2) / 4 := Int.tdiv_eq_ediv_of_nonneg (by omega)
  have w1 : IntKind.i64.wrap (n - 2) = n - 2 := IntWalk.i64_in _ (by omega)
  have w2 : IntKind.i64.wrap ((n - 2) / 4) = (n - 2) / 4 := IntWalk.i64_in _ (by omega)
  have w3 : IntKind.i64.wrap (2 + (n - 2) / 4) = 2 + (n - 2) / 4 := IntWalk.i64_in _ (by omega)
  have w4 : IntKind.i64.wrap (n - 2 - (n - 2) / 4) = n - 2 - (n - 2) / 4 := IntWalk.i64_in _ (by omega)
  go_enter Tryz.func67, Tryz.ntmps67
  go_wp2_with fail
  exact bodyPost_ret (v := .tuple #[.agg #[.int .i64 2, .int .i64 ((n - 2) / 4), .int .i64 (2 + (n - 2) / 4), .int .i64 (n - 2 - (n - 2) / 4)], .int .i64 0]) (by simp [results, Tryz.results67, go_sem]) rfl ⟨rfl, below_a1 _ _⟩
set_option maxRecDepth 20000 in
set_option maxHeartbeats 1000000 in
theorem ref20_Lay (n : Int) (w : World) :
    Calls Tryz.prog 82 #[.int .i64 n] w fun e w' => e = .returned (.tuple #[layV (layN n).1, .int .i64 (layN n).2]) ∧ Below w.heap.size w w' := by
  by_cases h0 : n < 32
  · have e : layN n = ((0, 0, 0, 0), 75) := by unfold layN; rw [if_pos h0]
    rw [e]; clear e; unfold layV
    go_enter Tryz.func82, Tryz.ntmps82
    go_wp2_with fail
    exact bodyPost_ret (v := .tuple #[.agg #[.int .i64 0, .int .i64 0, .int .i64 0, .int .i64 0], .int .i64 75]) (by simp [results, Tryz.results82, go_sem]) rfl ⟨rfl, below_a1 _ _⟩
  by_cases h1 : 4096 < n
  · have e : layN n = ((0, 0, 0, 0), 1) := by unfold layN; rw [if_neg h0, if_pos h1]
    rw [e]; clear e; unfold layV
    go_enter Tryz.func82, Tryz.ntmps82
    go_wp2_with fail
    exact bodyPost_ret (v := .tuple #[.agg #[.int .i64 0, .int .i64 0, .int .i64 0, .int .i64 0], .int .i64 1]) (by simp [results, Tryz.results82, go_sem]) rfl ⟨rfl, below_a1 _ _⟩
  have e : layN n = ((2, (n - 2) / 4, 2 + (n - 2) / 4, n - 2 - (n - 2) / 4), 0) := by unfold layN; rw [if_neg h0, if_neg h1]
  rw [e]; clear e; unfold layV
  have d1 : (n - 2).tdiv 4 = (n - 2) / 4 := Int.tdiv_eq_ediv_of_nonneg (by omega)
  have w1 : IntKind.i64.wrap (n - 2) = n - 2 := IntWalk.i64_in _ (by omega)
  have w2 : IntKind.i64.wrap ((n - 2) / 4) = (n - 2) / 4 := IntWalk.i64_in _ (by omega)
  have w3 : IntKind.i64.wrap (2 + (n - 2) / 4) = 2 + (n - 2) / 4 := IntWalk.i64_in _ (by omega)
  have w4 : IntKind.i64.wrap (n - 2 - (n - 2) / 4) = n - 2 - (n - 2) / 4 := IntWalk.i64_in _ (by omega)
  go_enter Tryz.func82, Tryz.ntmps82
  go_wp2_with fail
  exact bodyPost_ret (v := .tuple #[.agg #[.int .i64 2, .int .i64 ((n - 2) / 4), .int .i64 (2 + (n - 2) / 4), .int .i64 (n - 2 - (n - 2) / 4)], .int .i64 0]) (by simp [results, Tryz.results82, go_sem]) rfl ⟨rfl, below_a1 _ _⟩
/-- A head as a value. -/
def Hd.v (h : Hd) : Value := .agg #[.int .u32 h.e, .int .i64 h.r, .int .u32 h.f]
end Go.Proofs.YtdbiebnnogjccaaGreatDoor
