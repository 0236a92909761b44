/- Numbers and texts as bytes (layer 16), in plain words: no program in sight. -/
import Derived.Laws.BytesArg
namespace Go.Proofs.YtdbiebnnogjccaaGreatDoor

def sizeB (n : Int) : Bool := n == 1 || n == 2 || n == 4 || n == 8

/-- The k lowest bytes of v, the highest first. -/
def lowBE (v : Int) : Nat → List Int
  | 0 => []
  | k + 1 => v / 256 ^ k % 256 :: lowBE v k

theorem sizeB_cases {n : Int} (h : sizeB n = true) : n = 1 ∨ n = 2 ∨ n = 4 ∨ n = 8 := by
  simp only [sizeB, Bool.or_eq_true, beq_iff_eq] at h; omega

def numR (v n : Int) : ByteArray × Int :=
  if sizeB n = false then (⟨#[]⟩, 1) else if n < 8 ∧ 256 ^ n.toNat ≤ v then (⟨#[]⟩, 2) else (strOfNums (lowBE v n.toNat), 0)

def textR (s : ByteArray) : ByteArray × Int := if 65535 < s.size then (⟨#[]⟩, 2) else (strOfNums (lowBE s.size 2) ++ s, 0)
/-- A number out of bytes, the highest first. -/
def valBE (l : List UInt8) : Int := l.foldl (fun a c => a * 256 + (c.toNat : Int)) 0
theorem valBE_snoc (l : List UInt8) (c : UInt8) : valBE (l ++ [c]) = valBE l * 256 + (c.toNat : Int) := by simp [valBE]
theorem valBE_bd : ∀ (n : Nat) (l : List UInt8), l.length = n → 0 ≤ valBE l ∧ valBE l < 256 ^ n := by
  intro n
  induction n with
  | zero => intro l h; obtain rfl := List.eq_nil_of_length_eq_zero h; exact ⟨by decide, by decide⟩
  | succ n ih =>
    intro l h
    obtain ⟨l', c, rfl⟩ : ∃ l' c, l = l' ++ [c] := ⟨l.dropLast, l.getLast (by intro hn; subst hn; simp at h), (List.dropLast_concat_getLast _).symm⟩
    have := ih l' (by simpa using h)
    rw [valBE_snoc, Int.pow_succ]
    have hc : c.toNat < 256 := c.toNat_lt
    omega

theorem take_snocB (l : List UInt8) (k : Nat) (h : k < l.length) : l.take (k + 1) = l.take k ++ [l.getD k 0] := by
  rw [List.take_succ_eq_append_getElem h]; simp [List.getD, h]

def takeR (b : ByteArray) (a n : Int) : Int × Int × Int :=
  if sizeB n = false then (0, 0, 1) else if a < 0 ∨ (b.size : Int) < a ∨ (b.size : Int) - a < n then (0, 0, 11)
  else (valBE ((b.data.toList.drop a.toNat).take n.toNat), a + n, 0)

theorem takeR2_ok {b : ByteArray} {a : Int} (h : (takeR b a 2).2.2 = 0) : 0 ≤ a ∧ a + 2 ≤ b.size ∧ takeR b a 2 = (valBE ((b.data.toList.drop a.toNat).take 2), a + 2, 0) ∧ 0 ≤ valBE ((b.data.toList.drop a.toNat).take 2) ∧ valBE ((b.data.toList.drop a.toNat).take 2) < 65536 := by
  have hs : sizeB 2 = true := by decide
  unfold takeR at h ⊢
  rw [if_neg (by simp [hs])] at h ⊢
  by_cases hc : a < 0 ∨ (b.size : Int) < a ∨ (b.size : Int) - a < 2
  · rw [if_pos hc] at h; exact absurd h (by decide)
  · rw [if_neg hc]
    have := valBE_bd 2 ((b.data.toList.drop a.toNat).take 2) (by rw [List.length_take, List.length_drop, Array.length_toList, ByteArray.size_data]; omega)
    refine ⟨by omega, by omega, rfl, this.1, by have := this.2; simpa using this⟩
def cutR (b : ByteArray) (a most : Int) : ByteArray × Int × Int :=
  let t := takeR b a 2
  if t.2.2 ≠ 0 then (⟨#[]⟩, 0, t.2.2) else if (b.size : Int) - t.2.1 < t.1 then (⟨#[]⟩, 0, 11) else if most < t.1 then (⟨#[]⟩, 0, 2)
  else (b.extract t.2.1.toNat (t.2.1 + t.1).toNat, t.2.1 + t.1, 0)

end Go.Proofs.YtdbiebnnogjccaaGreatDoor

/- Numbers and texts as bytes: there and back, and order. In plain words. -/
namespace Go.Proofs.YtdbiebnnogjccaaGreatDoor

theorem valBE_foldl (l : List UInt8) : ∀ a : Int, l.foldl (fun a c => a * 256 + (c.toNat : Int)) a = a * 256 ^ l.length + valBE l := by
  induction l with
  | nil => intro a; simp [valBE]
  | cons c l ih =>
    intro a
    have e0 : valBE (c :: l) = l.foldl (fun a c => a * 256 + (c.toNat : Int)) (0 * 256 + (c.toNat : Int)) := rfl
    rw [e0, ih (0 * 256 + (c.toNat : Int)), List.foldl_cons, ih, List.length_cons, Int.pow_succ, Int.zero_mul, Int.zero_add]
    have : (a * 256 + (c.toNat : Int)) * 256 ^ l.length = a * (256 ^ l.length * 256) + (c.toNat : Int) * 256 ^ l.length := by
      rw [Int.add_mul, Int.mul_assoc, Int.mul_comm 256]
    rw [this]; omega
theorem valBE_cons (c : UInt8) (l : List UInt8) : valBE (c :: l) = (c.toNat : Int) * 256 ^ l.length + valBE l := by
  have := valBE_foldl l (0 * 256 + (c.toNat : Int))
  rw [Int.zero_mul, Int.zero_add] at this
  rw [valBE, List.foldl_cons, Int.zero_mul, Int.zero_add, this]
/-- The bytes themselves. -/
def beBytes (v : Int) (n : Nat) : List UInt8 := (lowBE v n).map fun x => UInt8.ofNat x.toNat
theorem lowBE_length (v : Int) : ∀ n, (lowBE v n).length = n
  | 0 => rfl
  | n + 1 => by rw [lowBE, List.length_cons, lowBE_length v n]
theorem beBytes_length (v : Int) (n : Nat) : (beBytes v n).length = n := by rw [beBytes, List.length_map, lowBE_length]
theorem beBytes_succ (v : Int) (n : Nat) : beBytes v (n + 1) = UInt8.ofNat (v / 256 ^ n % 256).toNat :: beBytes v n := rfl
theorem byte_toNat (x : Int) (h0 : 0 ≤ x) (h1 : x < 256) : ((UInt8.ofNat x.toNat).toNat : Int) = x := by
  rw [UInt8.toNat_ofNat', Nat.mod_eq_of_lt (by omega)]; omega
theorem valBE_beBytes (v : Int) : ∀ n, valBE (beBytes v n) = v % 256 ^ n
  | 0 => by simp [beBytes, lowBE, valBE, Int.emod_one]
  | n + 1 => by
    rw [beBytes_succ, valBE_cons, beBytes_length, valBE_beBytes v n, byte_toNat _ (Int.emod_nonneg _ (by decide)) (Int.emod_lt_of_pos _ (by decide)), Int.pow_succ]
    have hp : (0 : Int) < 256 ^ n := Int.pow_pos (by decide)
    obtain ⟨P, hP⟩ : ∃ P : Int, P = 256 ^ n := ⟨_, rfl⟩
    rw [← hP] at hp ⊢
    have h1 := Int.mul_ediv_add_emod v P
    have h2 := Int.mul_ediv_add_emod (v / P) 256
    have h3 := Int.emod_nonneg v (show P ≠ 0 by omega)
    have h4 := Int.emod_lt_of_pos v hp
    have h5 := Int.emod_nonneg (v / P) (show (256 : Int) ≠ 0 by decide)
    have h6 := Int.emod_lt_of_pos (v / P) (show (0 : Int) < 256 by decide)
    have key : v = (v / P / 256) * (P * 256) + ((v / P % 256) * P + v % P) := by
      have e1 : v = P * (256 * (v / P / 256) + v / P % 256) + v % P := by rw [h2]; exact h1.symm
      have e2 : P * (256 * (v / P / 256) + v / P % 256) = (v / P / 256) * (P * 256) + (v / P % 256) * P := by
        rw [Int.mul_add, Int.mul_comm P (v / P % 256), ← Int.mul_assoc, Int.mul_comm (v / P / 256)]
      omega
    have hlt : (v / P % 256) * P + v % P < P * 256 := by
      have : (v / P % 256) * P ≤ 255 * P := Int.mul_le_mul_of_nonneg_right (by omega) (by omega)
      omega
    have hge : 0 ≤ (v / P % 256) * P + v % P := by
      have : 0 ≤ (v / P % 256) * P := Int.mul_nonneg h5 (by omega)
      omega
    conv => rhs; rw [key]
    rw [Int.add_comm (v / P / 256 * (P * 256)), Int.add_mul_emod_self_right, Int.emod_eq_of_lt hge hlt]
theorem strOfNums_list (v : Int) (n : Nat) : (strOfNums (lowBE v n)).data.toList = beBytes v n := by rw [strOfNums_data]; rfl
theorem valBE_small {v : Int} {n : Nat} (h0 : 0 ≤ v) (h1 : v < 256 ^ n) : valBE (beBytes v n) = v := by rw [valBE_beBytes, Int.emod_eq_of_lt h0 h1]

theorem size_list (b : ByteArray) : b.data.toList.length = b.size := by rw [Array.length_toList, ByteArray.size_data]
theorem list_append (a b : ByteArray) : (a ++ b).data.toList = a.data.toList ++ b.data.toList := by simp
theorem bytes_ext {a b : ByteArray} (h : a.data.toList = b.data.toList) : a = b := by
  cases a; cases b; simp only at h; congr 1; exact Array.toList_inj.1 h

/-- The number that stands in the midst of bytes. -/
theorem takeR_mid {b : ByteArray} {p x q : List UInt8} {n : Nat} (h : b.data.toList = p ++ (x ++ q)) (hx : x.length = n) (hn : sizeB n = true) : takeR b p.length n = (valBE x, (p.length : Int) + n, 0) := by
  have hs : b.size = p.length + (n + q.length) := by rw [← size_list, h, List.length_append, List.length_append, hx]
  unfold takeR
  rw [if_neg (by simp [hn]), if_neg (by omega), h]
  simp [hx]
/-- The text that stands in the midst of bytes. -/
theorem cutR_mid {b : ByteArray} {p s q : List UInt8} {most : Int} (h : b.data.toList = p ++ (beBytes s.length 2 ++ (s ++ q))) (hs : s.length < 65536) (hm : (s.length : Int) ≤ most) :
    cutR b p.length most = (⟨s.toArray⟩, (p.length : Int) + 2 + s.length, 0) := by
  have hl : b.size = p.length + (2 + (s.length + q.length)) := by rw [← size_list, h]; simp [beBytes_length]
  have ht := takeR_mid h (beBytes_length _ _) (by decide : sizeB (2 : Nat) = true)
  rw [valBE_small (by omega) (by simp; omega)] at ht
  unfold cutR
  have e2 : ((2 : Nat) : Int) = 2 := rfl
  rw [e2] at ht
  rw [ht]
  simp only [ne_eq, not_true_eq_false, if_false]
  rw [if_neg (by omega), if_neg (by omega)]
  have : (b.extract ((p.length : Int) + 2).toNat ((p.length : Int) + 2 + s.length).toNat) = ⟨s.toArray⟩ := by
    apply bytes_ext
    have e3 : ((p.length : Int) + 2).toNat = p.length + 2 := by omega
    have e4 : ((p.length : Int) + 2 + s.length).toNat = p.length + 2 + s.length := by omega
    rw [e3, e4]
    simp only [ByteArray.data_extract, Array.toList_extract, List.extract_eq_take_drop, h]
    have e5 : p ++ (beBytes (↑s.length) 2 ++ (s ++ q)) = (p ++ beBytes (↑s.length) 2) ++ (s ++ q) := by simp
    have e6 : (p ++ beBytes (↑s.length) 2).length = p.length + 2 := by simp [beBytes_length]
    rw [e5, ← e6, List.drop_left, e6]
    have : p.length + 2 + s.length - (p.length + 2) = s.length := by omega
    rw [this, List.take_left]
  rw [this]

/-! ### order -/
theorem bytesLess_same (l : List UInt8) : Op.bytesLess l l = false := by
  induction l with
  | nil => rfl
  | cons c l ih => simp [Op.bytesLess, ih]
theorem beBytes_less (v u : Int) : ∀ n, v / 256 ^ n = u / 256 ^ n → Op.bytesLess (beBytes v n) (beBytes u n) = decide (v < u) := by
  intro n
  induction n with
  | zero =>
    intro h
    simp at h; subst h
    rw [bytesLess_same]; simp
  | succ n ih =>
    intro h
    have hd : ∀ x : Int, x / 256 ^ (n + 1) = x / 256 ^ n / 256 := fun x => by rw [Int.pow_succ, ← Int.ediv_ediv_of_nonneg (Int.pow_nonneg (by decide))]
    rw [hd, hd] at h
    rw [beBytes_succ, beBytes_succ, Op.bytesLess]
    have hp : (0 : Int) < 256 ^ n := Int.pow_pos (by decide)
    have hv0 := Int.emod_nonneg (v / 256 ^ n) (show (256 : Int) ≠ 0 by decide)
    have hv1 := Int.emod_lt_of_pos (v / 256 ^ n) (show (0 : Int) < 256 by decide)
    have hu0 := Int.emod_nonneg (u / 256 ^ n) (show (256 : Int) ≠ 0 by decide)
    have hu1 := Int.emod_lt_of_pos (u / 256 ^ n) (show (0 : Int) < 256 by decide)
    have bv := byte_toNat _ hv0 hv1
    have bu := byte_toNat _ hu0 hu1
    have mono : v / 256 ^ n < u / 256 ^ n → v < u := fun hh => by
      rcases Int.lt_or_le v u with h1 | h1
      · exact h1
      · exact absurd (Int.ediv_le_ediv hp h1) (by omega)
    by_cases heq : v / 256 ^ n = u / 256 ^ n
    · rw [ih heq, heq]; simp
    · have hne : v / 256 ^ n % 256 ≠ u / 256 ^ n % 256 := by omega
      have hb : (UInt8.ofNat (v / 256 ^ n % 256).toNat == UInt8.ofNat (u / 256 ^ n % 256).toNat) = false := by
        rw [beq_eq_false_iff_ne]; intro he; rw [he] at bv; omega
      rw [hb, Bool.false_and, Bool.or_false, decide_eq_decide, UInt8.lt_iff_toNat_lt]
      constructor
      · intro hlt; exact mono (by omega)
      · intro hlt
        rcases Int.lt_or_le (v / 256 ^ n) (u / 256 ^ n) with h1 | h1
        · omega
        · exact absurd (Int.ediv_le_ediv hp (Int.le_of_lt hlt)) (by omega)
theorem beBytes_inj {v u : Int} {n : Nat} (hv : 0 ≤ v) (hu : 0 ≤ u) (hv1 : v < 256 ^ n) (hu1 : u < 256 ^ n) (h : beBytes v n = beBytes u n) : v = u := by
  rw [← valBE_small hv hv1, h, valBE_small hu hu1]
end Go.Proofs.YtdbiebnnogjccaaGreatDoor
