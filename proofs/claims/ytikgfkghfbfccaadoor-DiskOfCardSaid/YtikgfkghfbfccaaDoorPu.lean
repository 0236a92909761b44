/- Numbers and texts as bytes (layer 16), in plain words: no program in sight. -/
import Derived.Laws.BytesArg
namespace Go.Proofs.YtikgfkghfbfccaaDoor

def sizeB (n : Int) : Bool := n == 1 || n == 2 || n == 4 || n == 8

/-- The k lowest bytes of v, the highest first. -/
def lowBE (v : Int) : Nat → List Int
  | 0 => []
  | k + 1 => v / 256 ^ k % 256 :: lowBE v k

theorem sizeB_cases {n : Int} (h : sizeB n = true) : n = 1 ∨ n = 2 ∨ n = 4 ∨ n = 8 := by
  simp only [sizeB, Bool.or_eq_true, beq_iff_eq] at h; omega

def numR (v n : Int) : ByteArray × Int :=
  if sizeB n = false then (⟨#[]⟩, 1) else if n < 8 ∧ 256 ^ n.toNat ≤ v then (⟨#[]⟩, 2) else (strOfNums (lowBE v n.toNat), 0)

def textR (s : ByteArray) : ByteArray × Int := if 65535 < s.size then (⟨#[]⟩, 2) else (strOfNums (lowBE s.size 2) ++ s, 0)
/-- A number out of bytes, the highest first. -/
def valBE (l : List UInt8) : Int := l.foldl (fun a c => a * 256 + (c.toNat : Int)) 0
theorem valBE_snoc (l : List UInt8) (c : UInt8) : valBE (l ++ [c]) = valBE l * 256 + (c.toNat : Int) := by simp [valBE]
theorem valBE_bd : ∀ (n : Nat) (l : List UInt8), l.length = n → 0 ≤ valBE l ∧ valBE l < 256 ^ n := by
  intro n
  induction n with
  | zero => intro l h; obtain rfl := List.eq_nil_of_length_eq_zero h; exact ⟨by decide, by decide⟩
  | succ n ih =>
    intro l h
    obtain ⟨l', c, rfl⟩ : ∃ l' c, l = l' ++ [c] := ⟨l.dropLast, l.getLast (by intro hn; subst hn; simp at h), (List.dropLast_concat_getLast _).symm⟩
    have := ih l' (by simpa using h)
    rw [valBE_snoc, Int.pow_succ]
    have hc : c.toNat < 256 := c.toNat_lt
    omega

theorem take_snocB (l : List UInt8) (k : Nat) (h : k < l.length) : l.take (k + 1) = l.take k ++ [l.getD k 0] := by
  rw [List.take_succ_eq_append_getElem h]; simp [List.getD, h]

def takeR (b : ByteArray) (a n : Int) : Int × Int × Int :=
  if sizeB n = false then (0, 0, 1) else if a < 0 ∨ (b.size : Int) < a ∨ (b.size : Int) - a < n then (0, 0, 11)
  else (valBE ((b.data.toList.drop a.toNat).take n.toNat), a + n, 0)

theorem takeR2_ok {b : ByteArray} {a : Int} (h : (takeR b a 2).2.2 = 0) : 0 ≤ a ∧ a + 2 ≤ b.size ∧ takeR b a 2 = (valBE ((b.data.toList.drop a.toNat).take 2), a + 2, 0) ∧ 0 ≤ valBE ((b.data.toList.drop a.toNat).take 2) ∧ valBE ((b.data.toList.drop a.toNat).take 2) < 65536 := by
  have hs : sizeB 2 = true := by decide
  unfold takeR at h ⊢
  rw [if_neg (by simp [hs])] at h ⊢
  by_cases hc : a < 0 ∨ (b.size : Int) < a ∨ (b.size : Int) - a < 2
  · rw [if_pos hc] at h; exact absurd h (by decide)
  · rw [if_neg hc]
    have := valBE_bd 2 ((b.data.toList.drop a.toNat).take 2) (by rw [List.length_take, List.length_drop, Array.length_toList, ByteArray.size_data]; omega)
    refine ⟨by omega, by omega, rfl, this.1, by have := this.2; simpa using this⟩
def cutR (b : ByteArray) (a most : Int) : ByteArray × Int × Int :=
  let t := takeR b a 2
  if t.2.2 ≠ 0 then (⟨#[]⟩, 0, t.2.2) else if (b.size : Int) - t.2.1 < t.1 then (⟨#[]⟩, 0, 11) else if most < t.1 then (⟨#[]⟩, 0, 2)
  else (b.extract t.2.1.toNat (t.2.1 + t.1).toNat, t.2.1 + t.1, 0)

end Go.Proofs.YtikgfkghfbfccaaDoor
