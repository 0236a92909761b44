/- Texts that differ in one stretch of 32 bits (layer 15): plain words, no program in sight. -/
import Derived.Test.YtlpdanghcdajmaaDoorCp
namespace Go.Proofs.YtlpdanghcdajmaaDoor

theorem L1_zero {x : Nat} (hx : x < 4294967296) (h : L1 x = 0) : x = 0 := by
  unfold L1 at h
  by_cases ho : x % 2 = 1
  · rw [if_pos ho] at h
    have h2 : x / 2 = P32 := by
      have := congrArg (· ^^^ P32) h
      simp only [Nat.xor_assoc, Nat.xor_self, Nat.xor_zero, Nat.zero_xor] at this
      exact this
    have : P32 = 3988292384 := rfl
    omega
  · rw [if_neg ho] at h; omega
theorem rep_L1_zero : ∀ (n : Nat) {x : Nat}, x < 4294967296 → rep L1 n x = 0 → x = 0
  | 0, _, _, h => h
  | n + 1, _, hx, h => L1_zero hx (rep_L1_zero n (lin_L1.bd _ hx) h)
theorem rep_Z_L1 : ∀ (n x : Nat), rep Z n x = rep L1 (8 * n) x
  | 0, _ => rfl
  | n + 1, x => by
    have e : 8 * (n + 1) = 8 + 8 * n := by omega
    have e2 := rep_add L1 x 8 (8 * n)
    rw [e, e2]
    exact rep_Z_L1 n (Z x)
theorem F_flip (v : Nat) (b' : UInt8) : ∀ (l : List UInt8) (c j : Nat), (hj : j < l.length) → b'.toNat = l[j].toNat ^^^ v → F c (l.set j b') = F c l ^^^ rep Z (l.length - j) v
  | b :: l, c, 0, _, h => by
    show F (Z (c ^^^ b'.toNat)) l = F (Z (c ^^^ b.toNat)) l ^^^ rep Z l.length (Z v)
    have h' : b'.toNat = b.toNat ^^^ v := h
    rw [h', ← Nat.xor_assoc, lin_Z.xor, F_xor]
  | b :: l, c, j + 1, hj, h => by
    have e : (b :: l).length - (j + 1) = l.length - j := by simp
    rw [e]
    exact F_flip v b' l (Z (c ^^^ b.toNat)) j (by simpa using hj) h
theorem flip_bit {len j r p i : Nat} (h1 : p + i = 8 * j + r) (h2 : p + i < 8 * len) : rep Z (len - j) (2 ^ r) = rep L1 (8 * len - p) (2 ^ i) := by
  have a1 : 8 * (len - j) = r + (8 * len - (p + i)) := by omega
  have a2 : 8 * len - p = i + (8 * len - (p + i)) := by omega
  have e : ∀ k, rep L1 k (2 ^ k) = 1 := fun k => by have := L1_out 1 k; rwa [Nat.mul_one] at this
  rw [rep_Z_L1, a1, a2, rep_add, rep_add, e, e]
/-- The texts so far: those bits of 'fl' that stand below place i are turned. -/
structure Turn (o : Nat) (s : List UInt8) (p fl i : Nat) (B : List UInt8) : Prop where
  len : B.length = s.length
  reg : F o B = F o s ^^^ rep L1 (8 * s.length - p) (fl % 2 ^ i)
theorem Turn.start (o : Nat) (s : List UInt8) (p fl : Nat) : Turn o s p fl 0 s := by
  refine ⟨rfl, ?_⟩
  have : fl % 2 ^ 0 = 0 := by simp [Nat.mod_one]
  rw [this, (rep_lin lin_L1 _).zero, Nat.xor_zero]
theorem Turn.skip {o : Nat} {s B : List UInt8} {p fl i : Nat} (h : Turn o s p fl i B) (hb : fl / 2 ^ i % 2 = 0) : Turn o s p fl (i + 1) B := by
  refine ⟨h.len, ?_⟩
  rw [mod_join, hb, Nat.mul_zero, Nat.xor_zero]; exact h.reg
theorem Turn.flip {o : Nat} {s B : List UInt8} {p fl i j r : Nat} (h : Turn o s p fl i B) (hb : fl / 2 ^ i % 2 = 1) (h1 : p + i = 8 * j + r) (h2 : p + i < 8 * s.length) (b' : UInt8) (hj : j < B.length) (hv : b'.toNat = B[j].toNat ^^^ 2 ^ r) :
    Turn o s p fl (i + 1) (B.set j b') := by
  refine ⟨by rw [List.length_set]; exact h.len, ?_⟩
  rw [F_flip (2 ^ r) b' B o j hj hv, h.reg, h.len, flip_bit h1 h2, mod_join, hb, Nat.mul_one, (rep_lin lin_L1 _).xor, Nat.xor_assoc]
theorem xor_eq_self {a b : Nat} (h : a ^^^ b = a) : b = 0 := by
  have := congrArg (a ^^^ ·) h
  simp only [← Nat.xor_assoc, Nat.xor_self, Nat.zero_xor] at this
  exact this
theorem Turn.end' {o : Nat} {s B : List UInt8} {p fl i : Nat} (h : Turn o s p fl i B) (hi : i ≤ 32) : (o ^^^ F o B = o ^^^ F o s) ↔ fl % 2 ^ i = 0 := by
  have hlt : fl % 2 ^ i < 4294967296 := by
    have h1 : fl % 2 ^ i < 2 ^ i := Nat.mod_lt _ (Nat.two_pow_pos i)
    have h2 : 2 ^ i ≤ 2 ^ 32 := Nat.pow_le_pow_right (by decide) hi
    exact Nat.lt_of_lt_of_le h1 h2
  rw [h.reg]
  constructor
  · intro he
    have h1 : F o s ^^^ rep L1 (8 * s.length - p) (fl % 2 ^ i) = F o s := by
      have := congrArg (o ^^^ ·) he
      simp only [xor_twice] at this
      exact this
    exact rep_L1_zero _ hlt (xor_eq_self h1)
  · intro he
    rw [he, (rep_lin lin_L1 _).zero, Nat.xor_zero]
theorem Turn.sums {s B : List UInt8} {p fl i : Nat} (h : Turn ones s p fl i B) (hi : i ≤ 32) : (sumN B = sumN s) ↔ fl % 2 ^ i = 0 := h.end' hi
end Go.Proofs.YtlpdanghcdajmaaDoor
