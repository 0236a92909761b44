/- Sums of bytes (layer 15), in plain words: no program in sight. -/
import Derived.Laws.BytesArg
namespace Go.Proofs.YtdbiebnnogjccaaGreatDoor

def tbl (i : Nat) : Nat := [0, 498536548, 997073096, 651767980, 1994146192, 1802195444, 1303535960, 1342533948, 3988292384, 4027552580, 3604390888, 3412177804, 2607071920, 2262029012, 2685067896, 3183342108].getD i 0
def P32 : Nat := 3988292384
/-- One bit. -/
def L1 (x : Nat) : Nat := if x % 2 = 1 then x / 2 ^^^ P32 else x / 2
def rep (f : Nat → Nat) : Nat → Nat → Nat
  | 0, x => x
  | n + 1, x => rep f n (f x)
def stepN (n b : Nat) : Nat :=
  let m := n / 16 ^^^ tbl ((n ^^^ b) % 16)
  m / 16 ^^^ tbl ((m ^^^ b / 16) % 16)
/-- Linear, and within 32 bits. -/
structure Lin (M : Nat → Nat) : Prop where
  zero : M 0 = 0
  xor : ∀ x y, M (x ^^^ y) = M x ^^^ M y
  bd : ∀ x, x < 4294967296 → M x < 4294967296
theorem xor_half (x y : Nat) : (x ^^^ y) / 2 = x / 2 ^^^ y / 2 := Nat.xor_div_two
theorem xor_odd (x y : Nat) : (x ^^^ y) % 2 = (x % 2) ^^^ (y % 2) := Nat.xor_mod_two_pow (n := 1)
theorem xlc (a b c : Nat) : a ^^^ (b ^^^ c) = b ^^^ (a ^^^ c) := by rw [← Nat.xor_assoc, Nat.xor_comm a, Nat.xor_assoc]
theorem xor_lt {x y : Nat} (hx : x < 4294967296) (hy : y < 4294967296) : x ^^^ y < 4294967296 := Nat.xor_lt_two_pow (n := 32) hx hy
theorem lin_L1 : Lin L1 := by
  refine ⟨by decide, fun x y => ?_, fun x hx => ?_⟩
  · unfold L1
    rw [xor_half, xor_odd]
    rcases Nat.mod_two_eq_zero_or_one x with h | h <;> rcases Nat.mod_two_eq_zero_or_one y with k | k <;> rw [h, k]
    · simp
    · simp [Nat.xor_assoc]
    · simp [Nat.xor_comm, xlc]
    · simp only [Nat.xor_self, if_true]
      rw [if_neg (by decide), Nat.xor_assoc, xlc P32, Nat.xor_self, Nat.xor_zero]
  · unfold L1
    split
    · exact xor_lt (by omega) (by decide)
    · omega
theorem Lin.comp {M K : Nat → Nat} (hm : Lin M) (hk : Lin K) : Lin (fun x => M (K x)) :=
  ⟨by simp only [hk.zero, hm.zero], fun x y => by simp only [hk.xor, hm.xor], fun x hx => hm.bd _ (hk.bd _ hx)⟩
theorem rep_lin {M : Nat → Nat} (hm : Lin M) : ∀ n, Lin (rep M n)
  | 0 => ⟨rfl, fun _ _ => rfl, fun _ h => h⟩
  | n + 1 => ⟨by show rep M n (M 0) = 0; rw [hm.zero, (rep_lin hm n).zero], fun x y => by show rep M n (M (x ^^^ y)) = _; rw [hm.xor, (rep_lin hm n).xor]; rfl, fun x h => (rep_lin hm n).bd _ (hm.bd _ h)⟩
theorem rep_add (f : Nat → Nat) (x : Nat) : ∀ n m, rep f (n + m) x = rep f m (rep f n x) := by
  intro n
  induction n generalizing x with
  | zero => intro m; rw [Nat.zero_add]; rfl
  | succ n ih => intro m; rw [Nat.succ_add]; exact ih (f x) m
/-- Four bits that are noughts are shifted out. -/
theorem L1_twice (x : Nat) : L1 (2 * x) = x := by
  unfold L1; rw [if_neg (by omega)]; omega
theorem L4_sixteen (x : Nat) : rep L1 4 (16 * x) = x := by
  show L1 (L1 (L1 (L1 (16 * x)))) = x
  have : 16 * x = 2 * (2 * (2 * (2 * x))) := by omega
  rw [this, L1_twice, L1_twice, L1_twice, L1_twice]
theorem L4_small : ∀ r, r < 16 → rep L1 4 r = tbl r := by decide
theorem split16 (x : Nat) : x = 16 * (x / 16) ^^^ x % 16 := by
  apply Nat.eq_of_testBit_eq
  intro i
  rw [Nat.testBit_xor, show (16 : Nat) = 2 ^ 4 by decide, Nat.testBit_two_pow_mul, Nat.testBit_mod_two_pow, Nat.testBit_div_two_pow]
  by_cases h : i < 4
  · have : ¬ 4 ≤ i := by omega
    simp [h, this]
  · have h4 : 4 ≤ i := by omega
    simp [h, h4]
theorem L4_eq (x : Nat) : rep L1 4 x = x / 16 ^^^ tbl (x % 16) := by
  have h := (rep_lin lin_L1 4).xor (16 * (x / 16)) (x % 16)
  rw [← split16, L4_sixteen, L4_small _ (Nat.mod_lt _ (by decide))] at h
  exact h
def Z (x : Nat) : Nat := rep L1 8 x
theorem lin_Z : Lin Z := rep_lin lin_L1 8
theorem xor_mod16 (x y : Nat) : (x ^^^ y) % 16 = x % 16 ^^^ y % 16 := Nat.xor_mod_two_pow (n := 4)
theorem xor_div16 (x y : Nat) : (x ^^^ y) / 16 = x / 16 ^^^ y / 16 := Nat.xor_div_two_pow (n := 4)
/-- The table's step is eight bits. -/
theorem stepN_eq (n b : Nat) (hb : b < 256) : stepN n b = Z (n ^^^ b) := by
  have e : Z (n ^^^ b) = rep L1 4 (rep L1 4 (n ^^^ b)) := rep_add L1 (n ^^^ b) 4 4
  have e1 : rep L1 4 (n ^^^ b) = (n / 16 ^^^ tbl ((n ^^^ b) % 16)) ^^^ b / 16 := by
    rw [L4_eq, xor_div16, Nat.xor_assoc, Nat.xor_comm (b / 16), Nat.xor_assoc]
  rw [e, e1]
  unfold stepN
  simp only
  generalize n / 16 ^^^ tbl ((n ^^^ b) % 16) = m
  rw [L4_eq, xor_div16]
  have : b / 16 / 16 = 0 := by omega
  rw [this, Nat.xor_zero]

/-! ### bit by bit -/
def bitN (c b : Nat) : Nat → Nat
  | 0 => c
  | k + 1 => L1 (bitN c b k ^^^ b / 2 ^ k % 2)
theorem L1_out (t : Nat) : ∀ k, rep L1 k (2 ^ k * t) = t
  | 0 => by simp [rep]
  | k + 1 => by
    show rep L1 k (L1 (2 ^ (k + 1) * t)) = t
    have : 2 ^ (k + 1) * t = 2 * (2 ^ k * t) := by rw [Nat.pow_succ, Nat.mul_comm (2 ^ k) 2, Nat.mul_assoc]
    rw [this, L1_twice]
    exact L1_out t k
theorem mod_join (b k : Nat) : b % 2 ^ (k + 1) = b % 2 ^ k ^^^ 2 ^ k * (b / 2 ^ k % 2) := by
  apply Nat.eq_of_testBit_eq
  intro i
  have e2 : b / 2 ^ k % 2 = (b / 2 ^ k) % 2 ^ 1 := rfl
  rw [Nat.testBit_xor, Nat.testBit_mod_two_pow, Nat.testBit_mod_two_pow, Nat.testBit_two_pow_mul, e2, Nat.testBit_mod_two_pow, Nat.testBit_div_two_pow]
  by_cases h : i < k
  · have h1 : i < k + 1 := by omega
    have h2 : ¬ k ≤ i := by omega
    simp [h, h1, h2]
  · by_cases h3 : i = k
    · subst h3; simp
    · have h1 : ¬ i < k + 1 := by omega
      have h2 : ¬ i - k < 1 := by omega
      simp [h, h1, h2]
theorem bitN_eq (c b : Nat) : ∀ k, bitN c b k = rep L1 k (c ^^^ b % 2 ^ k)
  | 0 => by show c = c ^^^ b % 1; rw [Nat.mod_one, Nat.xor_zero]
  | k + 1 => by
    have e : rep L1 k (c ^^^ b % 2 ^ k ^^^ 2 ^ k * (b / 2 ^ k % 2)) = rep L1 k (c ^^^ b % 2 ^ k) ^^^ b / 2 ^ k % 2 := by rw [(rep_lin lin_L1 k).xor, L1_out]
    rw [bitN, bitN_eq c b k, rep_add L1 _ k 1, mod_join, ← Nat.xor_assoc, e]
    rfl
theorem bitN_8 (c b : Nat) (hb : b < 256) : bitN c b 8 = Z (c ^^^ b) := by
  have : b % 2 ^ 8 = b := Nat.mod_eq_of_lt hb
  rw [bitN_eq, this]; rfl
theorem bitN_lt (c b : Nat) (hc : c < 4294967296) : ∀ k, bitN c b k < 4294967296
  | 0 => hc
  | k + 1 => lin_L1.bd _ (xor_lt (bitN_lt c b hc k) (by omega))
theorem bit_unlike (c t : Nat) (ht : t < 2) (h : ¬ c % 2 = t) : L1 (c ^^^ t) = c / 2 ^^^ P32 := by
  unfold L1
  have h1 : (c ^^^ t) % 2 = 1 := by
    rw [xor_odd]
    rcases Nat.mod_two_eq_zero_or_one c with a | a <;> rcases (by omega : t = 0 ∨ t = 1) with rfl | rfl <;> rw [a] at h ⊢ <;> first | rfl | exact absurd rfl h
  have h2 : (c ^^^ t) / 2 = c / 2 := by
    have : t / 2 = 0 := by omega
    rw [xor_half, this, Nat.xor_zero]
  rw [if_pos h1, h2]
theorem bit_like (c t : Nat) (ht : t < 2) (h : c % 2 = t) : L1 (c ^^^ t) = c / 2 := by
  unfold L1
  have h1 : ¬ (c ^^^ t) % 2 = 1 := by
    rw [xor_odd]
    rcases Nat.mod_two_eq_zero_or_one c with a | a <;> rcases (by omega : t = 0 ∨ t = 1) with rfl | rfl <;> rw [a] at h ⊢ <;> first | decide | exact absurd h (by decide)
  have h2 : (c ^^^ t) / 2 = c / 2 := by
    have : t / 2 = 0 := by omega
    rw [xor_half, this, Nat.xor_zero]
  rw [if_neg h1, h2]

/-! ### matrices -/
def accM (M : Nat → Nat) (x : Nat) : Nat → Nat
  | 0 => 0
  | k + 1 => if x / 2 ^ k % 2 = 1 then accM M x k ^^^ M (2 ^ k) else accM M x k
theorem accM_eq {M : Nat → Nat} (hm : Lin M) (x : Nat) : ∀ k, accM M x k = M (x % 2 ^ k)
  | 0 => by show 0 = M (x % 1); rw [Nat.mod_one, hm.zero]
  | k + 1 => by
    rw [accM, mod_join, hm.xor, accM_eq hm x k]
    rcases Nat.mod_two_eq_zero_or_one (x / 2 ^ k) with h | h
    · rw [if_neg (by omega), h, Nat.mul_zero, hm.zero, Nat.xor_zero]
    · rw [if_pos h, h, Nat.mul_one]
theorem accM_32 {M : Nat → Nat} (hm : Lin M) {x : Nat} (hx : x < 4294967296) : accM M x 32 = M x := by
  have : x % 2 ^ 32 = x := Nat.mod_eq_of_lt hx
  rw [accM_eq hm, this]
theorem accM_lt {M : Nat → Nat} (hm : Lin M) {x : Nat} (hx : x < 4294967296) (k : Nat) : accM M x k < 4294967296 := by
  rw [accM_eq hm]; exact hm.bd _ (Nat.lt_of_le_of_lt (Nat.mod_le _ _) hx)
theorem pow_lt32 {k : Nat} (h : k < 32) : 2 ^ k < 4294967296 := by
  have : 2 ^ k < 2 ^ 32 := Nat.pow_lt_pow_right (by decide) h
  simpa using this

/-! ### texts -/
def F (c : Nat) (l : List UInt8) : Nat := l.foldl (fun c b => Z (c ^^^ b.toNat)) c
theorem byte_lt (b : UInt8) : b.toNat < 4294967296 := Nat.lt_trans b.toNat_lt (by decide)
theorem F_lt : ∀ (l : List UInt8) (c : Nat), c < 4294967296 → F c l < 4294967296
  | [], _, h => h
  | b :: l, _, h => F_lt l _ (lin_Z.bd _ (xor_lt h (byte_lt b)))
theorem F_snoc (c : Nat) (l : List UInt8) (b : UInt8) : F c (l ++ [b]) = Z (F c l ^^^ b.toNat) := by simp [F]
theorem F_append (c : Nat) (l m : List UInt8) : F c (l ++ m) = F (F c l) m := by simp [F]
/-- The sum of two. -/
theorem F_xor : ∀ (l : List UInt8) (c d : Nat), F (c ^^^ d) l = F c l ^^^ rep Z l.length d
  | [], _, _ => rfl
  | b :: l, c, d => by
    show F (Z (c ^^^ d ^^^ b.toNat)) l = F (Z (c ^^^ b.toNat)) l ^^^ rep Z l.length (Z d)
    rw [Nat.xor_assoc, Nat.xor_comm d, ← Nat.xor_assoc, lin_Z.xor]
    exact F_xor l _ _
theorem ones_ex : ∃ n : Nat, n = 4294967295 := ⟨_, rfl⟩
/-- Thirty-two ones, out of the kernel's sight (it would unfold the literal). -/
noncomputable def ones : Nat := Classical.choose ones_ex
theorem ones_eq : ones = 4294967295 := Classical.choose_spec ones_ex
theorem ones_lt : ones < 4294967296 := by rw [ones_eq]; decide
noncomputable def not32 (x : Nat) : Nat := ones ^^^ x
theorem not32_lt {x : Nat} (h : x < 4294967296) : not32 x < 4294967296 := xor_lt ones_lt h
theorem xor_twice (o x : Nat) : o ^^^ (o ^^^ x) = x := by rw [← Nat.xor_assoc, Nat.xor_self, Nat.zero_xor]
theorem not32_not32 (x : Nat) : not32 (not32 x) = x := xor_twice ones x
theorem app_law (o : Nat) (l m : List UInt8) : o ^^^ F o (l ++ m) = rep Z m.length (o ^^^ F o l) ^^^ (o ^^^ F o m) := by
  have e : F o l = o ^^^ (o ^^^ F o l) := (xor_twice _ _).symm
  have e1 : F o (l ++ m) = F o m ^^^ rep Z m.length (o ^^^ F o l) := by
    rw [F_append]
    conv => lhs; rw [e]
    rw [F_xor]
  rw [e1, Nat.xor_comm (rep Z m.length (o ^^^ F o l)), Nat.xor_assoc]
noncomputable def sumN (l : List UInt8) : Nat := not32 (F ones l)
theorem sumN_lt (l : List UInt8) : sumN l < 4294967296 := not32_lt (F_lt l _ ones_lt)
noncomputable def nextN (c b : Nat) : Nat := not32 (stepN (not32 c) b)
def joinN (a b n : Nat) : Nat := rep Z n a ^^^ b
theorem sumN_append (l m : List UInt8) : sumN (l ++ m) = joinN (sumN l) (sumN m) m.length := app_law ones l m
theorem sumN_snoc (l : List UInt8) (b : UInt8) : sumN (l ++ [b]) = nextN (sumN l) b.toNat := by
  unfold nextN sumN; rw [F_snoc, not32_not32, stepN_eq _ _ b.toNat_lt]
end Go.Proofs.YtdbiebnnogjccaaGreatDoor
