/- Sums of bytes (layer 15), in plain words: no program in sight. -/
import Derived.Laws.BytesArg
namespace Go.Proofs.YtdbiebnnogjccaaGreatDoor

def tbl (i : Nat) : Nat := [0, 498536548, 997073096, 651767980, 1994146192, 1802195444, 1303535960, 1342533948, 3988292384, 4027552580, 3604390888, 3412177804, 2607071920, 2262029012, 2685067896, 3183342108].getD i 0
def P32 : Nat := 3988292384
/-- One bit. -/
def L1 (x : Nat) : Nat := if x % 2 = 1 then x / 2 ^^^ P32 else x / 2
def rep (f : Nat → Nat) : Nat → Nat → Nat
  | 0, x => x
  | n + 1, x => rep f n (f x)
def stepN (n b : Nat) : Nat :=
  let m := n / 16 ^^^ tbl ((n ^^^ b) % 16)
  m / 16 ^^^ tbl ((m ^^^ b / 16) % 16)
/-- Linear, and within 32 bits. -/
structure Lin (M : Nat → Nat) : Prop where
  zero : M 0 = 0
  xor : ∀ x y, M (x ^^^ y) = M x ^^^ M y
  bd : ∀ x, x < 4294967296 → M x < 4294967296
theorem xor_half (x y : Nat) : (x ^^^ y) / 2 = x / 2 ^^^ y / 2 := Nat.xor_div_two
theorem xor_odd (x y : Nat) : (x ^^^ y) % 2 = (x % 2) ^^^ (y % 2) := Nat.xor_mod_two_pow (n := 1)
theorem xlc (a b c : Nat) : a ^^^ (b ^^^ c) = b ^^^ (a ^^^ c) := by rw [← Nat.xor_assoc, Nat.xor_comm a, Nat.xor_assoc]
theorem xor_lt {x y : Nat} (hx : x < 4294967296) (hy : y < 4294967296) : x ^^^ y < 4294967296 := Nat.xor_lt_two_pow (n := 32) hx hy
theorem lin_L1 : Lin L1 := by
  refine ⟨by decide, fun x y => ?_, fun x hx => ?_⟩
  · unfold L1
    rw [xor_half, xor_odd]
    rcases Nat.mod_two_eq_zero_or_one x with h | h <;> rcases Nat.mod_two_eq_zero_or_one y with k | k <;> rw [h, k]
    · simp
    · simp [Nat.xor_assoc]
    · simp [Nat.xor_comm, xlc]
    · simp only [Nat.xor_self, if_true]
      rw [if_neg (by decide), Nat.xor_assoc, xlc P32, Nat.xor_self, Nat.xor_zero]
  · unfold L1
    split
    · exact xor_lt (by omega) (by decide)
    · omega
theorem Lin.comp {M K : Nat → Nat} (hm : Lin M) (hk : Lin K) : Lin (fun x => M (K x)) :=
  ⟨by simp only [hk.zero, hm.zero], fun x y => by simp only [hk.xor, hm.xor], fun x hx => hm.bd _ (hk.bd _ hx)⟩
theorem rep_lin {M : Nat → Nat} (hm : Lin M) : ∀ n, Lin (rep M n)
  | 0 => ⟨rfl, fun _ _ => rfl, fun _ h => h⟩
  | n + 1 => ⟨by show rep M n (M 0) = 0; rw [hm.zero, (rep_lin hm n).zero], fun x y => by show rep M n (M (x ^^^ y)) = _; rw [hm.xor, (rep_lin hm n).xor]; rfl, fun x h => (rep_lin hm n).bd _ (hm.bd _ h)⟩
theorem rep_add (f : Nat → Nat) (x : Nat) : ∀ n m, rep f (n + m) x = rep f m (rep f n x) := by
  intro n
  induction n generalizing x with
  | zero => intro m; rw [Nat.zero_add]; rfl
  | succ n ih => intro m; rw [Nat.succ_add]; exact ih (f x) m
/-- Four bits that are noughts are shifted out. -/
theorem L1_twice (x : Nat) : L1 (2 * x) = x := by
  unfold L1; rw [if_neg (by omega)]; omega
theorem L4_sixteen (x : Nat) : rep L1 4 (16 * x) = x := by
  show L1 (L1 (L1 (L1 (16 * x)))) = x
  have : 16 * x = 2 * (2 * (2 * (2 * x))) := by omega
  rw [this, L1_twice, L1_twice, L1_twice, L1_twice]
theorem L4_small : ∀ r, r < 16 → rep L1 4 r = tbl r := by decide
theorem split16 (x : Nat) : x = 16 * (x / 16) ^^^ x % 16 := by
  apply Nat.eq_of_testBit_eq
  intro i
  rw [Nat.testBit_xor, show (16 : Nat) = 2 ^ 4 by decide, Nat.testBit_two_pow_mul, Nat.testBit_mod_two_pow, Nat.testBit_div_two_pow]
  by_cases h : i < 4
  · have : ¬ 4 ≤ i := by omega
    simp [h, this]
  · have h4 : 4 ≤ i := by omega
    simp [h, h4]
theorem L4_eq (x : Nat) : rep L1 4 x = x / 16 ^^^ tbl (x % 16) := by
  have h := (rep_lin lin_L1 4).xor (16 * (x / 16)) (x % 16)
  rw [← split16, L4_sixteen, L4_small _ (Nat.mod_lt _ (by decide))] at h
  exact h
def Z (x : Nat) : Nat := rep L1 8 x
theorem lin_Z : Lin Z := rep_lin lin_L1 8
theorem xor_mod16 (x y : Nat) : (x ^^^ y) % 16 = x % 16 ^^^ y % 16 := Nat.xor_mod_two_pow (n := 4)
theorem xor_div16 (x y : Nat) : (x ^^^ y) / 16 = x / 16 ^^^ y / 16 := Nat.xor_div_two_pow (n := 4)
/-- The table's step is eight bits. -/
theorem stepN_eq (n b : Nat) (hb : b < 256) : stepN n b = Z (n ^^^ b) := by
  have e : Z (n ^^^ b) = rep L1 4 (rep L1 4 (n ^^^ b)) := rep_add L1 (n ^^^ b) 4 4
  have e1 : rep L1 4 (n ^^^ b) = (n / 16 ^^^ tbl ((n ^^^ b) % 16)) ^^^ b / 16 := by
    rw [L4_eq, xor_div16, Nat.xor_assoc, Nat.xor_comm (b / 16), Nat.xor_assoc]
  rw [e, e1]
  unfold stepN
  simp only
  generalize n / 16 ^^^ tbl ((n ^^^ b) % 16) = m
  rw [L4_eq, xor_div16]
  have : b / 16 / 16 = 0 := by omega
  rw [this, Nat.xor_zero]

/-! ### bit by bit -/
def bitN (c b : Nat) : Nat → Nat
  | 0 => c
  | k + 1 => L1 (bitN c b k ^^^ b / 2 ^ k % 2)
theorem L1_out (t : Nat) : ∀ k, rep L1 k (2 ^ k * t) = t
  | 0 => by simp [rep]
  | k + 1 => by
    show rep L1 k (L1 (2 ^ (k + 1) * t)) = t
    have : 2 ^ (k + 1) * t = 2 * (2 ^ k * t) := by rw [Nat.pow_succ, Nat.mul_comm (2 ^ k) 2, Nat.mul_assoc]
    rw [this, L1_twice]
    exact L1_out t k
theorem mod_join (b k : Nat) : b % 2 ^ (k + 1) = b % 2 ^ k ^^^ 2 ^ k * (b / 2 ^ k % 2) := by
  apply Nat.eq_of_testBit_eq
  intro i
  have e2 : b / 2 ^ k % 2 = (b / 2 ^ k) % 2 ^ 1 := rfl
  rw [Nat.testBit_xor, Nat.testBit_mod_two_pow, Nat.testBit_mod_two_pow, Nat.testBit_two_pow_mul, e2, Nat.testBit_mod_two_pow, Nat.testBit_div_two_pow]
  by_cases h : i < k
  · have h1 : i < k + 1 := by omega
    have h2 : ¬ k ≤ i := by omega
    simp [h, h1, h2]
  · by_cases h3 : i = k
    · subst h3; simp
    · have h1 : ¬ i < k + 1 := by omega
      have h2 : ¬ i - k < 1 := by omega
      simp [h, h1, h2]
theorem bitN_eq (c b : Nat) : ∀ k, bitN c b k = rep L1 k (c ^^^ b % 2 ^ k)
  | 0 => by show c = c ^^^ b % 1; rw [Nat.mod_one, Nat.xor_zero]
  | k + 1 => by
    have e : rep L1 k (c ^^^ b % 2 ^ k ^^^ 2 ^ k * (b / 2 ^ k % 2)) = rep L1 k (c ^^^ b % 2 ^ k) ^^^ b / 2 ^ k % 2 := by rw [(rep_lin lin_L1 k).xor, L1_out]
    rw [bitN, bitN_eq c b k, rep_add L1 _ k 1, mod_join, ← Nat.xor_assoc, e]
    rfl
theorem bitN_8 (c b : Nat) (hb : b < 256) : bitN c b 8 = Z (c ^^^ b) := by
  have : b % 2 ^ 8 = b := Nat.mod_eq_of_lt hb
  rw [bitN_eq, this]; rfl
theorem bitN_lt (c b : Nat) (hc : c < 4294967296) : ∀ k, bitN c b k < 4294967296
  | 0 => hc
  | k + 1 => lin_L1.bd _ (xor_lt (bitN_lt c b hc k) (by omega))
theorem bit_unlike (c t : Nat) (ht : t < 2) (h : ¬ c % 2 = t) : L1 (c ^^^ t) = c / 2 ^^^ P32 := by
  unfold L1
  have h1 : (c ^^^ t) % 2 = 1 := by
    rw [xor_odd]
    rcases Nat.mod_two_eq_zero_or_one c with a | a <;> rcases (by omega : t = 0 ∨ t = 1) with rfl | rfl <;> rw [a] at h ⊢ <;> first | rfl | exact absurd rfl h
  have h2 : (c ^^^ t) / 2 = c / 2 := by
    have : t / 2 = 0 := by omega
    rw [xor_half, this, Nat.xor_zero]
  rw [if_pos h1, h2]
theorem bit_like (c t : Nat) (ht : t < 2) (h : c % 2 = t) : L1 (c ^^^ t) = c / 2 := by
  unfold L1
  have h1 : ¬ (c ^^^ t) % 2 = 1 := by
    rw [xor_odd]
    rcases Nat.mod_two_eq_zero_or_one c with a | a <;> rcases (by omega : t = 0 ∨ t = 1) with rfl | rfl <;> rw [a] at h ⊢ <;> first | decide | exact absurd h (by decide)
  have h2 : (c ^^^ t) / 2 = c / 2 := by
    have : t / 2 = 0 := by omega
    rw [xor_half, this, Nat.xor_zero]
  rw [if_neg h1, h2]

/-! ### matrices -/
def accM (M : Nat → Nat) (x : Nat) : Nat → Nat
  | 0 => 0
  | k + 1 => if x / 2 ^ k % 2 = 1 then accM M x k ^^^ M (2 ^ k) else accM M x k
theorem accM_eq {M : Nat → Nat} (hm : Lin M) (x : Nat) : ∀ k, accM M x k = M (x % 2 ^ k)
  | 0 => by show 0 = M (x % 1); rw [Nat.mod_one, hm.zero]
  | k + 1 => by
    rw [accM, mod_join, hm.xor, accM_eq hm x k]
    rcases Nat.mod_two_eq_zero_or_one (x / 2 ^ k) with h | h
    · rw [if_neg (by omega), h, Nat.mul_zero, hm.zero, Nat.xor_zero]
    · rw [if_pos h, h, Nat.mul_one]
theorem accM_32 {M : Nat → Nat} (hm : Lin M) {x : Nat} (hx : x < 4294967296) : accM M x 32 = M x := by
  have : x % 2 ^ 32 = x := Nat.mod_eq_of_lt hx
  rw [accM_eq hm, this]
theorem accM_lt {M : Nat → Nat} (hm : Lin M) {x : Nat} (hx : x < 4294967296) (k : Nat) : accM M x k < 4294967296 := by
  rw [accM_eq hm]; exact hm.bd _ (Nat.lt_of_le_of_lt (Nat.mod_le _ _) hx)
theorem pow_lt32 {k : Nat} (h : k < 32) : 2 ^ k < 4294967296 := by
  have : 2 ^ k < 2 ^ 32 := Nat.pow_lt_pow_right (by decide) h
  simpa using this

/-! ### texts -/
def F (c : Nat) (l : List UInt8) : Nat := l.foldl (fun c b => Z (c ^^^ b.toNat)) c
theorem byte_lt (b : UInt8) : b.toNat < 4294967296 := Nat.lt_trans b.toNat_lt (by decide)
theorem F_lt : ∀ (l : List UInt8) (c : Nat), c < 4294967296 → F c l < 4294967296
  | [], _, h => h
  | b :: l, _, h => F_lt l _ (lin_Z.bd _ (xor_lt h (byte_lt b)))
theorem F_snoc (c : Nat) (l : List UInt8) (b : UInt8) : F c (l ++ [b]) = Z (F c l ^^^ b.toNat) := by simp [F]
theorem F_append (c : Nat) (l m : List UInt8) : F c (l ++ m) = F (F c l) m := by simp [F]
/-- The sum of two. -/
theorem F_xor : ∀ (l : List UInt8) (c d : Nat), F (c ^^^ d) l = F c l ^^^ rep Z l.length d
  | [], _, _ => rfl
  | b :: l, c, d => by
    show F (Z (c ^^^ d ^^^ b.toNat)) l = F (Z (c ^^^ b.toNat)) l ^^^ rep Z l.length (Z d)
    rw [Nat.xor_assoc, Nat.xor_comm d, ← Nat.xor_assoc, lin_Z.xor]
    exact F_xor l _ _
theorem ones_ex : ∃ n : Nat, n = 4294967295 := ⟨_, rfl⟩
/-- Thirty-two ones, out of the kernel's sight (it would unfold the literal). -/
noncomputable def ones : Nat := Classical.choose ones_ex
theorem ones_eq : ones = 4294967295 := Classical.choose_spec ones_ex
theorem ones_lt : ones < 4294967296 := by rw [ones_eq]; decide
noncomputable def not32 (x : Nat) : Nat := ones ^^^ x
theorem not32_lt {x : Nat} (h : x < 4294967296) : not32 x < 4294967296 := xor_lt ones_lt h
theorem xor_twice (o x : Nat) : o ^^^ (o ^^^ x) = x := by rw [← Nat.xor_assoc, Nat.xor_self, Nat.zero_xor]
theorem not32_not32 (x : Nat) : not32 (not32 x) = x := xor_twice ones x
theorem app_law (o : Nat) (l m : List UInt8) : o ^^^ F o (l ++ m) = rep Z m.length (o ^^^ F o l) ^^^ (o ^^^ F o m) := by
  have e : F o l = o ^^^ (o ^^^ F o l) := (xor_twice _ _).symm
  have e1 : F o (l ++ m) = F o m ^^^ rep Z m.length (o ^^^ F o l) := by
    rw [F_append]
    conv => lhs; rw [e]
    rw [F_xor]
  rw [e1, Nat.xor_comm (rep Z m.length (o ^^^ F o l)), Nat.xor_assoc]
noncomputable def sumN (l : List UInt8) : Nat := not32 (F ones l)
theorem sumN_lt (l : List UInt8) : sumN l < 4294967296 := not32_lt (F_lt l _ ones_lt)
noncomputable def nextN (c b : Nat) : Nat := not32 (stepN (not32 c) b)
def joinN (a b n : Nat) : Nat := rep Z n a ^^^ b
theorem sumN_append (l m : List UInt8) : sumN (l ++ m) = joinN (sumN l) (sumN m) m.length := app_law ones l m
theorem sumN_snoc (l : List UInt8) (b : UInt8) : sumN (l ++ [b]) = nextN (sumN l) b.toNat := by
  unfold nextN sumN; rw [F_snoc, not32_not32, stepN_eq _ _ b.toNat_lt]
end Go.Proofs.YtdbiebnnogjccaaGreatDoor

/- Numbers and texts as bytes (layer 16), in plain words: no program in sight. -/
namespace Go.Proofs.YtdbiebnnogjccaaGreatDoor

def sizeB (n : Int) : Bool := n == 1 || n == 2 || n == 4 || n == 8

/-- The k lowest bytes of v, the highest first. -/
def lowBE (v : Int) : Nat → List Int
  | 0 => []
  | k + 1 => v / 256 ^ k % 256 :: lowBE v k

theorem sizeB_cases {n : Int} (h : sizeB n = true) : n = 1 ∨ n = 2 ∨ n = 4 ∨ n = 8 := by
  simp only [sizeB, Bool.or_eq_true, beq_iff_eq] at h; omega

def numR (v n : Int) : ByteArray × Int :=
  if sizeB n = false then (⟨#[]⟩, 1) else if n < 8 ∧ 256 ^ n.toNat ≤ v then (⟨#[]⟩, 2) else (strOfNums (lowBE v n.toNat), 0)

def textR (s : ByteArray) : ByteArray × Int := if 65535 < s.size then (⟨#[]⟩, 2) else (strOfNums (lowBE s.size 2) ++ s, 0)
/-- A number out of bytes, the highest first. -/
def valBE (l : List UInt8) : Int := l.foldl (fun a c => a * 256 + (c.toNat : Int)) 0
theorem valBE_snoc (l : List UInt8) (c : UInt8) : valBE (l ++ [c]) = valBE l * 256 + (c.toNat : Int) := by simp [valBE]
theorem valBE_bd : ∀ (n : Nat) (l : List UInt8), l.length = n → 0 ≤ valBE l ∧ valBE l < 256 ^ n := by
  intro n
  induction n with
  | zero => intro l h; obtain rfl := List.eq_nil_of_length_eq_zero h; exact ⟨by decide, by decide⟩
  | succ n ih =>
    intro l h
    obtain ⟨l', c, rfl⟩ : ∃ l' c, l = l' ++ [c] := ⟨l.dropLast, l.getLast (by intro hn; subst hn; simp at h), (List.dropLast_concat_getLast _).symm⟩
    have := ih l' (by simpa using h)
    rw [valBE_snoc, Int.pow_succ]
    have hc : c.toNat < 256 := c.toNat_lt
    omega

theorem take_snocB (l : List UInt8) (k : Nat) (h : k < l.length) : l.take (k + 1) = l.take k ++ [l.getD k 0] := by
  rw [List.take_succ_eq_append_getElem h]; simp [List.getD, h]

def takeR (b : ByteArray) (a n : Int) : Int × Int × Int :=
  if sizeB n = false then (0, 0, 1) else if a < 0 ∨ (b.size : Int) < a ∨ (b.size : Int) - a < n then (0, 0, 11)
  else (valBE ((b.data.toList.drop a.toNat).take n.toNat), a + n, 0)

theorem takeR2_ok {b : ByteArray} {a : Int} (h : (takeR b a 2).2.2 = 0) : 0 ≤ a ∧ a + 2 ≤ b.size ∧ takeR b a 2 = (valBE ((b.data.toList.drop a.toNat).take 2), a + 2, 0) ∧ 0 ≤ valBE ((b.data.toList.drop a.toNat).take 2) ∧ valBE ((b.data.toList.drop a.toNat).take 2) < 65536 := by
  have hs : sizeB 2 = true := by decide
  unfold takeR at h ⊢
  rw [if_neg (by simp [hs])] at h ⊢
  by_cases hc : a < 0 ∨ (b.size : Int) < a ∨ (b.size : Int) - a < 2
  · rw [if_pos hc] at h; exact absurd h (by decide)
  · rw [if_neg hc]
    have := valBE_bd 2 ((b.data.toList.drop a.toNat).take 2) (by rw [List.length_take, List.length_drop, Array.length_toList, ByteArray.size_data]; omega)
    refine ⟨by omega, by omega, rfl, this.1, by have := this.2; simpa using this⟩
def cutR (b : ByteArray) (a most : Int) : ByteArray × Int × Int :=
  let t := takeR b a 2
  if t.2.2 ≠ 0 then (⟨#[]⟩, 0, t.2.2) else if (b.size : Int) - t.2.1 < t.1 then (⟨#[]⟩, 0, 11) else if most < t.1 then (⟨#[]⟩, 0, 2)
  else (b.extract t.2.1.toNat (t.2.1 + t.1).toNat, t.2.1 + t.1, 0)

end Go.Proofs.YtdbiebnnogjccaaGreatDoor

/- Numbers and texts as bytes: there and back, and order. In plain words. -/
namespace Go.Proofs.YtdbiebnnogjccaaGreatDoor

theorem valBE_foldl (l : List UInt8) : ∀ a : Int, l.foldl (fun a c => a * 256 + (c.toNat : Int)) a = a * 256 ^ l.length + valBE l := by
  induction l with
  | nil => intro a; simp [valBE]
  | cons c l ih =>
    intro a
    have e0 : valBE (c :: l) = l.foldl (fun a c => a * 256 + (c.toNat : Int)) (0 * 256 + (c.toNat : Int)) := rfl
    rw [e0, ih (0 * 256 + (c.toNat : Int)), List.foldl_cons, ih, List.length_cons, Int.pow_succ, Int.zero_mul, Int.zero_add]
    have : (a * 256 + (c.toNat : Int)) * 256 ^ l.length = a * (256 ^ l.length * 256) + (c.toNat : Int) * 256 ^ l.length := by
      rw [Int.add_mul, Int.mul_assoc, Int.mul_comm 256]
    rw [this]; omega
theorem valBE_cons (c : UInt8) (l : List UInt8) : valBE (c :: l) = (c.toNat : Int) * 256 ^ l.length + valBE l := by
  have := valBE_foldl l (0 * 256 + (c.toNat : Int))
  rw [Int.zero_mul, Int.zero_add] at this
  rw [valBE, List.foldl_cons, Int.zero_mul, Int.zero_add, this]
/-- The bytes themselves. -/
def beBytes (v : Int) (n : Nat) : List UInt8 := (lowBE v n).map fun x => UInt8.ofNat x.toNat
theorem lowBE_length (v : Int) : ∀ n, (lowBE v n).length = n
  | 0 => rfl
  | n + 1 => by rw [lowBE, List.length_cons, lowBE_length v n]
theorem beBytes_length (v : Int) (n : Nat) : (beBytes v n).length = n := by rw [beBytes, List.length_map, lowBE_length]
theorem beBytes_succ (v : Int) (n : Nat) : beBytes v (n + 1) = UInt8.ofNat (v / 256 ^ n % 256).toNat :: beBytes v n := rfl
theorem byte_toNat (x : Int) (h0 : 0 ≤ x) (h1 : x < 256) : ((UInt8.ofNat x.toNat).toNat : Int) = x := by
  rw [UInt8.toNat_ofNat', Nat.mod_eq_of_lt (by omega)]; omega
theorem valBE_beBytes (v : Int) : ∀ n, valBE (beBytes v n) = v % 256 ^ n
  | 0 => by simp [beBytes, lowBE, valBE, Int.emod_one]
  | n + 1 => by
    rw [beBytes_succ, valBE_cons, beBytes_length, valBE_beBytes v n, byte_toNat _ (Int.emod_nonneg _ (by decide)) (Int.emod_lt_of_pos _ (by decide)), Int.pow_succ]
    have hp : (0 : Int) < 256 ^ n := Int.pow_pos (by decide)
    obtain ⟨P, hP⟩ : ∃ P : Int, P = 256 ^ n := ⟨_, rfl⟩
    rw [← hP] at hp ⊢
    have h1 := Int.mul_ediv_add_emod v P
    have h2 := Int.mul_ediv_add_emod (v / P) 256
    have h3 := Int.emod_nonneg v (show P ≠ 0 by omega)
    have h4 := Int.emod_lt_of_pos v hp
    have h5 := Int.emod_nonneg (v / P) (show (256 : Int) ≠ 0 by decide)
    have h6 := Int.emod_lt_of_pos (v / P) (show (0 : Int) < 256 by decide)
    have key : v = (v / P / 256) * (P * 256) + ((v / P % 256) * P + v % P) := by
      have e1 : v = P * (256 * (v / P / 256) + v / P % 256) + v % P := by rw [h2]; exact h1.symm
      have e2 : P * (256 * (v / P / 256) + v / P % 256) = (v / P / 256) * (P * 256) + (v / P % 256) * P := by
        rw [Int.mul_add, Int.mul_comm P (v / P % 256), ← Int.mul_assoc, Int.mul_comm (v / P / 256)]
      omega
    have hlt : (v / P % 256) * P + v % P < P * 256 := by
      have : (v / P % 256) * P ≤ 255 * P := Int.mul_le_mul_of_nonneg_right (by omega) (by omega)
      omega
    have hge : 0 ≤ (v / P % 256) * P + v % P := by
      have : 0 ≤ (v / P % 256) * P := Int.mul_nonneg h5 (by omega)
      omega
    conv => rhs; rw [key]
    rw [Int.add_comm (v / P / 256 * (P * 256)), Int.add_mul_emod_self_right, Int.emod_eq_of_lt hge hlt]
theorem strOfNums_list (v : Int) (n : Nat) : (strOfNums (lowBE v n)).data.toList = beBytes v n := by rw [strOfNums_data]; rfl
theorem valBE_small {v : Int} {n : Nat} (h0 : 0 ≤ v) (h1 : v < 256 ^ n) : valBE (beBytes v n) = v := by rw [valBE_beBytes, Int.emod_eq_of_lt h0 h1]

theorem size_list (b : ByteArray) : b.data.toList.length = b.size := by rw [Array.length_toList, ByteArray.size_data]
theorem list_append (a b : ByteArray) : (a ++ b).data.toList = a.data.toList ++ b.data.toList := by simp
theorem bytes_ext {a b : ByteArray} (h : a.data.toList = b.data.toList) : a = b := by
  cases a; cases b; simp only at h; congr 1; exact Array.toList_inj.1 h

/-- The number that stands in the midst of bytes. -/
theorem takeR_mid {b : ByteArray} {p x q : List UInt8} {n : Nat} (h : b.data.toList = p ++ (x ++ q)) (hx : x.length = n) (hn : sizeB n = true) : takeR b p.length n = (valBE x, (p.length : Int) + n, 0) := by
  have hs : b.size = p.length + (n + q.length) := by rw [← size_list, h, List.length_append, List.length_append, hx]
  unfold takeR
  rw [if_neg (by simp [hn]), if_neg (by omega), h]
  simp [hx]
/-- The text that stands in the midst of bytes. -/
theorem cutR_mid {b : ByteArray} {p s q : List UInt8} {most : Int} (h : b.data.toList = p ++ (beBytes s.length 2 ++ (s ++ q))) (hs : s.length < 65536) (hm : (s.length : Int) ≤ most) :
    cutR b p.length most = (⟨s.toArray⟩, (p.length : Int) + 2 + s.length, 0) := by
  have hl : b.size = p.length + (2 + (s.length + q.length)) := by rw [← size_list, h]; simp [beBytes_length]
  have ht := takeR_mid h (beBytes_length _ _) (by decide : sizeB (2 : Nat) = true)
  rw [valBE_small (by omega) (by simp; omega)] at ht
  unfold cutR
  have e2 : ((2 : Nat) : Int) = 2 := rfl
  rw [e2] at ht
  rw [ht]
  simp only [ne_eq, not_true_eq_false, if_false]
  rw [if_neg (by omega), if_neg (by omega)]
  have : (b.extract ((p.length : Int) + 2).toNat ((p.length : Int) + 2 + s.length).toNat) = ⟨s.toArray⟩ := by
    apply bytes_ext
    have e3 : ((p.length : Int) + 2).toNat = p.length + 2 := by omega
    have e4 : ((p.length : Int) + 2 + s.length).toNat = p.length + 2 + s.length := by omega
    rw [e3, e4]
    simp only [ByteArray.data_extract, Array.toList_extract, List.extract_eq_take_drop, h]
    have e5 : p ++ (beBytes (↑s.length) 2 ++ (s ++ q)) = (p ++ beBytes (↑s.length) 2) ++ (s ++ q) := by simp
    have e6 : (p ++ beBytes (↑s.length) 2).length = p.length + 2 := by simp [beBytes_length]
    rw [e5, ← e6, List.drop_left, e6]
    have : p.length + 2 + s.length - (p.length + 2) = s.length := by omega
    rw [this, List.take_left]
  rw [this]

/-! ### order -/
theorem bytesLess_same (l : List UInt8) : Op.bytesLess l l = false := by
  induction l with
  | nil => rfl
  | cons c l ih => simp [Op.bytesLess, ih]
theorem beBytes_less (v u : Int) : ∀ n, v / 256 ^ n = u / 256 ^ n → Op.bytesLess (beBytes v n) (beBytes u n) = decide (v < u) := by
  intro n
  induction n with
  | zero =>
    intro h
    simp at h; subst h
    rw [bytesLess_same]; simp
  | succ n ih =>
    intro h
    have hd : ∀ x : Int, x / 256 ^ (n + 1) = x / 256 ^ n / 256 := fun x => by rw [Int.pow_succ, ← Int.ediv_ediv_of_nonneg (Int.pow_nonneg (by decide))]
    rw [hd, hd] at h
    rw [beBytes_succ, beBytes_succ, Op.bytesLess]
    have hp : (0 : Int) < 256 ^ n := Int.pow_pos (by decide)
    have hv0 := Int.emod_nonneg (v / 256 ^ n) (show (256 : Int) ≠ 0 by decide)
    have hv1 := Int.emod_lt_of_pos (v / 256 ^ n) (show (0 : Int) < 256 by decide)
    have hu0 := Int.emod_nonneg (u / 256 ^ n) (show (256 : Int) ≠ 0 by decide)
    have hu1 := Int.emod_lt_of_pos (u / 256 ^ n) (show (0 : Int) < 256 by decide)
    have bv := byte_toNat _ hv0 hv1
    have bu := byte_toNat _ hu0 hu1
    have mono : v / 256 ^ n < u / 256 ^ n → v < u := fun hh => by
      rcases Int.lt_or_le v u with h1 | h1
      · exact h1
      · exact absurd (Int.ediv_le_ediv hp h1) (by omega)
    by_cases heq : v / 256 ^ n = u / 256 ^ n
    · rw [ih heq, heq]; simp
    · have hne : v / 256 ^ n % 256 ≠ u / 256 ^ n % 256 := by omega
      have hb : (UInt8.ofNat (v / 256 ^ n % 256).toNat == UInt8.ofNat (u / 256 ^ n % 256).toNat) = false := by
        rw [beq_eq_false_iff_ne]; intro he; rw [he] at bv; omega
      rw [hb, Bool.false_and, Bool.or_false, decide_eq_decide, UInt8.lt_iff_toNat_lt]
      constructor
      · intro hlt; exact mono (by omega)
      · intro hlt
        rcases Int.lt_or_le (v / 256 ^ n) (u / 256 ^ n) with h1 | h1
        · omega
        · exact absurd (Int.ediv_le_ediv hp (Int.le_of_lt hlt)) (by omega)
theorem beBytes_inj {v u : Int} {n : Nat} (hv : 0 ≤ v) (hu : 0 ≤ u) (hv1 : v < 256 ^ n) (hu1 : u < 256 ^ n) (h : beBytes v n = beBytes u n) : v = u := by
  rw [← valBE_small hv hv1, h, valBE_small hu hu1]
end Go.Proofs.YtdbiebnnogjccaaGreatDoor
