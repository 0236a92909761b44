/- Nodes (layer 23), plain words: the bytes of a node, the node of bytes. No program in sight. -/
import Derived.Test.YtlpdanghcdajmaaDoorNh
import Derived.Test.YtlpdanghcdajmaaDoorEr
namespace Go.Proofs.YtlpdanghcdajmaaDoor
open Go.RowKit
/-- A node. -/
structure Nd where
  lf : Bool
  I : List It
  K : List Int
  D : List Int
def Nd.good (n : Nd) : Bool := goodN n.lf n.I n.K n.D
def Nd.nil : Nd := ⟨false, [], [], []⟩
/-- How many bytes an item has. -/
def szI (x : It) : Int := 6 + (if x.size ≤ 40 then x.size else 2)
def szIs (l : List It) : Int := (l.map szI).sum
def Nd.size (n : Nd) : Int := if n.good then 2 + szIs n.I + 4 * n.K.length + 2 * n.D.length else 0
/-- An item's bytes. -/
def encI (x : It) : ByteArray := (numR x.key 4).1 ++ (numR x.size 2).1 ++ (if x.size ≤ 40 then x.text else (numR x.page 2).1)
/-- A key's and its kid's. -/
def encP (p : Int × Int) : ByteArray := (numR p.1 4).1 ++ (numR p.2 2).1
def Nd.bytes (n : Nd) : ByteArray :=
  if n.lf then n.I.foldl (fun s x => s ++ encI x) ((numR 1 1).1 ++ (numR n.I.length 1).1)
  else (n.K.zip n.D.tail).foldl (fun s x => s ++ encP x) ((numR 2 1).1 ++ (numR n.K.length 1).1 ++ (numR (n.D.headD 0) 2).1)
def Nd.enc (n : Nd) : ByteArray × Int := if n.good = false then (⟨#[]⟩, 11) else if 236 < n.size then (⟨#[]⟩, 2) else (n.bytes, 0)
/-! ### reading -/
/-- So many bytes that are taken. -/
def rdT (b : ByteArray) (a : Int) (bad : Bool) (n : Int) : ByteArray × Int × Bool :=
  if bad || decide ((b.size : Int) - a < n) then (⟨#[]⟩, a, true) else (b.extract a.toNat (a + n).toNat, a + n, false)
def rdI (b : ByteArray) (a : Int) (bad : Bool) : It × Int × Bool :=
  let k := rdR b a bad 4
  let z := rdR b k.2.1 k.2.2 2
  if z.1 ≤ 40 then let t := rdT b z.2.1 z.2.2 z.1; (⟨k.1, z.1, t.1, 0⟩, t.2.1, t.2.2)
  else let p := rdR b z.2.1 z.2.2 2; (⟨k.1, z.1, ⟨#[]⟩, p.1⟩, p.2.1, p.2.2)
def itStep (b : ByteArray) (s : List It × Int × Bool) : List It × Int × Bool :=
  if s.2.2 then s else (s.1 ++ [(rdI b s.2.1 s.2.2).1], (rdI b s.2.1 s.2.2).2.1, (rdI b s.2.1 s.2.2).2.2)
def rdIs (b : ByteArray) (s : List It × Int × Bool) : Nat → List It × Int × Bool
  | 0 => s
  | n + 1 => itStep b (rdIs b s n)
def prStep (b : ByteArray) (s : List Int × List Int × Int × Bool) : List Int × List Int × Int × Bool :=
  if s.2.2.2 then s else
    let k := rdR b s.2.2.1 s.2.2.2 4
    let d := rdR b k.2.1 k.2.2 2
    (s.1 ++ [k.1], s.2.1 ++ [d.1], d.2.1, d.2.2)
def rdPs (b : ByteArray) (s : List Int × List Int × Int × Bool) : Nat → List Int × List Int × Int × Bool
  | 0 => s
  | n + 1 => prStep b (rdPs b s n)
/-- The node that stands there, where the reader stands behind it, whether it is bad. -/
def rdN (b : ByteArray) : Nd × Int × Bool :=
  let k := rdR b 0 false 1
  let c := rdR b k.2.1 k.2.2 1
  if k.1 = 1 then let s := rdIs b ([], c.2.1, c.2.2) c.1.toNat; (⟨true, s.1, [], []⟩, s.2.1, s.2.2)
  else if k.1 = 2 then
    let d := rdR b c.2.1 c.2.2 2
    let s := rdPs b ([], [d.1], d.2.1, d.2.2) c.1.toNat
    (⟨false, [], s.1, s.2.1⟩, s.2.2.1, s.2.2.2)
  else (Nd.nil, c.2.1, c.2.2)
def decOk (b : ByteArray) : Bool := !(rdN b).2.2 && decide ((rdN b).2.1 = b.size) && (rdN b).1.good && decide ((rdN b).1.size ≤ 236)
def decN (b : ByteArray) : Nd × Int := if decOk b then ((rdN b).1, 0) else (Nd.nil, 11)
/-! ### what a number is that was read, and what is read of one that was written -/
theorem rdR_ok {b : ByteArray} {a n : Int} {bad : Bool} (hn : n = 1 ∨ n = 2 ∨ n = 4) (h : (rdR b a bad n).2.2 = false) :
    bad = false ∧ 0 ≤ a ∧ (rdR b a bad n).2.1 = a + n ∧ a + n ≤ b.size ∧ 0 ≤ (rdR b a bad n).1 ∧ (rdR b a bad n).1 < 256 ^ n.toNat ∧
      b.data.toList.take (a + n).toNat = b.data.toList.take a.toNat ++ beBytes (rdR b a bad n).1 n.toNat := by
  have hs : sizeB n = true := by rcases hn with rfl | rfl | rfl <;> decide
  unfold rdR at h ⊢
  simp only at h ⊢
  by_cases hc : (bad || (takeR b a n).2.2 != 0) = true
  · rw [if_pos hc] at h; exact absurd h (by simp)
  rw [if_neg hc]
  have hc' := hc
  simp only [Bool.or_eq_true, not_or, Bool.not_eq_true, bne_iff_ne, ne_eq, Decidable.not_not] at hc'
  obtain ⟨hb, ht⟩ := hc'
  unfold takeR at ht ⊢
  rw [if_neg (by simp [hs])] at ht ⊢
  by_cases ho : a < 0 ∨ (b.size : Int) < a ∨ (b.size : Int) - a < n
  · rw [if_pos ho] at ht; exact absurd ht (by decide)
  rw [if_neg ho]
  obtain ⟨A, rfl⟩ := Int.eq_ofNat_of_zero_le (show 0 ≤ a by omega)
  obtain ⟨N, rfl⟩ := Int.eq_ofNat_of_zero_le (show 0 ≤ n by omega)
  simp only [Int.toNat_natCast]
  have hl : ((b.data.toList.drop A).take N).length = N := by rw [List.length_take, List.length_drop, size_list]; omega
  have hv := valBE_bd N _ hl
  refine ⟨hb, by omega, trivial, by omega, hv.1, hv.2, ?_⟩
  have e1 : ((A : Int) + N).toNat = A + N := by omega
  rw [e1, List.take_add]
  congr 1
  have hinj : ∀ (l : List UInt8), beBytes (valBE l) l.length = l := by
    intro l
    induction l with
    | nil => rfl
    | cons c l ih =>
      rw [List.length_cons, beBytes_succ, valBE_cons]
      have hb := valBE_bd l.length l rfl
      have hp : (0 : Int) < 256 ^ l.length := Int.pow_pos (by decide)
      have e : ((c.toNat : Int) * 256 ^ l.length + valBE l) / 256 ^ l.length = c.toNat := by
        rw [Int.add_comm, Int.add_mul_ediv_right _ _ (by omega), Int.ediv_eq_zero_of_lt hb.1 hb.2]; omega
      have hc := c.toNat_lt
      have e2 : ((c.toNat : Int)) % 256 = c.toNat := by omega
      have e3 : beBytes ((c.toNat : Int) * 256 ^ l.length + valBE l) l.length = l := by
        have h1 : ∀ (v : Int) (n m : Nat), m ≤ n → ∀ c : Int, lowBE (c * 256 ^ n + v) m = lowBE v m := by
          intro v n m
          induction m with
          | zero => intro _ _; rfl
          | succ m ihm =>
            intro hm c
            rw [lowBE, lowBE, ihm (by omega)]
            congr 1
            obtain ⟨d, rfl⟩ : ∃ d, n = m + 1 + d := ⟨n - (m + 1), by omega⟩
            have hp : (0 : Int) < 256 ^ m := Int.pow_pos (by decide)
            have e : c * 256 ^ (m + 1 + d) + v = v + (c * 256 ^ d * 256) * 256 ^ m := by
              rw [Int.pow_add, Int.pow_succ, Int.add_comm]
              congr 1
              rw [Int.mul_comm (256 ^ m * 256) (256 ^ d), Int.mul_comm (256 ^ m) 256, ← Int.mul_assoc, ← Int.mul_assoc]
            rw [e, Int.add_mul_ediv_right _ _ (by omega), Int.add_mul_emod_self_right]
        unfold beBytes at ih ⊢
        rw [h1 _ _ _ (Nat.le_refl _)]; exact ih
      rw [e, e2, e3]
      simp
  have := hinj ((b.data.toList.drop A).take N)
  rw [hl] at this; exact this.symm
theorem rdR_mid {b : ByteArray} {a n v : Int} {q : List UInt8} (hn : n = 1 ∨ n = 2 ∨ n = 4) (ha : 0 ≤ a) (hb : a ≤ b.size) (h0 : 0 ≤ v) (h1 : v < 256 ^ n.toNat) (h : b.data.toList.drop a.toNat = beBytes v n.toNat ++ q) :
    rdR b a false n = (v, a + n, false) ∧ a + n ≤ b.size ∧ b.data.toList.drop (a + n).toNat = q := by
  have hs : sizeB n = true := by rcases hn with rfl | rfl | rfl <;> decide
  obtain ⟨A, rfl⟩ := Int.eq_ofNat_of_zero_le ha
  obtain ⟨N, rfl⟩ := Int.eq_ofNat_of_zero_le (show 0 ≤ n by omega)
  simp only [Int.toNat_natCast] at h h1
  have hl : (b.data.toList.take A).length = A := by rw [List.length_take, size_list]; omega
  have hlist : b.data.toList = b.data.toList.take A ++ (beBytes v N ++ q) := by rw [← h, List.take_append_drop]
  have hm := takeR_mid hlist (beBytes_length v N) hs
  rw [hl, valBE_small h0 h1] at hm
  have hz : A + N ≤ b.size := by
    have := congrArg List.length h
    rw [List.length_drop, size_list, List.length_append, beBytes_length] at this; omega
  refine ⟨by unfold rdR; simp [hm], by omega, ?_⟩
  have e1 : ((A : Int) + N).toNat = A + N := by omega
  rw [e1, ← List.drop_drop, h]
  have := List.drop_left (l₁ := beBytes v N) (l₂ := q)
  rw [beBytes_length] at this; exact this
end Go.Proofs.YtlpdanghcdajmaaDoor
