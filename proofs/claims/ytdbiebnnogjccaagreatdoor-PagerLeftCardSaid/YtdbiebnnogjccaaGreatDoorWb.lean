/- The log (layer 21): the numbers at both ends of a sector. -/
import Derived.Test.YtdbiebnnogjccaaGreatDoorWa
import Derived.Test.YtdbiebnnogjccaaGreatDoorBk
import Derived.StillTailTactics
namespace Go.Proofs.YtdbiebnnogjccaaGreatDoor
open Go.RowKit
theorem or_step {p c : Nat} (k : Nat) (hp : p < 256 ^ k) : p ||| c * 256 ^ k = p + c * 256 ^ k := by
  have e : (256 : Nat) ^ k = 2 ^ (8 * k) := by rw [show (256 : Nat) = 2 ^ 8 from rfl, ← Nat.pow_mul]
  rw [e] at hp ⊢
  exact or_add hp
/-- The first k bytes' number; one byte more. -/
def partN (l : List UInt8) (at' k : Nat) : Int := valLE ((l.drop at').take k)
theorem partN_zero (l : List UInt8) (a : Nat) : partN l a 0 = 0 := by unfold partN; simp [valLE, valBE]
theorem valLE_snoc (l : List UInt8) (c : UInt8) : valLE (l ++ [c]) = valLE l + (c.toNat : Int) * 256 ^ l.length := by
  unfold valLE
  rw [List.reverse_append, List.reverse_singleton, List.singleton_append, valBE_cons, List.length_reverse]
  omega
theorem partN_succ {b : ByteArray} {a k : Nat} (h : a + k < b.size) : partN b.data.toList a (k + 1) = partN b.data.toList a k + ((b[a + k]'h).toNat : Int) * 256 ^ k := by
  unfold partN
  have hl : k < (b.data.toList.drop a).length := by rw [List.length_drop, size_list]; omega
  rw [List.take_succ_eq_append_getElem hl, valLE_snoc, List.length_take, Nat.min_eq_left (by omega)]
  congr 2
  rw [List.getElem_drop]
  simp [ByteArray.getElem_eq_getElem_data]
theorem partN_bd {b : ByteArray} {a k : Nat} (h : a + k ≤ b.size) : 0 ≤ partN b.data.toList a k ∧ partN b.data.toList a k < 256 ^ k := by
  unfold partN
  exact valLE_bd (by rw [List.length_take, List.length_drop, size_list]; omega)
theorem partN_or {b : ByteArray} {a k : Nat} (h : a + k < b.size) (hk : k < 4) : bits .or .u64 (partN b.data.toList a k) (((b[a + k]'h).toNat : Int) * 256 ^ k) = partN b.data.toList a (k + 1) := by
  obtain ⟨h0, h1⟩ := partN_bd (b := b) (a := a) (k := k) (by omega)
  obtain ⟨p, hp⟩ : ∃ p : Nat, partN b.data.toList a k = (p : Int) := ⟨(partN b.data.toList a k).toNat, by omega⟩
  have hc := (b[a + k]'h).toNat_lt
  obtain ⟨c, hcc⟩ : ∃ c, c = (b[a + k]'h).toNat := ⟨_, rfl⟩
  rw [partN_succ h, hp, ← hcc]
  rw [hp] at h1
  rw [← hcc] at hc
  have hp2 : p < 256 ^ k := Int.ofNat_lt.1 (by rw [Int.natCast_pow]; exact h1)
  have e : (c : Int) * 256 ^ k = ((c * 256 ^ k : Nat) : Int) := by rw [Int.natCast_mul, Int.natCast_pow]; rfl
  have hk4 : (256 : Nat) ^ k ≤ 256 ^ 3 := Nat.pow_le_pow_right (by decide) (by omega)
  have hm : c * 256 ^ k ≤ 255 * 256 ^ 3 := Nat.mul_le_mul (by omega) hk4
  rw [e, u64_or_nat _ _ (by omega) (by omega), or_step k hp2, Int.natCast_add]
theorem wrap_small {c : Nat} (h : c < 18446744073709551616) : IntKind.u64.wrap (c : Int) = c := by rw [IntKind.wrap_u64]; omega
theorem partN_w {b : ByteArray} {a k j : Nat} (M : Int) (hj : j = a + k) (h : j < b.size) (hk : k < 4) (hM : M = 256 ^ k) : bits .or .u64 (partN b.data.toList a k) (IntKind.u64.wrap (IntKind.u64.wrap ((b[j]'h).toNat : Int) * M)) = partN b.data.toList a (k + 1) := by
  subst hj hM
  have hc := (b[a + k]'h).toNat_lt
  rw [wrap_small (by omega)]
  have e : ((b[a + k]'h).toNat : Int) * 256 ^ k = (((b[a + k]'h).toNat * 256 ^ k : Nat) : Int) := by rw [Int.natCast_mul, Int.natCast_pow]; rfl
  have hk4 : (256 : Nat) ^ k ≤ 256 ^ 3 := Nat.pow_le_pow_right (by decide) (by omega)
  have hm : (b[a + k]'h).toNat * 256 ^ k ≤ 255 * 256 ^ 3 := Nat.mul_le_mul (by omega) hk4
  rw [e, wrap_small (by omega), ← e]
  exact partN_or h hk
theorem partN_w0 {b : ByteArray} {a : Nat} (h : a < b.size) : bits .or .u64 (partN b.data.toList a 0) (IntKind.u64.wrap (IntKind.u64.wrap ((b[a]'h).toNat : Int))) = partN b.data.toList a (0 + 1) := by
  have := partN_w (b := b) (a := a) (k := 0) (j := a) 1 rfl h (by decide) (by decide)
  rw [Int.mul_one] at this; exact this

set_option maxRecDepth 20000 in
set_option maxHeartbeats 4000000 in
theorem wal_ends (b : ByteArray) (hb : b.size = 256) (w : World) :
    Calls Tryz.prog 70 #[.string b] w fun e w' => e = .returned (.agg #[.int .u64 (endA b), .int .u64 (endB b)]) ∧ Below w.heap.size w w' := by
  have ea : endA b = partN b.data.toList 0 4 := rfl
  have eb : endB b = partN b.data.toList 252 4 := by
    unfold endB partN; rw [List.take_of_length_le (by rw [List.length_drop, size_list, hb]; decide)]
  rw [ea, eb]
  clear ea eb
  have i0 : ∀ w : World, (Instr.index 176 (.agg #[.int .i64 0, .int .i64 252]) (.int .i64 0)).run Tryz.prog w = .ok (.int .i64 0) w := fun _ => by kernel_rfl
  have i1 : ∀ w : World, (Instr.index 176 (.agg #[.int .i64 0, .int .i64 252]) (.int .i64 1)).run Tryz.prog w = .ok (.int .i64 252) w := fun _ => by kernel_rfl
  obtain ⟨w0, hw0⟩ : ∃ z, z = (w.alloc (.cells #[.int .u64 0, .int .u64 0] 117)).alloc (.cells #[.int .u64 0, .int .u64 0] 117) := ⟨_, rfl⟩
  have B0 : Hid (Below w.heap.size w w0) := by show Below _ _ _; rw [hw0]; exact below_a2 _ _ _
  have X0 : Hid (w0.heap[w.heap.size]? = some (.cells #[.int .u64 0, .int .u64 0] 117 (0, 0))) := by show _ = _; rw [hw0]; exact blk_alloc (blk_new _ _)
  have Y0 : Hid (w0.heap[w.heap.size + 1]? = some (.cells #[.int .u64 0, .int .u64 0] 117 (0, 0))) := by
    show _ = _; rw [hw0]
    have := blk_new (w.alloc (.cells #[.int .u64 0, .int .u64 0] 117)) (.cells #[.int .u64 0, .int .u64 0] 117)
    have e : (w.alloc (.cells #[.int .u64 0, .int .u64 0] 117)).heap.size = w.heap.size + 1 := by simp
    rw [e] at this; exact this
  have HW0 := Lib.hid hw0
  clear hw0
  go_enter Tryz.func70, Tryz.ntmps70
  go_upto_region 2 with (fail)
  rw [← HW0.out]
  go_wp2_with fail
  go_loopw [8] (fun c wr => ∃ i : Nat, c = .int .i64 i ∧ ((i = 0 ∧ wr.heap[w.heap.size + 1]? = some (.cells #[.int .u64 0, .int .u64 0] 117 (0, 0))) ∨ (i = 1 ∧ wr.heap[w.heap.size + 1]? = some (.cells #[.int .u64 (partN b.data.toList 0 4), .int .u64 0] 117 (0, 0))) ∨ (i = 2 ∧ wr.heap[w.heap.size + 1]? = some (.cells #[.int .u64 (partN b.data.toList 0 4), .int .u64 (partN b.data.toList 252 4)] 117 (0, 0)))) ∧ wr.heap[w.heap.size]? = some (.cells #[.int .u64 0, .int .u64 0] 117 (0, 0)) ∧ Below w.heap.size w wr) (fun c _ => 2 - (intOf c).toNat)
  case atStart => exact ⟨0, rfl, .inl ⟨rfl, Y0.out⟩, X0.out, B0.out⟩
  case round =>
    clear X0 Y0 B0
    obtain ⟨i, rfl, hcase, hX, hB⟩ := hrel
    have HX := Lib.hid hX; have HBw := Lib.hid hB
    clear hX hB
    rcases hcase with ⟨rfl, hY⟩ | ⟨rfl, hY⟩ | ⟨rfl, hY⟩
    · have HY := Lib.hid hY
      clear hY
      rw [show ((0 : Nat) : Int) = 0 from rfl]
      go_wp2_with fail
      go_loopw [12] (fun c wr => ∃ k : Nat, k ≤ 4 ∧ c = .int .i64 k ∧ wr.heap[w.heap.size]? = some (.cells #[.int .u64 0, .int .u64 0] 117 (0, 0)) ∧ wr.heap[w.heap.size + 1]? = some (.cells #[.int .u64 (partN b.data.toList 0 k), .int .u64 0] 117 (0, 0)) ∧ Below w.heap.size w wr) (fun c _ => 4 - (intOf c).toNat)
      case atStart => exact ⟨0, by omega, rfl, HX.out, by rw [partN_zero]; exact HY.out, HBw.out⟩
      case round =>
        clear HX HY HBw
        obtain ⟨k, hk4, rfl, hX, hY, hB⟩ := hrel
        have HX := Lib.hid hX; have HY := Lib.hid hY; have HBw := Lib.hid hB
        clear hX hY hB
        rcases (show k = 0 ∨ k = 1 ∨ k = 2 ∨ k = 3 ∨ k = 4 by omega) with rfl | rfl | rfl | rfl | rfl
        · -- byte 0
          have hx : 0 < b.size := by omega
          have hxi : (0 : Int) < (b.size : Int) := by omega
          have HO := Lib.hid (partN_w0 (b := b) (a := 0) hx)
          obtain ⟨P, hP⟩ : ∃ P, P = partN b.data.toList 0 0 := ⟨_, rfl⟩
          obtain ⟨P2, hP2⟩ : ∃ P, P = partN b.data.toList 0 (0 + 1) := ⟨_, rfl⟩
          rw [← hP, ← hP2] at HO
          rw [← hP] at HY
          clear hP
          have HP2 := Lib.hid hP2
          clear hP2
          rw [show ((0 : Nat) : Int) = 0 from rfl]
          have hcd : ∀ o, wr.drew.cell? ⟨w.heap.size + 1, o, none⟩ = (#[.int .u64 P, .int .u64 0] : Array Value)[o]? := blk_cell HY.out
          have x1 : IntKind.i64.wrap 0 = 0 := by decide
          have x2 : IntKind.i64.wrap 0 = 0 := by decide
          go_upto_region 8 with (fail)
          go_still_tail 14, (by kernel_rfl)
          change wpList _ _ _ _ _ wr.drew
          obtain ⟨y, hy⟩ : ∃ y, y = wr.drew := ⟨_, rfl⟩
          have Dy : Hid (Below wr.heap.size wr y) := by show Below _ _ _; rw [hy]; exact ⟨rfl, rfl, rfl, Nat.le_refl _, fun _ _ => rfl⟩
          have hY1 := blk_below HY.out Dy.out
          have HX1 := Lib.hid (blk_below HX.out Dy.out)
          have HB1 := Lib.hid (bstep HBw.out Dy.out)
          rw [← hy]
          clear hy
          clear hcd
          have hcy := blk_cell hY1
          have hfy := blk_frozen hY1
          have HY2 := Lib.hid (blk_set hY1 0 (.int .u64 P2))
          have ho := HO.out
          clear hY1
          go_wp2_with fail
          go_roundw
          case rel => exact ⟨1, by omega, by go_num, blk_set_far HX1.out (by show w.heap.size ≠ w.heap.size + 1; omega) _, by rw [← HP2.out]; exact HY2.out, HB1.out.setCell (by show w.heap.size ≤ w.heap.size + 1; omega) _⟩
          case measure => simp [intOf]
        · -- byte 1
          have hx : 1 < b.size := by omega
          have hxi : (1 : Int) < (b.size : Int) := by omega
          have HO := Lib.hid (partN_w (b := b) (a := 0) (k := 1) (j := 1) 256 rfl hx (by decide) (by decide))
          obtain ⟨P, hP⟩ : ∃ P, P = partN b.data.toList 0 1 := ⟨_, rfl⟩
          obtain ⟨P2, hP2⟩ : ∃ P, P = partN b.data.toList 0 (1 + 1) := ⟨_, rfl⟩
          rw [← hP, ← hP2] at HO
          rw [← hP] at HY
          clear hP
          have HP2 := Lib.hid hP2
          clear hP2
          rw [show ((1 : Nat) : Int) = 1 from rfl]
          have hcd : ∀ o, wr.drew.cell? ⟨w.heap.size + 1, o, none⟩ = (#[.int .u64 P, .int .u64 0] : Array Value)[o]? := blk_cell HY.out
          have x1 : IntKind.i64.wrap 1 = 1 := by decide
          have x2 : IntKind.i64.wrap 8 = 8 := by decide
          go_upto_region 8 with (fail)
          go_still_tail 14, (by kernel_rfl)
          change wpList _ _ _ _ _ wr.drew
          obtain ⟨y, hy⟩ : ∃ y, y = wr.drew := ⟨_, rfl⟩
          have Dy : Hid (Below wr.heap.size wr y) := by show Below _ _ _; rw [hy]; exact ⟨rfl, rfl, rfl, Nat.le_refl _, fun _ _ => rfl⟩
          have hY1 := blk_below HY.out Dy.out
          have HX1 := Lib.hid (blk_below HX.out Dy.out)
          have HB1 := Lib.hid (bstep HBw.out Dy.out)
          rw [← hy]
          clear hy
          clear hcd
          have hcy := blk_cell hY1
          have hfy := blk_frozen hY1
          have HY2 := Lib.hid (blk_set hY1 0 (.int .u64 P2))
          have ho := HO.out
          clear hY1
          go_wp2_with fail
          go_roundw
          case rel => exact ⟨2, by omega, by go_num, blk_set_far HX1.out (by show w.heap.size ≠ w.heap.size + 1; omega) _, by rw [← HP2.out]; exact HY2.out, HB1.out.setCell (by show w.heap.size ≤ w.heap.size + 1; omega) _⟩
          case measure => simp [intOf]
        · -- byte 2
          have hx : 2 < b.size := by omega
          have hxi : (2 : Int) < (b.size : Int) := by omega
          have HO := Lib.hid (partN_w (b := b) (a := 0) (k := 2) (j := 2) 65536 rfl hx (by decide) (by decide))
          obtain ⟨P, hP⟩ : ∃ P, P = partN b.data.toList 0 2 := ⟨_, rfl⟩
          obtain ⟨P2, hP2⟩ : ∃ P, P = partN b.data.toList 0 (2 + 1) := ⟨_, rfl⟩
          rw [← hP, ← hP2] at HO
          rw [← hP] at HY
          clear hP
          have HP2 := Lib.hid hP2
          clear hP2
          rw [show ((2 : Nat) : Int) = 2 from rfl]
          have hcd : ∀ o, wr.drew.cell? ⟨w.heap.size + 1, o, none⟩ = (#[.int .u64 P, .int .u64 0] : Array Value)[o]? := blk_cell HY.out
          have x1 : IntKind.i64.wrap 2 = 2 := by decide
          have x2 : IntKind.i64.wrap 16 = 16 := by decide
          go_upto_region 8 with (fail)
          go_still_tail 14, (by kernel_rfl)
          change wpList _ _ _ _ _ wr.drew
          obtain ⟨y, hy⟩ : ∃ y, y = wr.drew := ⟨_, rfl⟩
          have Dy : Hid (Below wr.heap.size wr y) := by show Below _ _ _; rw [hy]; exact ⟨rfl, rfl, rfl, Nat.le_refl _, fun _ _ => rfl⟩
          have hY1 := blk_below HY.out Dy.out
          have HX1 := Lib.hid (blk_below HX.out Dy.out)
          have HB1 := Lib.hid (bstep HBw.out Dy.out)
          rw [← hy]
          clear hy
          clear hcd
          have hcy := blk_cell hY1
          have hfy := blk_frozen hY1
          have HY2 := Lib.hid (blk_set hY1 0 (.int .u64 P2))
          have ho := HO.out
          clear hY1
          go_wp2_with fail
          go_roundw
          case rel => exact ⟨3, by omega, by go_num, blk_set_far HX1.out (by show w.heap.size ≠ w.heap.size + 1; omega) _, by rw [← HP2.out]; exact HY2.out, HB1.out.setCell (by show w.heap.size ≤ w.heap.size + 1; omega) _⟩
          case measure => simp [intOf]
        · -- byte 3
          have hx : 3 < b.size := by omega
          have hxi : (3 : Int) < (b.size : Int) := by omega
          have HO := Lib.hid (partN_w (b := b) (a := 0) (k := 3) (j := 3) 16777216 rfl hx (by decide) (by decide))
          obtain ⟨P, hP⟩ : ∃ P, P = partN b.data.toList 0 3 := ⟨_, rfl⟩
          obtain ⟨P2, hP2⟩ : ∃ P, P = partN b.data.toList 0 (3 + 1) := ⟨_, rfl⟩
          rw [← hP, ← hP2] at HO
          rw [← hP] at HY
          clear hP
          have HP2 := Lib.hid hP2
          clear hP2
          rw [show ((3 : Nat) : Int) = 3 from rfl]
          have hcd : ∀ o, wr.drew.cell? ⟨w.heap.size + 1, o, none⟩ = (#[.int .u64 P, .int .u64 0] : Array Value)[o]? := blk_cell HY.out
          have x1 : IntKind.i64.wrap 3 = 3 := by decide
          have x2 : IntKind.i64.wrap 24 = 24 := by decide
          go_upto_region 8 with (fail)
          go_still_tail 14, (by kernel_rfl)
          change wpList _ _ _ _ _ wr.drew
          obtain ⟨y, hy⟩ : ∃ y, y = wr.drew := ⟨_, rfl⟩
          have Dy : Hid (Below wr.heap.size wr y) := by show Below _ _ _; rw [hy]; exact ⟨rfl, rfl, rfl, Nat.le_refl _, fun _ _ => rfl⟩
          have hY1 := blk_below HY.out Dy.out
          have HX1 := Lib.hid (blk_below HX.out Dy.out)
          have HB1 := Lib.hid (bstep HBw.out Dy.out)
          rw [← hy]
          clear hy
          clear hcd
          have hcy := blk_cell hY1
          have hfy := blk_frozen hY1
          have HY2 := Lib.hid (blk_set hY1 0 (.int .u64 P2))
          have ho := HO.out
          clear hY1
          go_wp2_with fail
          go_roundw
          case rel => exact ⟨4, by omega, by go_num, blk_set_far HX1.out (by show w.heap.size ≠ w.heap.size + 1; omega) _, by rw [← HP2.out]; exact HY2.out, HB1.out.setCell (by show w.heap.size ≤ w.heap.size + 1; omega) _⟩
          case measure => simp [intOf]
        · clear hk4
          go_wp2_with fail
          go_roundw
          case rel => exact ⟨1, by go_num, .inr (.inl ⟨rfl, HY.out⟩), HX.out, HBw.out⟩
          case measure => simp [intOf]
    · have HY := Lib.hid hY
      clear hY
      rw [show ((1 : Nat) : Int) = 1 from rfl]
      go_wp2_with fail
      go_loopw [12] (fun c wr => ∃ k : Nat, k ≤ 4 ∧ c = .int .i64 k ∧ wr.heap[w.heap.size]? = some (.cells #[.int .u64 0, .int .u64 0] 117 (0, 0)) ∧ wr.heap[w.heap.size + 1]? = some (.cells #[.int .u64 (partN b.data.toList 0 4), .int .u64 (partN b.data.toList 252 k)] 117 (0, 0)) ∧ Below w.heap.size w wr) (fun c _ => 4 - (intOf c).toNat)
      case atStart => exact ⟨0, by omega, rfl, HX.out, by rw [partN_zero]; exact HY.out, HBw.out⟩
      case round =>
        clear HX HY HBw
        obtain ⟨k, hk4, rfl, hX, hY, hB⟩ := hrel
        have HX := Lib.hid hX; have HY := Lib.hid hY; have HBw := Lib.hid hB
        clear hX hY hB
        rcases (show k = 0 ∨ k = 1 ∨ k = 2 ∨ k = 3 ∨ k = 4 by omega) with rfl | rfl | rfl | rfl | rfl
        · -- byte 252
          have hx : 252 < b.size := by omega
          have hxi : (252 : Int) < (b.size : Int) := by omega
          have HO := Lib.hid (partN_w0 (b := b) (a := 252) hx)
          obtain ⟨P, hP⟩ : ∃ P, P = partN b.data.toList 252 0 := ⟨_, rfl⟩
          obtain ⟨P2, hP2⟩ : ∃ P, P = partN b.data.toList 252 (0 + 1) := ⟨_, rfl⟩
          rw [← hP, ← hP2] at HO
          rw [← hP] at HY
          clear hP
          have HP2 := Lib.hid hP2
          clear hP2
          rw [show ((0 : Nat) : Int) = 0 from rfl]
          have hcd : ∀ o, wr.drew.cell? ⟨w.heap.size + 1, o, none⟩ = (#[.int .u64 (partN b.data.toList 0 4), .int .u64 P] : Array Value)[o]? := blk_cell HY.out
          have x1 : IntKind.i64.wrap 252 = 252 := by decide
          have x2 : IntKind.i64.wrap 0 = 0 := by decide
          go_upto_region 8 with (fail)
          go_still_tail 14, (by kernel_rfl)
          change wpList _ _ _ _ _ wr.drew
          obtain ⟨y, hy⟩ : ∃ y, y = wr.drew := ⟨_, rfl⟩
          have Dy : Hid (Below wr.heap.size wr y) := by show Below _ _ _; rw [hy]; exact ⟨rfl, rfl, rfl, Nat.le_refl _, fun _ _ => rfl⟩
          have hY1 := blk_below HY.out Dy.out
          have HX1 := Lib.hid (blk_below HX.out Dy.out)
          have HB1 := Lib.hid (bstep HBw.out Dy.out)
          rw [← hy]
          clear hy
          clear hcd
          have hcy := blk_cell hY1
          have hfy := blk_frozen hY1
          have HY2 := Lib.hid (blk_set hY1 1 (.int .u64 P2))
          have ho := HO.out
          clear hY1
          go_wp2_with fail
          go_roundw
          case rel => exact ⟨1, by omega, by go_num, blk_set_far HX1.out (by show w.heap.size ≠ w.heap.size + 1; omega) _, by rw [← HP2.out]; exact HY2.out, HB1.out.setCell (by show w.heap.size ≤ w.heap.size + 1; omega) _⟩
          case measure => simp [intOf]
        · -- byte 253
          have hx : 253 < b.size := by omega
          have hxi : (253 : Int) < (b.size : Int) := by omega
          have HO := Lib.hid (partN_w (b := b) (a := 252) (k := 1) (j := 253) 256 rfl hx (by decide) (by decide))
          obtain ⟨P, hP⟩ : ∃ P, P = partN b.data.toList 252 1 := ⟨_, rfl⟩
          obtain ⟨P2, hP2⟩ : ∃ P, P = partN b.data.toList 252 (1 + 1) := ⟨_, rfl⟩
          rw [← hP, ← hP2] at HO
          rw [← hP] at HY
          clear hP
          have HP2 := Lib.hid hP2
          clear hP2
          rw [show ((1 : Nat) : Int) = 1 from rfl]
          have hcd : ∀ o, wr.drew.cell? ⟨w.heap.size + 1, o, none⟩ = (#[.int .u64 (partN b.data.toList 0 4), .int .u64 P] : Array Value)[o]? := blk_cell HY.out
          have x1 : IntKind.i64.wrap 253 = 253 := by decide
          have x2 : IntKind.i64.wrap 8 = 8 := by decide
          go_upto_region 8 with (fail)
          go_still_tail 14, (by kernel_rfl)
          change wpList _ _ _ _ _ wr.drew
          obtain ⟨y, hy⟩ : ∃ y, y = wr.drew := ⟨_, rfl⟩
          have Dy : Hid (Below wr.heap.size wr y) := by show Below _ _ _; rw [hy]; exact ⟨rfl, rfl, rfl, Nat.le_refl _, fun _ _ => rfl⟩
          have hY1 := blk_below HY.out Dy.out
          have HX1 := Lib.hid (blk_below HX.out Dy.out)
          have HB1 := Lib.hid (bstep HBw.out Dy.out)
          rw [← hy]
          clear hy
          clear hcd
          have hcy := blk_cell hY1
          have hfy := blk_frozen hY1
          have HY2 := Lib.hid (blk_set hY1 1 (.int .u64 P2))
          have ho := HO.out
          clear hY1
          go_wp2_with fail
          go_roundw
          case rel => exact ⟨2, by omega, by go_num, blk_set_far HX1.out (by show w.heap.size ≠ w.heap.size + 1; omega) _, by rw [← HP2.out]; exact HY2.out, HB1.out.setCell (by show w.heap.size ≤ w.heap.size + 1; omega) _⟩
          case measure => simp [intOf]
        · -- byte 254
          have hx : 254 < b.size := by omega
          have hxi : (254 : Int) < (b.size : Int) := by omega
          have HO := Lib.hid (partN_w (b := b) (a := 252) (k := 2) (j := 254) 65536 rfl hx (by decide) (by decide))
          obtain ⟨P, hP⟩ : ∃ P, P = partN b.data.toList 252 2 := ⟨_, rfl⟩
          obtain ⟨P2, hP2⟩ : ∃ P, P = partN b.data.toList 252 (2 + 1) := ⟨_, rfl⟩
          rw [← hP, ← hP2] at HO
          rw [← hP] at HY
          clear hP
          have HP2 := Lib.hid hP2
          clear hP2
          rw [show ((2 : Nat) : Int) = 2 from rfl]
          have hcd : ∀ o, wr.drew.cell? ⟨w.heap.size + 1, o, none⟩ = (#[.int .u64 (partN b.data.toList 0 4), .int .u64 P] : Array Value)[o]? := blk_cell HY.out
          have x1 : IntKind.i64.wrap 254 = 254 := by decide
          have x2 : IntKind.i64.wrap 16 = 16 := by decide
          go_upto_region 8 with (fail)
          go_still_tail 14, (by kernel_rfl)
          change wpList _ _ _ _ _ wr.drew
          obtain ⟨y, hy⟩ : ∃ y, y = wr.drew := ⟨_, rfl⟩
          have Dy : Hid (Below wr.heap.size wr y) := by show Below _ _ _; rw [hy]; exact ⟨rfl, rfl, rfl, Nat.le_refl _, fun _ _ => rfl⟩
          have hY1 := blk_below HY.out Dy.out
          have HX1 := Lib.hid (blk_below HX.out Dy.out)
          have HB1 := Lib.hid (bstep HBw.out Dy.out)
          rw [← hy]
          clear hy
          clear hcd
          have hcy := blk_cell hY1
          have hfy := blk_frozen hY1
          have HY2 := Lib.hid (blk_set hY1 1 (.int .u64 P2))
          have ho := HO.out
          clear hY1
          go_wp2_with fail
          go_roundw
          case rel => exact ⟨3, by omega, by go_num, blk_set_far HX1.out (by show w.heap.size ≠ w.heap.size + 1; omega) _, by rw [← HP2.out]; exact HY2.out, HB1.out.setCell (by show w.heap.size ≤ w.heap.size + 1; omega) _⟩
          case measure => simp [intOf]
        · -- byte 255
          have hx : 255 < b.size := by omega
          have hxi : (255 : Int) < (b.size : Int) := by omega
          have HO := Lib.hid (partN_w (b := b) (a := 252) (k := 3) (j := 255) 16777216 rfl hx (by decide) (by decide))
          obtain ⟨P, hP⟩ : ∃ P, P = partN b.data.toList 252 3 := ⟨_, rfl⟩
          obtain ⟨P2, hP2⟩ : ∃ P, P = partN b.data.toList 252 (3 + 1) := ⟨_, rfl⟩
          rw [← hP, ← hP2] at HO
          rw [← hP] at HY
          clear hP
          have HP2 := Lib.hid hP2
          clear hP2
          rw [show ((3 : Nat) : Int) = 3 from rfl]
          have hcd : ∀ o, wr.drew.cell? ⟨w.heap.size + 1, o, none⟩ = (#[.int .u64 (partN b.data.toList 0 4), .int .u64 P] : Array Value)[o]? := blk_cell HY.out
          have x1 : IntKind.i64.wrap 255 = 255 := by decide
          have x2 : IntKind.i64.wrap 24 = 24 := by decide
          go_upto_region 8 with (fail)
          go_still_tail 14, (by kernel_rfl)
          change wpList _ _ _ _ _ wr.drew
          obtain ⟨y, hy⟩ : ∃ y, y = wr.drew := ⟨_, rfl⟩
          have Dy : Hid (Below wr.heap.size wr y) := by show Below _ _ _; rw [hy]; exact ⟨rfl, rfl, rfl, Nat.le_refl _, fun _ _ => rfl⟩
          have hY1 := blk_below HY.out Dy.out
          have HX1 := Lib.hid (blk_below HX.out Dy.out)
          have HB1 := Lib.hid (bstep HBw.out Dy.out)
          rw [← hy]
          clear hy
          clear hcd
          have hcy := blk_cell hY1
          have hfy := blk_frozen hY1
          have HY2 := Lib.hid (blk_set hY1 1 (.int .u64 P2))
          have ho := HO.out
          clear hY1
          go_wp2_with fail
          go_roundw
          case rel => exact ⟨4, by omega, by go_num, blk_set_far HX1.out (by show w.heap.size ≠ w.heap.size + 1; omega) _, by rw [← HP2.out]; exact HY2.out, HB1.out.setCell (by show w.heap.size ≤ w.heap.size + 1; omega) _⟩
          case measure => simp [intOf]
        · clear hk4
          go_wp2_with fail
          go_roundw
          case rel => exact ⟨2, by go_num, .inr (.inr ⟨rfl, HY.out⟩), HX.out, HBw.out⟩
          case measure => simp [intOf]
    · have hc := blk_cell HX.out
      have hf := blk_frozen HX.out
      have hy := blk_cell hY
      go_wp2_with fail
      have hz := blk_cell (st2 HX.out (.int .u64 (partN b.data.toList 0 4)) (.int .u64 (partN b.data.toList 252 4)))
      exact bodyPost_ret (v := .agg #[.int .u64 (partN b.data.toList 0 4), .int .u64 (partN b.data.toList 252 4)]) (by simp [results, Tryz.results70, go_sem, hz]) rfl ⟨rfl, bst2 HBw.out (Nat.le_refl _) _ _⟩
end Go.Proofs.YtdbiebnnogjccaaGreatDoor
