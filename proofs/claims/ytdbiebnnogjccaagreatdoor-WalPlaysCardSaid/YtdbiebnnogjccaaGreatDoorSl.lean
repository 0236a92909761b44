/- Frames (layer 18): the leaves: Size, number, num, Num, and the reference's. -/
import Derived.Test.YtdbiebnnogjccaaGreatDoorFp
import Derived.Test.YtdbiebnnogjccaaGreatDoorRk
import Derived.Test.YtdbiebnnogjccaaGreatDoorCt
import Derived.Deep.QuietTactic
import Derived.BigQuiet
import Derived.Lib.Strings
import Derived.Test.YtdbiebnnogjccaaGreatDoorFr
import Derived.Deep.AppendLies
import Derived.Deep.RegionHeld3
import Derived.Lib.Hide
namespace Go.Proofs.YtdbiebnnogjccaaGreatDoor
open Go.RowKit
theorem ret_i64 {a b : Int} (h : a = b) : Ending.returned (.int .i64 a) = .returned (.int .i64 b) := by rw [h]
theorem ret_u32 {a b : Int} (h : a = b) : Ending.returned (.int .u32 a) = .returned (.int .u32 b) := by rw [h]
theorem ret_str {a b : ByteArray} (h : a = b) : Ending.returned (.string a) = .returned (.string b) := by rw [h]
theorem frame_Size (n : Int) (w : World) : Calls Tryz.prog 119 #[.int .i64 n] w fun e w' => e = .returned (.int .i64 (sizeF n)) ∧ w = w' := by
  by_cases h1 : n < 0
  · have e : sizeF n = 0 := by unfold sizeF; rw [if_pos (.inl h1)]
    rw [e]; clear e
    go_enter Tryz.func119, Tryz.ntmps119
    go_wp2_with fail
    go_ret
    exact ⟨rfl, rfl⟩
  · by_cases h2 : 2000 < n
    · have e : sizeF n = 0 := by unfold sizeF; rw [if_pos (.inr h2)]
      rw [e]; clear e
      go_enter Tryz.func119, Tryz.ntmps119
      go_wp2_with fail
      go_ret
      exact ⟨rfl, rfl⟩
    · have e : sizeF n = (n + 8 + 244 - 1) / 244 := by unfold sizeF; rw [if_neg (by omega)]; omega
      rw [e]; clear e
      have h3 : 0 ≤ n := by omega
      have h4 : n ≤ 2000 := by omega
      go_enter Tryz.func119, Tryz.ntmps119
      go_wp2_with fail
      go_ret
      exact ⟨rfl, rfl⟩
theorem ref18_Size (n : Int) (w : World) : Calls Tryz.prog 87 #[.int .i64 n] w fun e w' => e = .returned (.int .i64 (sizeF n)) ∧ w = w' := by
  by_cases h1 : n < 0
  · have e : sizeF n = 0 := by unfold sizeF; rw [if_pos (.inl h1)]
    rw [e]; clear e
    go_enter Tryz.func87, Tryz.ntmps87
    go_wp2_with fail
    go_ret
    exact ⟨rfl, rfl⟩
  · by_cases h2 : 2000 < n
    · have e : sizeF n = 0 := by unfold sizeF; rw [if_pos (.inr h2)]
      rw [e]; clear e
      go_enter Tryz.func87, Tryz.ntmps87
      go_wp2_with fail
      go_ret
      exact ⟨rfl, rfl⟩
    · have e : sizeF n = (n + 8 + 244 - 1) / 244 := by unfold sizeF; rw [if_neg (by omega)]; omega
      rw [e]; clear e
      have h3 : 0 ≤ n := by omega
      have h4 : n ≤ 2000 := by omega
      go_enter Tryz.func87, Tryz.ntmps87
      go_wp2_with fail
      go_ret
      exact ⟨rfl, rfl⟩
theorem mk_nums (n : Int) (h0 : 0 ≤ n) (h1 : n < 4294967296) : strOfNums [n % 256, n / 256 % 256, n / 65536 % 256, n / 16777216] = ofL (mkL n) := by
  have e : n / 16777216 % 256 = n / 16777216 := by omega
  rw [← e]
  refine bytes_ext ?_
  rw [ofL_list, strOfNums_data]
  simp [mkL, beBytes, lowBE]
set_option maxRecDepth 100000 in
theorem frame_number (n : Int) (h0 : 0 ≤ n) (h1 : n < 4294967296) (w : World) : Calls Tryz.prog 123 #[.int .u32 n] w fun e w' => e = .returned (.string (ofL (mkL n))) ∧ Below w.heap.size w w' := by
  have hcv := conv_new w [n % 256, n / 256 % 256, n / 65536 % 256, n / 16777216]
  simp only [List.length_cons, List.length_nil, Nat.reduceAdd, List.map_cons, List.map_nil] at hcv
  go_enter Tryz.func123, Tryz.ntmps123
  go_wp2_with fail
  go_ret
  exact ⟨ret_str (mk_nums n h0 h1), (Below.refl _ _).alloc (Nat.le_refl _) _⟩
set_option maxRecDepth 100000 in
theorem ref18_mark (n : Int) (h0 : 0 ≤ n) (h1 : n < 4294967296) (w : World) : Calls Tryz.prog 132 #[.int .u32 n] w fun e w' => e = .returned (.string (ofL (mkL n))) ∧ Below w.heap.size w w' := by
  have hcv := conv_new w [n % 256, n / 256 % 256, n / 65536 % 256, n / 16777216]
  simp only [List.length_cons, List.length_nil, Nat.reduceAdd, List.map_cons, List.map_nil] at hcv
  go_enter Tryz.func132, Tryz.ntmps132
  go_wp2_with fail
  go_ret
  exact ⟨ret_str (mk_nums n h0 h1), (Below.refl _ _).alloc (Nat.le_refl _) _⟩
theorem num_be {v : Int} {n : Nat} (hn : n = 1 ∨ n = 2 ∨ n = 4) (h0 : 0 ≤ v) (h1 : v < 256 ^ n) : numR v n = (ofL (beBytes v n), 0) := by
  have e : strOfNums (lowBE v n) = ofL (beBytes v n) := bytes_ext (by rw [strOfNums_list, ofL_list])
  unfold numR
  rcases hn with rfl | rfl | rfl <;> (rw [← e]; simp [sizeB]; omega)
/-- num(v, n), where v goes into n bytes. -/
theorem frame_num (v : Int) (n : Nat) (hn : n = 1 ∨ n = 2 ∨ n = 4) (h0 : 0 ≤ v) (h1 : v < 256 ^ n) (w : World) (he : EtIs w) : Calls Tryz.prog 120 #[.int .u64 v, .int .i64 n] w fun e w' => e = .returned (.string (ofL (beBytes v n))) ∧ Below w.heap.size w w' := by
  have hv : v < 18446744073709551616 := by rcases hn with rfl | rfl | rfl <;> omega
  have C := Lib.hid (pack_Num_eq (num_be hn h0 h1) h0 hv w he)
  clear h0 h1 hv hn he
  go_enter Tryz.func120, Tryz.ntmps120
  go_wp2_with fail
  refine C.out.mono ?_; rintro e w1 ⟨rfl, hb⟩
  go_wp2_with fail
  go_ret
  exact ⟨rfl, hb⟩
theorem frame_num4 (v : Int) (h0 : 0 ≤ v) (h1 : v < 4294967296) (w : World) (he : EtIs w) : Calls Tryz.prog 120 #[.int .u64 v, .int .i64 4] w fun e w' => e = .returned (.string (ofL (beBytes v 4))) ∧ Below w.heap.size w w' :=
  frame_num v 4 (.inr (.inr rfl)) h0 (by omega) w he
theorem frame_num2 (v : Int) (h0 : 0 ≤ v) (h1 : v < 65536) (w : World) (he : EtIs w) : Calls Tryz.prog 120 #[.int .u64 v, .int .i64 2] w fun e w' => e = .returned (.string (ofL (beBytes v 2))) ∧ Below w.heap.size w w' :=
  frame_num v 2 (.inr (.inl rfl)) h0 (by omega) w he
theorem TblIs.below {w w' : World} (h : TblIs w) (hb : Below w.heap.size w w') : TblIs w' := by
  refine ⟨Nat.lt_of_lt_of_le h.1 hb.size, fun i hi => ?_⟩
  have hlt : 14 < w.heap.size := by
    have := h.2 i hi
    exact World.block_lt_of_cell? w ⟨14, i, none⟩ this
  rw [hb.cell (p := ⟨14, i, none⟩) hlt]; exact h.2 i hi
end Go.Proofs.YtdbiebnnogjccaaGreatDoor

/- Frames (layer 18): Num and End: a number of a whole sector. -/
namespace Go.Proofs.YtdbiebnnogjccaaGreatDoor
open Go.RowKit
theorem extract_list (s : ByteArray) (i j : Nat) : (s.extract i j).data.toList = (s.data.toList.drop i).take (j - i) := by
  simp [ByteArray.data_extract]
theorem below_dN (w : World) (n : Nat) : Below w.heap.size w (w.drewN n) := ⟨rfl, rfl, rfl, Nat.le_refl _, fun _ _ => rfl⟩
theorem or_add {a b i : Nat} (h : a < 2 ^ i) : a ||| b * 2 ^ i = a + b * 2 ^ i := by
  rw [Nat.or_comm, ← Nat.shiftLeft_eq, ← Nat.shiftLeft_add_eq_or_of_lt h, Nat.add_comm]
theorem or4 {c0 c1 c2 c3 : Nat} (h0 : c0 < 256) (h1 : c1 < 256) (h2 : c2 < 256) (h3 : c3 < 256) :
    bits .or .u32 (bits .or .u32 (bits .or .u32 ((c0 : Int) % 4294967296) ((c1 : Int) % 4294967296 * 256 % 4294967296)) ((c2 : Int) % 4294967296 * 65536 % 4294967296)) ((c3 : Int) % 4294967296 * 16777216 % 4294967296) = ((c0 + c1 * 256 + c2 * 65536 + c3 * 16777216 : Nat) : Int) := by
  have e0 : (c0 : Int) % 4294967296 = (c0 : Nat) := by omega
  have e1 : (c1 : Int) % 4294967296 * 256 % 4294967296 = ((c1 * 256 : Nat) : Int) := by omega
  have e2 : (c2 : Int) % 4294967296 * 65536 % 4294967296 = ((c2 * 65536 : Nat) : Int) := by omega
  have e3 : (c3 : Int) % 4294967296 * 16777216 % 4294967296 = ((c3 * 16777216 : Nat) : Int) := by omega
  have o1 : c0 ||| c1 * 256 = c0 + c1 * 256 := or_add (i := 8) (by omega)
  have o2 : c0 + c1 * 256 ||| c2 * 65536 = c0 + c1 * 256 + c2 * 65536 := or_add (i := 16) (by omega)
  have o3 : c0 + c1 * 256 + c2 * 65536 ||| c3 * 16777216 = c0 + c1 * 256 + c2 * 65536 + c3 * 16777216 := or_add (i := 24) (by omega)
  rw [e0, e1, e2, e3, u32_or_nat _ _ (by omega) (by omega), o1, u32_or_nat _ _ (by omega) (by omega), o2, u32_or_nat _ _ (by omega) (by omega), o3]
theorem valLE4 (b0 b1 b2 b3 : UInt8) : valLE [b0, b1, b2, b3] = ((b0.toNat + b1.toNat * 256 + b2.toNat * 65536 + b3.toNat * 16777216 : Nat) : Int) := by
  simp [valLE, valBE]; omega
theorem take4 (b : ByteArray) (h : 4 ≤ b.size) : b.data.toList.take 4 = [b[0], b[1], b[2], b[3]] := by
  apply List.ext_getElem
  · simp; omega
  · intro i h1 h2
    have hi : i < 4 := by simpa using h2
    rw [List.getElem_take]
    match i, hi with
    | 0, _ => simp [ByteArray.getElem_eq_getElem_data]
    | 1, _ => simp [ByteArray.getElem_eq_getElem_data]
    | 2, _ => simp [ByteArray.getElem_eq_getElem_data]
    | 3, _ => simp [ByteArray.getElem_eq_getElem_data]
set_option maxRecDepth 100000 in
theorem frame_NumQ (b : ByteArray) (w : World) : Calls Tryz.prog 118 #[.string b] w fun e w' => e = .returned (.int .u32 (numF b.data.toList)) ∧ ∃ n, w' = w.drewN n := by
  by_cases h : b.size = 256
  · have hl : (((b.size : Nat) : Int) != 256) = false := by rw [h]; rfl
    have e : numF b.data.toList = if b.data.toList.take 4 = b.data.toList.drop 252 then valLE (b.data.toList.take 4) else 0 := by
      unfold numF; rw [size_list, h]; simp
    rw [e]; clear e
    have x1 : (b.extract 0 4).toList = b.data.toList.take 4 := by rw [Lib.toList_data, extract_list]; simp
    have x2 : (b.extract 252 256).toList = b.data.toList.drop 252 := by
      rw [Lib.toList_data, extract_list]; exact List.take_of_length_le (by rw [List.length_drop, size_list, h]; omega)
    have l1 : (0 : Int) < (b.size : Int) := by omega
    have l2 : (4 : Int) ≤ (b.size : Int) := by omega
    have l3 : (252 : Int) ≤ (b.size : Int) := by omega
    by_cases hq : b.data.toList.take 4 = b.data.toList.drop 252
    · have hqb : ((b.extract 0 4).toList == (b.extract 252 256).toList) = true := by rw [x1, x2, hq]; simp
      rw [if_pos hq]
      clear x1 x2 hq
      go_enter Tryz.func118, Tryz.ntmps118
      go_wp2_with fail
      go_quiet (fail)
      go_wp2_with fail
      go_quiet (fail)
      go_wp2_with fail
      go_ret
      exact ⟨by rw [or4 (UInt8.toNat_lt _) (UInt8.toNat_lt _) (UInt8.toNat_lt _) (UInt8.toNat_lt _), take4 b (by omega), valLE4]; rfl, by rw [World.drewN_drewN]; exact ⟨_, rfl⟩⟩
    · have hqb : ((b.extract 0 4).toList == (b.extract 252 256).toList) = false := by rw [x1, x2]; simpa using hq
      rw [if_neg hq]
      clear x1 x2 hq
      go_enter Tryz.func118, Tryz.ntmps118
      go_wp2_with fail
      go_quiet (fail)
      go_wp2_with fail
      go_ret
      exact ⟨rfl, _, rfl⟩
  · have hl : (((b.size : Nat) : Int) != 256) = true := by rw [bne_iff_ne]; omega
    have e : numF b.data.toList = 0 := by unfold numF; rw [if_neg (by rw [size_list]; omega)]
    rw [e]; clear e
    go_enter Tryz.func118, Tryz.ntmps118
    go_wp2_with fail
    go_quiet (fail)
    go_wp2_with fail
    go_ret
    exact ⟨rfl, _, rfl⟩
theorem frame_Num (b : ByteArray) (w : World) : Calls Tryz.prog 118 #[.string b] w fun e w' => e = .returned (.int .u32 (numF b.data.toList)) ∧ Below w.heap.size w w' :=
  (frame_NumQ b w).mono fun _ _ ⟨he, n, hn⟩ => ⟨he, by rw [hn]; exact below_dN w n⟩
end Go.Proofs.YtdbiebnnogjccaaGreatDoor

/- Slices of strings in memory; append of a string onto a row that the call owns. -/
namespace Go.Proofs.YtdbiebnnogjccaaGreatDoor
open Go.RowKit
theorem grown_bel {w w' : World} (h : Below w.heap.size w w') : w.grownBy w' none := ⟨h.os, h.tape, h.output, h.size, fun i hi _ => h.block i hi⟩
theorem row_bel {w w' : World} {B : Nat} {e : TypeId} {s n : Nat} {v : Value} {xs : List Value} (h : w.ownsRow B e s v n xs) (hb : Below w.heap.size w w') : w'.ownsRow B e s v n xs := by
  refine h.kept (grown_bel hb) ?_
  cases v.ownBlock with
  | none => exact .inl rfl
  | some k => exact .inr (by simp)
theorem bel_row {a w w' : World} {B : Nat} {e : TypeId} {s n : Nat} {v : Value} {xs : List Value} (hb : Below B a w) (hB : B ≤ w.heap.size) (h : w.ownsRow B e s v n xs) (hg : w.grownBy w' v.ownBlock) : Below B a w' :=
  ⟨hg.os.trans hb.os, hg.tape.trans hb.tape, hg.output.trans hb.output, Nat.le_trans hb.size hg.size, fun k hk => (hg.block k (by omega) (fun e => by have := (h.lt k e.symm).1; omega)).trans (hb.block k hk)⟩
theorem row_cellS {w : World} {base : Nat} {e : TypeId} {n : Nat} {v : Value} {xs : List Value} (h : w.ownsRow base e 1 v n xs) {g c m : Nat} (hv : v = .slice (some ⟨g, 0, none⟩) m c) {j : Nat} {u : Value} (hu : xs[j]? = some u) : w.cell? ⟨g, j, none⟩ = some u := by
  subst hv
  have := h.cells (g := g) rfl j u hu
  have hadd : (⟨g, 0, none⟩ : Addr).add j = ⟨g, j, none⟩ := by unfold Addr.add; split <;> simp_all
  rw [hadd] at this; exact this
/-- The strings lie in memory, a cell each. -/
structure StrsAt (w : World) (b off : Nat) (l : List ByteArray) : Prop where
  lt : l ≠ [] → b < w.heap.size
  at' : ∀ i (h : i < l.length), w.cell? ⟨b, off + i, none⟩ = some (.string l[i])
theorem StrsAt.below {w w' : World} {b off : Nat} {l : List ByteArray} (h : StrsAt w b off l) (hb : Below w.heap.size w w') : StrsAt w' b off l := by
  by_cases hl : l = []
  · subst hl
    exact ⟨fun h => absurd rfl h, fun i h => absurd h (by simp)⟩
  · have hlt := h.lt hl
    exact ⟨fun _ => Nat.lt_of_lt_of_le hlt hb.size, fun i hi => by rw [hb.cell (p := ⟨b, off + i, none⟩) hlt]; exact h.at' i hi⟩
def SlStrs (w : World) (v : Value) (l : List ByteArray) : Prop := (v = .slice none 0 0 ∧ l = []) ∨ ∃ b off cap, v = .slice (some ⟨b, off, none⟩) l.length cap ∧ l.length ≤ cap ∧ StrsAt w b off l
theorem SlStrs.below {w w' : World} {v : Value} {l : List ByteArray} (h : SlStrs w v l) (hb : Below w.heap.size w w') : SlStrs w' v l := by
  rcases h with h | ⟨b, off, cap, e, hc, h⟩
  · exact .inl h
  · exact .inr ⟨b, off, cap, e, hc, h.below hb⟩
theorem SlStrs.form {w : World} {v : Value} {l : List ByteArray} (h : SlStrs w v l) : ∃ p c, v = .slice p l.length c ∧ l.length ≤ c := by
  rcases h with ⟨h, e⟩ | ⟨b, off, cap, e, hc, h⟩
  · subst e; exact ⟨none, 0, h, Nat.le_refl _⟩
  · exact ⟨_, _, e, hc⟩
theorem SlStrs.at {w : World} {p : Option Addr} {c k : Nat} {l : List ByteArray} (h : SlStrs w (.slice p l.length c) l) (hk : k < l.length) : ∃ b off, p = some ⟨b, off, none⟩ ∧ StrsAt w b off l := by
  rcases h with ⟨_, h2⟩ | ⟨b, off, cap, e, _, h⟩
  · subst h2; exact absurd hk (by simp)
  · injection e with e1 e2 e3
    exact ⟨b, off, e1, h⟩
theorem SlStrs.of_own {w : World} {base : Nat} {e : TypeId} {v : Value} {l : List ByteArray} (h : w.ownsRow base e 1 v l.length (l.map Value.string)) : SlStrs w v l := by
  rcases h.2 with ⟨h1, h2⟩ | ⟨g, cap, cur, hv, hb, hg, hn, _⟩
  · exact .inl ⟨h1, List.eq_nil_of_length_eq_zero h2⟩
  · refine .inr ⟨g, 0, cap, hv, hn, ⟨fun _ => blk_lt hg, fun i hi => ?_⟩⟩
    rw [Nat.zero_add]
    exact row_cellS h hv (by rw [List.getElem?_map, List.getElem?_eq_getElem hi]; rfl)
theorem StrsAt.take {w : World} {b off : Nat} {l : List ByteArray} (h : StrsAt w b off l) (k : Nat) : StrsAt w b off (l.take k) :=
  ⟨fun h0 => h.lt (fun e => h0 (by rw [e]; simp)), fun i hi => by rw [List.getElem_take]; exact h.at' i (by rw [List.length_take] at hi; omega)⟩
theorem StrsAt.drop {w : World} {b off : Nat} {l : List ByteArray} (h : StrsAt w b off l) (k : Nat) : StrsAt w b (off + k) (l.drop k) :=
  ⟨fun h0 => h.lt (fun e => h0 (by rw [e]; simp)), fun i hi => by rw [List.getElem_drop, Nat.add_assoc]; exact h.at' (k + i) (by rw [List.length_drop] at hi; omega)⟩
theorem step_append_str {P : Program} {w : World} {ops : Array Oper} {o : Oper} {a : Act} {K : Act → World → Prop} {Q : Exit → Act → World → Prop} {E : Prop} (hgd : o.guard = none) (s x : Operand) (t : TypeId)
    (ho : o.op = .call { callee := .builtin .append, args := #[s, x], argTypes := #[t, t] })
    (e : TypeId) (i : TypeInfo) (z : Value) (ht : P.underlying t = some (.slice e)) (hi : P.info? e = some i) (hz : i.zero = some z) (hsize : i.size = 1) (hby : i.bytes = 16) (hzs : z.cells.size = 1)
    (base : Nat) (v : Value) (l : List ByteArray) (hs : a.eval s = v) (hown : w.ownsRow base e 1 v l.length (l.map Value.string)) (D c : Nat) (y : ByteArray) (hx : a.eval x = .slice (some ⟨D, 0, none⟩) 1 c) (hy : w.cell? ⟨D, 0, none⟩ = some (.string y)) (q : Nat) (hq : l.length = q) (hl : q ≤ 1000000) (hbase : base ≤ w.heap.size)
    (h : ∀ g cap w', w'.ownsRow base e 1 (.slice (some ⟨g, 0, none⟩) (q + 1) cap) (l ++ [y]).length ((l ++ [y]).map Value.string) → w.grownBy w' v.ownBlock → K (a.put o.dst (.slice (some ⟨g, 0, none⟩) (q + 1) cap)) w') :
    if Region.wanted o (yielded ops a.tmps) = true then Oper.wp P o a w K Q else E := by
  subst hq
  refine step_append_lies w hgd s x t ho base e i z 1 16 ht hi hz hsize hby hzs (by decide) v l.length (l.map Value.string) hs hown ⟨D, 0, none⟩ 1 c [.string y] hx rfl (fun j u hu => ?_) (by simp [Value.oneCell']) (by decide) (by simp only [maxLen]; omega) (by omega) hbase _ rfl fun g cap w' h1 h2 _ _ => h g cap w' (by rw [List.length_append, List.map_append]; exact h1) h2
  have hj : j = 0 := by
    have := (List.getElem?_eq_some_iff.1 hu).1
    simpa using this
  subst hj
  simp at hu; subst hu
  have hadd : (⟨D, 0, none⟩ : Addr).add 0 = ⟨D, 0, none⟩ := by unfold Addr.add; split <;> simp_all
  rw [hadd]; exact hy
end Go.Proofs.YtdbiebnnogjccaaGreatDoor
