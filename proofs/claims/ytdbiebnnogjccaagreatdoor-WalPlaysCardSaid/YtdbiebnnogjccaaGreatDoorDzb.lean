/- Disks (layer 19): the reference's Dirty, Bytes. -/
import Derived.Test.YtdbiebnnogjccaaGreatDoorDz
import Derived.Lib.AppendStr
import Derived.Deep.RegionLaw
namespace Go.Proofs.YtdbiebnnogjccaaGreatDoor
open Go.RowKit
/-- The places below k with cached bytes. -/
def Dk.dirtyTo (d : Dk) (k : Nat) : List Int := ((List.range k).map Int.ofNat).filter fun i => (d.c i).isSome
theorem Dk.dirtyTo_succ (d : Dk) (k : Nat) : d.dirtyTo (k + 1) = if (d.c (k : Int)).isSome = true then d.dirtyTo k ++ [(k : Int)] else d.dirtyTo k := by
  unfold Dk.dirtyTo
  rw [List.range_succ, List.map_append, List.filter_append]
  show _ ++ List.filter _ [(k : Int)] = _
  rw [List.filter_cons]
  split <;> simp
theorem Dk.dirtyTo_len (d : Dk) (k : Nat) : (d.dirtyTo k).length ≤ k := by
  unfold Dk.dirtyTo
  refine Nat.le_trans (List.length_filter_le _ _) ?_
  simp
theorem Tryz.info3 : (Tryz.prog.info? 3).map (fun i => (i.zero, i.size, i.bytes)) = some (some (.int .i64 0), 1, 8) := by kernel_rfl
theorem new_one {w : World} {u : Value} {t : TypeId} : ∀ j x, ([u] : List Value)[j]? = some x → (w.alloc (.cells #[u] t)).cell? ((⟨w.heap.size, 0, none⟩ : Addr).add j) = some x := fun j x h => by
  have hj : j = 0 := by
    have := (List.getElem?_eq_some_iff.1 h).1
    simpa using this
  subst hj
  simp at h; subst h
  have hadd : (⟨w.heap.size, 0, none⟩ : Addr).add 0 = ⟨w.heap.size, 0, none⟩ := by unfold Addr.add; split <;> simp_all
  rw [hadd, blk_cell (blk_new _ _)]; rfl
set_option maxRecDepth 20000 in
set_option maxHeartbeats 2000000 in
theorem ref_Dirty (q sb cb c1 c2 n : Nat) (kv : Value) (d : Dk) (ok : d.Ok0) (w : World) (hd : RefAny w q sb cb c1 c2 n kv d) :
    Calls Tryz.prog 97 #[.pointer (some ⟨q, 0, none⟩)] w (DirtyP d w) := by
  obtain ⟨rn, hd⟩ := hd
  have HD := Lib.hid hd
  have hn4 : n ≤ 4096 := by have := hd.hn; have := ok.n1; omega
  have OK := Lib.hid ok
  have SOf : Hid (∀ W, Below w.heap.size w W → ∀ o, W.cell? ⟨q, o, none⟩ = (#[.slice (some ⟨sb, 0, none⟩) n c1, .slice (some ⟨cb, 0, none⟩) n c2, .bool d.dead, .bool d.armed, .int .i64 rn, kv] : Array Value)[o]?) := fun W h o => by
    have := blk_cell (HD.out.below h).blk o
    unfold rfCells at this
    exact this
  have HE : Hid (d.dirtyTo n = d.dirty) := by show _ = _; unfold Dk.dirtyTo Dk.dirty; rw [← HD.out.hn, Int.toNat_natCast]
  obtain ⟨i0, ih, i1, i2, i3⟩ := info_parts Tryz.info3
  clear hd ok
  go_enter Tryz.func97, Tryz.ntmps97
  go_wp2_with fail
  go_loopw [3, 4] (fun v c wr => ∃ i : Nat, i ≤ n ∧ c = .int .i64 i ∧ wr.ownsRow w.heap.size 3 1 v (d.dirtyTo i).length ((d.dirtyTo i).map (Value.int .i64)) ∧ Below w.heap.size w wr) (fun _ c _ => n - (intOf c).toNat)
  case atStart => exact ⟨0, Nat.zero_le _, rfl, World.ownsRow_nil _ _ _ _, Below.refl _ _⟩
  case round =>
    obtain ⟨i, hin, rfl, hO, hB⟩ := hrel
    have HO := Lib.hid hO; have HB := Lib.hid hB
    clear hO hB
    have hcq := SOf.out wr HB.out
    by_cases hlt : i < n
    · have hi : (i : Int) < (n : Int) := by omega
      have hi0 : (0 : Int) ≤ (i : Int) := by omega
      have hcc := (HD.out.below HB.out).c.cell hlt
      unfold Dk.ca at hcc
      have hsn := d.dirtyTo_succ i
      have hdl := d.dirtyTo_len i
      cases hci : d.c (i : Int) with
      | none =>
        rw [hci] at hcc hsn
        have hcc : wr.cell? ⟨cb, i, none⟩ = some (.string ⟨#[]⟩) := hcc
        rw [if_neg (by decide)] at hsn
        have HSN := Lib.hid hsn
        clear hsn hdl hci
        go_wp2_with fail
        go_roundw
        case rel => exact ⟨i + 1, by omega, by go_num, by rw [HSN.out]; exact HO.out, HB.out⟩
        case measure => simp [intOf]; omega
      | some s =>
        rw [hci] at hcc hsn
        have hcc : wr.cell? ⟨cb, i, none⟩ = some (.string s) := hcc
        rw [if_pos (show (some s).isSome = true from rfl)] at hsn
        obtain ⟨g1, g2, g3⟩ := strF (full256 (OK.out.sc _ s hci))
        have HSN := Lib.hid hsn
        obtain ⟨L, hL⟩ : ∃ L, L = d.dirtyTo i := ⟨_, rfl⟩
        rw [← hL] at HO HSN hdl
        clear hsn hci hL
        go_wp2_with (at_builtin; refine wpList_append_lies _ rfl _ _ _ rfl w.heap.size 3 i0 (.int .i64 0) 1 8 Tryz.underlying70 ih i1 i2 i3 rfl (by decide) _ L.length (L.map (Value.int .i64)) rfl (HO.out.alloc _) ⟨wr.heap.size, 0, none⟩ 1 1 [.int .i64 (i : Int)] rfl rfl new_one (by simp [Value.oneCell']) (by decide) (by simp only [maxLen]; omega) (by omega) (by have := HB.out.size; simp; omega) _ rfl ?_; intro g cap w9 k1 k2 _ _; have K1 := Lib.hid k1; have K2 := Lib.hid (bel_row (HB.out.alloc HB.out.size _) (by have := HB.out.size; simp; omega) (HO.out.alloc _) k2); clear k1 k2)
        go_roundw
        case rel => exact ⟨i + 1, by omega, by go_num, by rw [HSN.out, List.length_append, List.map_append]; exact K1.out, K2.out⟩
        case measure => simp [intOf]; omega
    · have hi : ¬ (i : Int) < (n : Int) := by omega
      obtain rfl : i = n := by omega
      go_wp2_with fail
      go_ret
      exact ⟨_, rfl, by rw [← HE.out]; exact SlIl.of_own HO.out, HB.out⟩
theorem Tryz.infob5 : (Tryz.prog.info? 5).map (fun i => (i.zero, i.size, i.bytes)) = some (some (.int .u8 0), 1, 1) := by kernel_rfl
set_option maxRecDepth 20000 in
set_option maxHeartbeats 2000000 in
theorem ref_Bytes (q sb cb c1 c2 n : Nat) (kv : Value) (d : Dk) (ok : d.Ok0) (w : World) (hd : RefAny w q sb cb c1 c2 n kv d) :
    Calls Tryz.prog 99 #[.pointer (some ⟨q, 0, none⟩)] w fun e w' => e = .returned (.string (ofL d.bytes)) ∧ Below w.heap.size w w' := by
  obtain ⟨rn, hd⟩ := hd
  have HD := Lib.hid hd
  have hn4 : n ≤ 4096 := by have := hd.hn; have := ok.n1; omega
  have OK := Lib.hid ok
  have SOf : Hid (∀ W, Below w.heap.size w W → ∀ o, W.cell? ⟨q, o, none⟩ = (#[.slice (some ⟨sb, 0, none⟩) n c1, .slice (some ⟨cb, 0, none⟩) n c2, .bool d.dead, .bool d.armed, .int .i64 rn, kv] : Array Value)[o]?) := fun W h o => by
    have := blk_cell (HD.out.below h).blk o
    unfold rfCells at this
    exact this
  have HE : Hid (d.firstB n = d.bytes) := by show _ = _; unfold Dk.bytes; rw [← HD.out.hn, Int.toNat_natCast]
  obtain ⟨i0, ih, i1, i2, i3⟩ := info_parts Tryz.infob5
  clear hd ok
  have hc := SOf.out w (Below.refl _ _)
  obtain ⟨MC, hMC, hmk⟩ : ∃ MC : Array Value, MC.size = 256 * n ∧ ∀ W : World, (Instr.makeSlice 23 (.int .i64 0) (.int .i64 (256 * (n : Int)))).run Tryz.prog W = .ok (.slice (some ⟨W.heap.size, 0, none⟩) 0 (256 * n)) (W.alloc (.cells MC 5)) := by
    refine ⟨madeCells #[.int .u8 0] (256 * n), by rw [← Array.length_toList, toList_madeCells_one, List.length_replicate], fun W => ?_⟩
    have := run_make (P := Tryz.prog) W 23 5 i0 (.int .u8 0) Tryz.underlying23 ih i1 .i64 .i64 0 (256 * (n : Int)) (by omega) (by omega) (by rw [i3]; omega) (by omega)
    rw [i2, show ((256 * (n : Int)).toNat) = 256 * n by omega] at this
    simpa [Value.cells] using this
  have R0 : Hid ((w.alloc (.cells MC 5)).ownsRow w.heap.size 5 1 (.slice (some ⟨w.heap.size, 0, none⟩) 0 (256 * n)) 0 (Lib.byteCells [])) :=
    ⟨rfl, .inr ⟨w.heap.size, 256 * n, MC, rfl, Nat.le_refl _, blk_new _ _, Nat.zero_le _, by simp only [maxLen]; omega, by rw [hMC]; omega, rfl⟩⟩
  clear hMC
  go_enter Tryz.func99, Tryz.ntmps99
  go_wp2_with fail
  clear hc hmk
  go_loopw [3, 4] (fun v c wr => ∃ i : Nat, i ≤ n ∧ c = .int .i64 i ∧ (∃ g cap, v = .slice (some ⟨g, 0, none⟩) (i * 256) cap) ∧ wr.ownsRow w.heap.size 5 1 v (i * 256) (Lib.byteCells (d.firstB i)) ∧ Below w.heap.size w wr) (fun _ c _ => n - (intOf c).toNat)
  case atStart => exact ⟨0, Nat.zero_le _, rfl, ⟨_, _, by rw [Nat.zero_mul]⟩, by rw [show d.firstB 0 = [] by simp [Dk.firstB], Nat.zero_mul]; exact R0.out, below_alloc1 _ _⟩
  case round =>
    obtain ⟨i, hin, rfl, ⟨g, cap, rfl⟩, hO, hB⟩ := hrel
    have HO := Lib.hid hO; have HB := Lib.hid hB
    clear hO hB
    have hcq := SOf.out wr HB.out
    by_cases hlt : i < n
    · have hi : (i : Int) < (n : Int) := by omega
      have hi0 : (0 : Int) ≤ (i : Int) := by omega
      have hcc := (HD.out.below HB.out).s.cell hlt
      obtain ⟨Y, hY⟩ : ∃ Y, Y = d.at (i : Int) := ⟨_, rfl⟩
      have hYz : Hid (Y.size = 256) := by show _ = _; rw [hY]; exact OK.out.at_size _
      have hsn : Hid (Lib.byteCells (d.firstB (i + 1)) = Lib.byteCells (d.firstB i) ++ Lib.strCells Y) := by
        show _ = _
        rw [Dk.firstB_succ, ← hY]; simp [Lib.byteCells, Lib.strCells]
      replace hcc : wr.cell? ⟨sb, i, none⟩ = some (.string Y) := by rw [hY]; exact hcc
      clear hY
      go_wp2_with (at_builtin; refine Lib.wpList_append_own_string _ rfl _ _ _ _ rfl w.heap.size 5 i0 Tryz.underlying23 Tryz.underlying9 ih i1 i2 i3 _ (i * 256) _ rfl HO.out Y rfl (by rw [hYz.out]; simp only [maxLen]; omega) (by rw [hYz.out]; omega) HB.out.size ?_; intro v9 w9 k1 k2 k3; have K2 := Lib.hid (bel_row HB.out HB.out.size HO.out k2); rw [hYz.out, show i * 256 + 256 = (i + 1) * 256 by omega, ← hsn.out] at k1; obtain ⟨g9, cap9, hv9⟩ : ∃ g9 cap9, v9 = .slice (some ⟨g9, 0, none⟩) ((i + 1) * 256) cap9 := (k1.2.elim (fun h => absurd h.2 (by omega)) (fun ⟨g9, cap9, _, h, _⟩ => ⟨g9, cap9, h⟩)); subst hv9; have K1 := Lib.hid k1; clear k1 k2 k3)
      go_roundw
      case rel => exact ⟨i + 1, by omega, by go_num, ⟨_, _, rfl⟩, K1.out, K2.out⟩
      case measure => simp [intOf]; omega
    · have hi : ¬ (i : Int) < (n : Int) := by omega
      obtain rfl : i = n := by omega
      have hcv : (convert 23 9 (.slice (some ⟨g, 0, none⟩) (i * 256) cap)).run Tryz.prog wr = .ok (.string (ofL d.bytes)) wr := by
        have hl : (d.firstB i).length = i * 256 := Dk.firstB_len OK.out i
        have := run_convert_bytes_back wr 23 9 5 ⟨g, 0, none⟩ cap (d.firstB i) Tryz.underlying23 Tryz.underlying5 Tryz.underlying9 (fun j hj => by
          refine HO.out.cells (g := g) rfl j _ ?_
          rw [Lib.byteCells, List.getElem?_map, List.getElem?_eq_getElem hj]; rfl)
        rw [hl, HE.out] at this
        exact this
      go_wp2_with fail
      go_ret
      exact ⟨rfl, HB.out⟩
end Go.Proofs.YtdbiebnnogjccaaGreatDoor

/- Disks (layer 19): the disk of bytes, by the reference; New. -/
namespace Go.Proofs.YtdbiebnnogjccaaGreatDoor
open Go.RowKit
/-- The i-th sector of a text. -/
def secS (s : ByteArray) (i : Nat) : ByteArray := s.extract (i * 256) ((i + 1) * 256)
theorem secS_size {s : ByteArray} {i : Nat} (h : (i + 1) * 256 ≤ s.size) : (secS s i).size = 256 := by unfold secS; rw [ByteArray.size_extract]; omega
/-- The disk of a text. -/
def Dk.ofS (s : ByteArray) : Dk := ⟨((s.size / 256 : Nat) : Int), fun j => if 0 ≤ j ∧ j < ((s.size / 256 : Nat) : Int) then some (secS s j.toNat) else none, fun _ => none, false, 0, [], false⟩
theorem ofS_at {s : ByteArray} {i : Nat} (h : i < s.size / 256) : (Dk.ofS s).at (i : Int) = secS s i := by
  unfold Dk.ofS Dk.at
  have : (0 : Int) ≤ (i : Int) ∧ (i : Int) < ((s.size / 256 : Nat) : Int) := ⟨by omega, by omega⟩
  dsimp only
  rw [if_pos this, Int.toNat_natCast]; rfl
theorem ofS_ok {s : ByteArray} (h0 : 256 ≤ s.size) (h1 : s.size ≤ 1048576) (hm : s.size % 256 = 0) : (Dk.ofS s).Ok := by
  refine ⟨by show (1 : Int) ≤ ((s.size / 256 : Nat) : Int); omega, by show ((s.size / 256 : Nat) : Int) ≤ 4096; omega, fun i hi => ?_, (fun i hi => by cases hi), fun i t ht => ?_, (fun i t ht => by cases ht), (fun e => by cases e), Nat.zero_le _⟩
  · have hi : (if 0 ≤ i ∧ i < ((s.size / 256 : Nat) : Int) then some (secS s i.toNat) else none).isSome = true := hi
    by_cases hc : 0 ≤ i ∧ i < ((s.size / 256 : Nat) : Int)
    · exact hc
    · rw [if_neg hc] at hi; cases hi
  · have ht : (if 0 ≤ i ∧ i < ((s.size / 256 : Nat) : Int) then some (secS s i.toNat) else none) = some t := ht
    by_cases hc : 0 ≤ i ∧ i < ((s.size / 256 : Nat) : Int)
    · rw [if_pos hc] at ht
      injection ht with ht
      rw [← ht]
      exact secS_size (by omega)
    · rw [if_neg hc] at ht; cases ht
theorem rowF_of_own {w : World} {base : Nat} {e : TypeId} {g c n : Nat} {L : List ByteArray} {f : Nat → ByteArray} (h : w.ownsRow base e 1 (.slice (some ⟨g, 0, none⟩) n c) n (L.map Value.string)) (hf : ∀ i, i < n → L[i]? = some (f i)) : RowF w g n f := by
  rcases h.2 with ⟨h1, _⟩ | ⟨g', cap, cur, hv, hb, hg, hn, _, hsz, htk⟩
  · cases h1
  · injection hv with hv _ _
    injection hv with hv
    injection hv with hv _ _
    subst hv
    refine ⟨cur, e, hg, fun i hi => ?_⟩
    have h3 : (cur.toList.take (n * 1))[i]? = some (.string (f i)) := by
      rw [htk, List.getElem?_map, hf i hi]; rfl
    rw [List.getElem?_take_of_lt (by omega), Array.getElem?_toList] at h3
    exact h3
/-- The first k sectors; k empty texts. -/
def secsS (s : ByteArray) (k : Nat) : List ByteArray := (List.range k).map (secS s)
theorem secsS_succ (s : ByteArray) (k : Nat) : secsS s (k + 1) = secsS s k ++ [secS s k] := by unfold secsS; rw [List.range_succ, List.map_append]; rfl
theorem secsS_len (s : ByteArray) (k : Nat) : (secsS s k).length = k := by unfold secsS; simp
/-- Both rows while they grow. -/
def RowsO (w : World) (B : Nat) (s : ByteArray) (k k' : Nat) (vS vC : Value) : Prop :=
  w.ownsRow B 9 1 vS k ((secsS s k).map Value.string) ∧ w.ownsRow B 9 1 vC k' ((List.replicate k' (⟨#[]⟩ : ByteArray)).map Value.string) ∧
  (k = 0 ∧ vS = .slice none 0 0 ∨ ∃ g c, vS = .slice (some ⟨g, 0, none⟩) k c) ∧ (k' = 0 ∧ vC = .slice none 0 0 ∨ ∃ g c, vC = .slice (some ⟨g, 0, none⟩) k' c) ∧ (∀ g, vS.ownBlock = some g → vC.ownBlock ≠ some g)
theorem new_str {w : World} {u : ByteArray} {t : TypeId} : ∀ j x, ([.string u] : List Value)[j]? = some x → (w.alloc (.cells #[.string u] t)).cell? ((⟨w.heap.size, 0, none⟩ : Addr).add j) = some x := new_one
theorem own_lt {w : World} {B g : Nat} {e : TypeId} {v : Value} {n : Nat} {xs : List Value} (h : w.ownsRow B e 1 v n xs) (hg : v.ownBlock = some g) : B ≤ g ∧ g < w.heap.size := h.lt g hg
theorem ownb (g c n : Nat) : (Value.slice (some ⟨g, 0, none⟩) n c).ownBlock = some g := rfl
theorem own_set {W : World} {B : Nat} {e : TypeId} {s n : Nat} {v : Value} {xs : List Value} {G o : Nat} {u : Value} (h : W.ownsRow B e s v n xs) (hG : G < B) : (W.setCell ⟨G, o, none⟩ u).ownsRow B e s v n xs :=
  h.kept (row := some G) ⟨rfl, rfl, rfl, by simp [World.setCell], fun k _ hne => Below.heap_setCell _ _ _ _ (fun e => hne (by rw [e]))⟩ (by
    cases hv : v.ownBlock with
    | none => exact .inl rfl
    | some g => exact .inr (fun e => by injection e with e; have := (h.lt g hv).1; omega))
theorem own_kept {w w' : World} {B : Nat} {e : TypeId} {v v2 : Value} {n : Nat} {xs : List Value} (h : w.ownsRow B e 1 v n xs) (hg : w.grownBy w' v2.ownBlock) (hne : ∀ g, v.ownBlock = some g → v2.ownBlock ≠ some g) : w'.ownsRow B e 1 v n xs :=
  h.kept hg (by
    cases hv : v.ownBlock with
    | none => exact .inl rfl
    | some g => exact .inr (fun e => hne g hv e.symm))
theorem grown_blk {w w' : World} {B G : Nat} {e : TypeId} {v : Value} {n : Nat} {xs : List Value} {x : Obj} (h : w.ownsRow B e 1 v n xs) (hg : w.grownBy w' v.ownBlock) (hG : G < B) (hx : w.heap[G]? = some x) : w'.heap[G]? = some x :=
  (hg.block G (blk_lt hx) (fun e => by have := (h.lt G e.symm).1; omega)).trans hx
theorem bel_rowS {a w w' : World} {B B' : Nat} {e : TypeId} {s n : Nat} {v : Value} {xs : List Value} (hb : Below B a w) (hB : B ≤ w.heap.size) (hBB : B ≤ B') (h : w.ownsRow B' e s v n xs) (hg : w.grownBy w' v.ownBlock) : Below B a w' :=
  ⟨hg.os.trans hb.os, hg.tape.trans hb.tape, hg.output.trans hb.output, Nat.le_trans hb.size hg.size, fun k hk => (hg.block k (by omega) (fun e => by have := (h.lt k e.symm).1; omega)).trans (hb.block k hk)⟩
/-- One row grows by an element. -/
theorem rows_apart {w : World} {B H g : Nat} {e : TypeId} {v v2 : Value} {n : Nat} {xs : List Value} (hC : w.ownsRow B e 1 v2 n xs) (hne : ∀ g, v.ownBlock = some g → v2.ownBlock ≠ some g) (h3 : v.ownBlock = some g ∨ g = H) (hH : w.heap.size ≤ H) : v2.ownBlock ≠ some g := fun e => by
  rcases h3 with h | h
  · exact hne g h e
  · have := (hC.lt g e).2; omega
theorem sl_own {g c n g' : Nat} (h : (Value.slice (some ⟨g, 0, none⟩) n c).ownBlock = some g') : g = g' := by
  have h : some g = some g' := h
  injection h
/-- A reference's disk, new. -/
def OfP (w w' : World) (n : Nat) (d : Dk) : Prop := ∃ sb cb c1 c2, w.heap.size < sb ∧ w.heap.size < cb ∧ RefAny w' w.heap.size sb cb c1 c2 n (.slice none 0 0) d
set_option maxRecDepth 20000 in
set_option maxHeartbeats 4000000 in
theorem ref_Of (s : ByteArray) (h0 : 256 ≤ s.size) (h1 : s.size ≤ 1048576) (hm : s.size % 256 = 0) (w : World) :
    Calls Tryz.prog 81 #[.string s] w fun e w' => e = .returned (.tuple #[.pointer (some ⟨w.heap.size, 0, none⟩), .int .i64 0]) ∧ OfP w w' (s.size / 256) (Dk.ofS s) ∧ Below w.heap.size w w' := by
  obtain ⟨n, hn⟩ : ∃ n, n = s.size / 256 := ⟨_, rfl⟩
  have hsn : s.size = n * 256 := by omega
  have q1 : ((s.size : Int) % 256 != 0) = false := by rw [show (s.size : Int) % 256 = 0 by omega]; rfl
  have q2 : ¬ (s.size : Int) < 256 := by omega
  have q3 : ¬ (1048576 : Int) < (s.size : Int) := by omega
  have hn4 : n ≤ 4096 := by omega
  have HN := Lib.hid hsn
  rw [← hn]
  have HN2 := Lib.hid hn
  have HO1 := Lib.hid h1
  obtain ⟨i0, ih, i1, i2, i3⟩ := info_parts Tryz.info9
  obtain ⟨w0, hw0⟩ : ∃ w0, w0 = w.alloc (.cells #[.slice none 0 0, .slice none 0 0, .bool false, .bool false, .int .i64 0, .slice none 0 0] 62) := ⟨_, rfl⟩
  have B0 : Hid (Below w.heap.size w w0) := by show Below _ _ _; rw [hw0]; exact below_alloc1 _ _
  have Q0 : Hid (w0.heap[w.heap.size]? = some (.cells #[.slice none 0 0, .slice none 0 0, .bool false, .bool false, .int .i64 0, .slice none 0 0] 62 (0, 0))) := by show _ = _; rw [hw0]; exact blk_new _ _
  clear hn hsn h0 h1 hm
  go_enter Tryz.func81, Tryz.ntmps81
  go_wp2_with fail
  rw [← hw0]
  clear hw0
  go_loopw [5] (fun c wr => ∃ (k : Nat) (vS vC : Value), k ≤ n ∧ c = .int .i64 ((k : Int) * 256) ∧ wr.heap[w.heap.size]? = some (.cells #[vS, vC, .bool false, .bool false, .int .i64 0, .slice none 0 0] 62 (0, 0)) ∧ RowsO wr (w.heap.size + 1) s k k vS vC ∧ Below w.heap.size w wr) (fun c _ => n * 256 - (intOf c).toNat)
  case atStart => exact ⟨0, .slice none 0 0, .slice none 0 0, Nat.zero_le _, rfl, Q0.out, ⟨World.ownsRow_nil _ _ _ _, World.ownsRow_nil _ _ _ _, .inl ⟨rfl, rfl⟩, .inl ⟨rfl, rfl⟩, (fun g e => by cases e)⟩, B0.out⟩
  case round =>
    obtain ⟨k, vS, vC, hkn, rfl, hQ, ⟨hS, hC, hfS, hfC, hne⟩, hB⟩ := hrel
    have HQ := Lib.hid hQ; have HS := Lib.hid hS; have HC := Lib.hid hC; have HFC := Lib.hid hfC; have HNE := Lib.hid hne; have HB := Lib.hid hB; have HFS := Lib.hid hfS
    clear hQ hS hC hfC hne hB hfS
    by_cases hlt : k < n
    · have hi : ((k : Int) * 256) < (s.size : Int) := by have := HN.out; omega
      have hi0 : (0 : Int) ≤ ((k : Int) * 256) := by omega
      have hi2 : (k : Int) * 256 + 256 ≤ (s.size : Int) := by have := HN.out; omega
      have hk2 : (k + 1) * 256 ≤ s.size := by have := HN.out; omega
      have e1 : IntKind.i64.wrap ((k : Int) * 256 + 256) = (k : Int) * 256 + 256 := IntWalk.i64_in _ (by omega)
      have hsl : ∀ wx, (Instr.slice 9 (.string s) (some (.int .i64 ((k : Int) * 256))) (some (.int .i64 ((k : Int) * 256 + 256))) none).run Tryz.prog wx = .ok (.string (secS s k)) wx := fun wx => by
        rw [run_slice_string (P := Tryz.prog) wx 9 s .i64 .i64 ((k : Int) * 256) ((k : Int) * 256 + 256) Tryz.underlying9 hi0 (by omega) hi2, show ((k : Int) * 256).toNat = k * 256 by omega, show ((k : Int) * 256 + 256).toNat = (k + 1) * 256 by omega]
        rfl
      have hss := secsS_succ s k
      have hsl2 := secsS_len s k
      obtain ⟨X, hX⟩ : ∃ X, X = secS s k := ⟨_, rfl⟩
      obtain ⟨L, hL⟩ : ∃ L, L = secsS s k := ⟨_, rfl⟩
      rw [← hX] at hsl hss
      rw [← hL] at hss HS hsl2
      have HSS := Lib.hid hss; have HSL := Lib.hid hsl2
      clear hX hL hss hsl2
      go_upto_region 7 with (fail)
      have D0 : Hid (Below wr.heap.size wr wr.drew) := ⟨rfl, rfl, rfl, Nat.le_refl _, fun _ _ => rfl⟩
      have hcq : ∀ o, wr.drew.cell? ⟨w.heap.size, o, none⟩ = (#[vS, vC, .bool false, .bool false, .int .i64 0, .slice none 0 0] : Array Value)[o]? := blk_cell HQ.out
      have hB1 : w.heap.size < wr.heap.size := blk_lt HQ.out
      have A1 : Hid ((wr.alloc (.cells #[.string X] 9)).drew.ownsRow (w.heap.size + 1) 9 1 vS k (L.map Value.string)) := HS.out.alloc _
      have A2 : Hid ((wr.alloc (.cells #[.string X] 9)).drew.ownsRow (w.heap.size + 1) 9 1 vC k ((List.replicate k (⟨#[]⟩ : ByteArray)).map Value.string)) := HC.out.alloc _
      have A3 : Hid ((wr.alloc (.cells #[.string X] 9)).drew.heap[w.heap.size]? = some (.cells #[vS, vC, .bool false, .bool false, .int .i64 0, .slice none 0 0] 62 (0, 0))) := blk_alloc HQ.out
      have A4 : Hid (Below w.heap.size w (wr.alloc (.cells #[.string X] 9)).drew) := bstep HB.out (bstep (below_alloc1 _ _) ⟨rfl, rfl, rfl, Nat.le_refl _, fun _ _ => rfl⟩)
      have hcq2 := blk_cell A3.out
      go_region_law
        (first | (refine step_append_lies _ (by rfl) _ _ _ (by rfl) (w.heap.size + 1) 9 i0 (.string ⟨#[]⟩) 1 16 Tryz.underlying34 ih i1 i2 i3 (by rfl) (by decide) vS k (L.map Value.string) (by rfl) A1.out _ 1 _ [.string X] (by rfl) rfl new_str (by simp [Value.oneCell']) (by decide) (by simp only [maxLen]; omega) (by omega) (by simp; omega) _ rfl ?_; intro g c w9 k1 k2 k3 k4; have Q9 := Lib.hid (grown_blk A1.out k2 (Nat.lt_succ_self _) A3.out); have C9 := Lib.hid (own_kept A2.out k2 (fun g h e => HNE.out g e h)); have N9 := Lib.hid (rows_apart A2.out HNE.out k3 (Nat.le_refl _)); have K1 := Lib.hid k1; have B9 := Lib.hid (bel_rowS A4.out A4.out.size (Nat.le_succ _) A1.out k2); have hc9 := blk_cell Q9.out; have hf9 := blk_frozen Q9.out; clear k1 k2 k3 k4))
      all_goals
        have Qz : Hid ((w9.setCell ⟨w.heap.size, 0, none⟩ (.slice (some ⟨g, 0, none⟩) (k + 1) c)).heap[w.heap.size]? = some (.cells #[.slice (some ⟨g, 0, none⟩) (k + 1) c, vC, .bool false, .bool false, .int .i64 0, .slice none 0 0] 62 (0, 0))) := by show _ = _; rw [blk_set Q9.out]; rfl
        have Sz : Hid ((w9.setCell ⟨w.heap.size, 0, none⟩ (.slice (some ⟨g, 0, none⟩) (k + 1) c)).ownsRow (w.heap.size + 1) 9 1 (.slice (some ⟨g, 0, none⟩) (k + 1) c) (k + 1) ((secsS s (k + 1)).map Value.string)) := by
          have := own_set (G := w.heap.size) (o := 0) (u := .slice (some ⟨g, 0, none⟩) (k + 1) c) K1.out (Nat.lt_succ_self _)
          rw [HSS.out, List.map_append]; exact this
        have Cz := Lib.hid (own_set (G := w.heap.size) (o := 0) (u := .slice (some ⟨g, 0, none⟩) (k + 1) c) C9.out (Nat.lt_succ_self _))
        have Bz := Lib.hid (B9.out.setCell (p := ⟨w.heap.size, 0, none⟩) (Nat.le_refl _) (.slice (some ⟨g, 0, none⟩) (k + 1) c))
        obtain ⟨z, hz⟩ : ∃ z, z = w9.setCell ⟨w.heap.size, 0, none⟩ (.slice (some ⟨g, 0, none⟩) (k + 1) c) := ⟨_, rfl⟩
        rw [← hz] at Qz Sz Cz Bz ⊢
        clear hz hc9 hf9 hcq hcq2
        have hcz := blk_cell Qz.out
        have A5 : Hid ((z.alloc (.cells #[.string ⟨#[]⟩] 9)).ownsRow (w.heap.size + 1) 9 1 vC k ((List.replicate k (⟨#[]⟩ : ByteArray)).map Value.string)) := Cz.out.alloc _
        have A6 : Hid ((z.alloc (.cells #[.string ⟨#[]⟩] 9)).ownsRow (w.heap.size + 1) 9 1 (.slice (some ⟨g, 0, none⟩) (k + 1) c) (k + 1) ((secsS s (k + 1)).map Value.string)) := Sz.out.alloc _
        have A7 : Hid ((z.alloc (.cells #[.string ⟨#[]⟩] 9)).heap[w.heap.size]? = some (.cells #[.slice (some ⟨g, 0, none⟩) (k + 1) c, vC, .bool false, .bool false, .int .i64 0, .slice none 0 0] 62 (0, 0))) := blk_alloc Qz.out
        have A8 : Hid (Below w.heap.size w (z.alloc (.cells #[.string ⟨#[]⟩] 9))) := bstep Bz.out (below_alloc1 _ _)
        have hzl : w.heap.size + 1 ≤ z.heap.size := blk_lt Qz.out
        go_wp2_with (at_builtin; refine wpList_append_lies _ rfl _ _ _ rfl (w.heap.size + 1) 9 i0 (.string ⟨#[]⟩) 1 16 Tryz.underlying34 ih i1 i2 i3 rfl (by decide) vC k ((List.replicate k (⟨#[]⟩ : ByteArray)).map Value.string) rfl A5.out ⟨z.heap.size, 0, none⟩ 1 1 [.string ⟨#[]⟩] rfl rfl new_str (by simp [Value.oneCell']) (by decide) (by simp only [maxLen]; omega) (by omega) (by simp; omega) _ rfl ?_; intro g2 c2 y9 k1 k2 k3 k4; have Q8 := Lib.hid (grown_blk A5.out k2 (Nat.lt_succ_self _) A7.out); have S8 := Lib.hid (own_kept A6.out k2 (fun g' h e => N9.out (by rw [sl_own h]; exact e))); have N8 := Lib.hid (rows_apart (v := vC) A6.out (fun g' h e => N9.out (by rw [sl_own e]; exact h)) k3 (Nat.le_refl _)); have K2 := Lib.hid k1; have B8 := Lib.hid (bel_rowS A8.out A8.out.size (Nat.le_succ _) A5.out k2); have hc8 := blk_cell Q8.out; have hf8 := blk_frozen Q8.out; clear k1 k2 k3 k4)
        go_roundw
        case rel =>
          refine ⟨k + 1, .slice (some ⟨g, 0, none⟩) (k + 1) c, .slice (some ⟨g2, 0, none⟩) (k + 1) c2, by omega, by rw [show ((k + 1 : Nat) : Int) * 256 = (k : Int) * 256 + 256 by omega], ?_, ⟨own_set S8.out (Nat.lt_succ_self _), ?_, .inr ⟨_, _, rfl⟩, .inr ⟨_, _, rfl⟩, fun g' h e => N8.out (by rw [sl_own e]; exact h)⟩, B8.out.setCell (Nat.le_refl _) _⟩
          · rw [blk_set Q8.out]; rfl
          · have := own_set (G := w.heap.size) (o := 1) (u := .slice (some ⟨g2, 0, none⟩) (k + 1) c2) K2.out (Nat.lt_succ_self _)
            rw [List.replicate_succ', List.map_append]; exact this
        case measure => simp [intOf]; omega
    · have hi : ¬ ((k : Int) * 256) < (s.size : Int) := by have := HN.out; omega
      go_wp2_with fail
      obtain rfl : k = n := by omega
      obtain ⟨g, c, rfl⟩ : ∃ g c, vS = .slice (some ⟨g, 0, none⟩) k c := HFS.out.resolve_left (fun h => by have := HN2.out; have := HN.out; have := h.1; omega)
      obtain ⟨g2, c2, rfl⟩ : ∃ g c, vC = .slice (some ⟨g, 0, none⟩) k c := HFC.out.resolve_left (fun h => by have := HN2.out; have := HN.out; have := h.1; omega)
      go_ret2
      refine ⟨rfl, ⟨g, g2, c, c2, (own_lt HS.out rfl).1, (own_lt HC.out rfl).1, 0, HQ.out, ?_, ?_, by rw [HN2.out]; rfl, (fun e => by cases e), .inl ⟨rfl, _, _, rfl⟩, ?_, ?_, (fun e => HNE.out g rfl (by rw [e]; rfl)), (fun b off n c e => by cases e)⟩, HB.out⟩
      · refine rowF_of_own HS.out fun i hi => ?_
        rw [ofS_at (by have := HN2.out; omega)]
        unfold secsS
        rw [List.getElem?_map, List.getElem?_range hi]; rfl
      · refine rowF_of_own HC.out fun i hi => ?_
        rw [List.getElem?_replicate, if_pos hi]; rfl
      · have h5 : w.heap.size + 1 ≤ g := (own_lt HS.out rfl).1
        omega
      · have h5 : w.heap.size + 1 ≤ g2 := (own_lt HC.out rfl).1
        omega
end Go.Proofs.YtdbiebnnogjccaaGreatDoor
