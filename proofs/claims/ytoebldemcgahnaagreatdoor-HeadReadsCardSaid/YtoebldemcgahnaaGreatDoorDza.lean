/- Disks (layer 19): the reference's Dirty, Bytes. -/
import Derived.Test.YtoebldemcgahnaaGreatDoorDz
import Derived.Lib.AppendStr
namespace Go.Proofs.YtoebldemcgahnaaGreatDoor
open Go.RowKit
/-- The places below k with cached bytes. -/
def Dk.dirtyTo (d : Dk) (k : Nat) : List Int := ((List.range k).map Int.ofNat).filter fun i => (d.c i).isSome
theorem Dk.dirtyTo_succ (d : Dk) (k : Nat) : d.dirtyTo (k + 1) = if (d.c (k : Int)).isSome = true then d.dirtyTo k ++ [(k : Int)] else d.dirtyTo k := by
  unfold Dk.dirtyTo
  rw [List.range_succ, List.map_append, List.filter_append]
  show _ ++ List.filter _ [(k : Int)] = _
  rw [List.filter_cons]
  split <;> simp
theorem Dk.dirtyTo_len (d : Dk) (k : Nat) : (d.dirtyTo k).length ≤ k := by
  unfold Dk.dirtyTo
  refine Nat.le_trans (List.length_filter_le _ _) ?_
  simp
theorem Tryz.info3 : (Tryz.prog.info? 3).map (fun i => (i.zero, i.size, i.bytes)) = some (some (.int .i64 0), 1, 8) := by kernel_rfl
theorem new_one {w : World} {u : Value} {t : TypeId} : ∀ j x, ([u] : List Value)[j]? = some x → (w.alloc (.cells #[u] t)).cell? ((⟨w.heap.size, 0, none⟩ : Addr).add j) = some x := fun j x h => by
  have hj : j = 0 := by
    have := (List.getElem?_eq_some_iff.1 h).1
    simpa using this
  subst hj
  simp at h; subst h
  have hadd : (⟨w.heap.size, 0, none⟩ : Addr).add 0 = ⟨w.heap.size, 0, none⟩ := by unfold Addr.add; split <;> simp_all
  rw [hadd, blk_cell (blk_new _ _)]; rfl
set_option maxRecDepth 20000 in
set_option maxHeartbeats 2000000 in
theorem ref_Dirty (q sb cb c1 c2 n : Nat) (kv : Value) (d : Dk) (ok : d.Ok0) (w : World) (hd : RefAny w q sb cb c1 c2 n kv d) :
    Calls Tryz.prog 60 #[.pointer (some ⟨q, 0, none⟩)] w (DirtyP d w) := by
  obtain ⟨rn, hd⟩ := hd
  have HD := Lib.hid hd
  have hn4 : n ≤ 4096 := by have := hd.hn; have := ok.n1; omega
  have OK := Lib.hid ok
  have SOf : Hid (∀ W, Below w.heap.size w W → ∀ o, W.cell? ⟨q, o, none⟩ = (#[.slice (some ⟨sb, 0, none⟩) n c1, .slice (some ⟨cb, 0, none⟩) n c2, .bool d.dead, .bool d.armed, .int .i64 rn, kv] : Array Value)[o]?) := fun W h o => by
    have := blk_cell (HD.out.below h).blk o
    unfold rfCells at this
    exact this
  have HE : Hid (d.dirtyTo n = d.dirty) := by show _ = _; unfold Dk.dirtyTo Dk.dirty; rw [← HD.out.hn, Int.toNat_natCast]
  obtain ⟨i0, ih, i1, i2, i3⟩ := info_parts Tryz.info3
  clear hd ok
  go_enter Tryz.func60, Tryz.ntmps60
  go_wp2_with fail
  go_loopw [3, 4] (fun v c wr => ∃ i : Nat, i ≤ n ∧ c = .int .i64 i ∧ wr.ownsRow w.heap.size 3 1 v (d.dirtyTo i).length ((d.dirtyTo i).map (Value.int .i64)) ∧ Below w.heap.size w wr) (fun _ c _ => n - (intOf c).toNat)
  case atStart => exact ⟨0, Nat.zero_le _, rfl, World.ownsRow_nil _ _ _ _, Below.refl _ _⟩
  case round =>
    obtain ⟨i, hin, rfl, hO, hB⟩ := hrel
    have HO := Lib.hid hO; have HB := Lib.hid hB
    clear hO hB
    have hcq := SOf.out wr HB.out
    by_cases hlt : i < n
    · have hi : (i : Int) < (n : Int) := by omega
      have hi0 : (0 : Int) ≤ (i : Int) := by omega
      have hcc := (HD.out.below HB.out).c.cell hlt
      unfold Dk.ca at hcc
      have hsn := d.dirtyTo_succ i
      have hdl := d.dirtyTo_len i
      cases hci : d.c (i : Int) with
      | none =>
        rw [hci] at hcc hsn
        have hcc : wr.cell? ⟨cb, i, none⟩ = some (.string ⟨#[]⟩) := hcc
        rw [if_neg (by decide)] at hsn
        have HSN := Lib.hid hsn
        clear hsn hdl hci
        go_wp2_with fail
        go_roundw
        case rel => exact ⟨i + 1, by omega, by go_num, by rw [HSN.out]; exact HO.out, HB.out⟩
        case measure => simp [intOf]; omega
      | some s =>
        rw [hci] at hcc hsn
        have hcc : wr.cell? ⟨cb, i, none⟩ = some (.string s) := hcc
        rw [if_pos (show (some s).isSome = true from rfl)] at hsn
        obtain ⟨g1, g2, g3⟩ := strF (full256 (OK.out.sc _ s hci))
        have HSN := Lib.hid hsn
        obtain ⟨L, hL⟩ : ∃ L, L = d.dirtyTo i := ⟨_, rfl⟩
        rw [← hL] at HO HSN hdl
        clear hsn hci hL
        go_wp2_with (at_builtin; refine wpList_append_lies _ rfl _ _ _ rfl w.heap.size 3 i0 (.int .i64 0) 1 8 Tryz.underlying81 ih i1 i2 i3 rfl (by decide) _ L.length (L.map (Value.int .i64)) rfl (HO.out.alloc _) ⟨wr.heap.size, 0, none⟩ 1 1 [.int .i64 (i : Int)] rfl rfl new_one (by simp [Value.oneCell']) (by decide) (by simp only [maxLen]; omega) (by omega) (by have := HB.out.size; simp; omega) _ rfl ?_; intro g cap w9 k1 k2 _ _; have K1 := Lib.hid k1; have K2 := Lib.hid (bel_row (HB.out.alloc HB.out.size _) (by have := HB.out.size; simp; omega) (HO.out.alloc _) k2); clear k1 k2)
        go_roundw
        case rel => exact ⟨i + 1, by omega, by go_num, by rw [HSN.out, List.length_append, List.map_append]; exact K1.out, K2.out⟩
        case measure => simp [intOf]; omega
    · have hi : ¬ (i : Int) < (n : Int) := by omega
      obtain rfl : i = n := by omega
      go_wp2_with fail
      go_ret
      exact ⟨_, rfl, by rw [← HE.out]; exact SlIl.of_own HO.out, HB.out⟩
theorem Tryz.infob5 : (Tryz.prog.info? 5).map (fun i => (i.zero, i.size, i.bytes)) = some (some (.int .u8 0), 1, 1) := by kernel_rfl
set_option maxRecDepth 20000 in
set_option maxHeartbeats 2000000 in
theorem ref_Bytes (q sb cb c1 c2 n : Nat) (kv : Value) (d : Dk) (ok : d.Ok0) (w : World) (hd : RefAny w q sb cb c1 c2 n kv d) :
    Calls Tryz.prog 99 #[.pointer (some ⟨q, 0, none⟩)] w fun e w' => e = .returned (.string (ofL d.bytes)) ∧ Below w.heap.size w w' := by
  obtain ⟨rn, hd⟩ := hd
  have HD := Lib.hid hd
  have hn4 : n ≤ 4096 := by have := hd.hn; have := ok.n1; omega
  have OK := Lib.hid ok
  have SOf : Hid (∀ W, Below w.heap.size w W → ∀ o, W.cell? ⟨q, o, none⟩ = (#[.slice (some ⟨sb, 0, none⟩) n c1, .slice (some ⟨cb, 0, none⟩) n c2, .bool d.dead, .bool d.armed, .int .i64 rn, kv] : Array Value)[o]?) := fun W h o => by
    have := blk_cell (HD.out.below h).blk o
    unfold rfCells at this
    exact this
  have HE : Hid (d.firstB n = d.bytes) := by show _ = _; unfold Dk.bytes; rw [← HD.out.hn, Int.toNat_natCast]
  obtain ⟨i0, ih, i1, i2, i3⟩ := info_parts Tryz.infob5
  clear hd ok
  have hc := SOf.out w (Below.refl _ _)
  obtain ⟨MC, hMC, hmk⟩ : ∃ MC : Array Value, MC.size = 256 * n ∧ ∀ W : World, (Instr.makeSlice 23 (.int .i64 0) (.int .i64 (256 * (n : Int)))).run Tryz.prog W = .ok (.slice (some ⟨W.heap.size, 0, none⟩) 0 (256 * n)) (W.alloc (.cells MC 5)) := by
    refine ⟨madeCells #[.int .u8 0] (256 * n), by rw [← Array.length_toList, toList_madeCells_one, List.length_replicate], fun W => ?_⟩
    have := run_make (P := Tryz.prog) W 23 5 i0 (.int .u8 0) Tryz.underlying23 ih i1 .i64 .i64 0 (256 * (n : Int)) (by omega) (by omega) (by rw [i3]; omega) (by omega)
    rw [i2, show ((256 * (n : Int)).toNat) = 256 * n by omega] at this
    simpa [Value.cells] using this
  have R0 : Hid ((w.alloc (.cells MC 5)).ownsRow w.heap.size 5 1 (.slice (some ⟨w.heap.size, 0, none⟩) 0 (256 * n)) 0 (Lib.byteCells [])) :=
    ⟨rfl, .inr ⟨w.heap.size, 256 * n, MC, rfl, Nat.le_refl _, blk_new _ _, Nat.zero_le _, by simp only [maxLen]; omega, by rw [hMC]; omega, rfl⟩⟩
  clear hMC
  go_enter Tryz.func99, Tryz.ntmps99
  go_wp2_with fail
  clear hc hmk
  go_loopw [3, 4] (fun v c wr => ∃ i : Nat, i ≤ n ∧ c = .int .i64 i ∧ (∃ g cap, v = .slice (some ⟨g, 0, none⟩) (i * 256) cap) ∧ wr.ownsRow w.heap.size 5 1 v (i * 256) (Lib.byteCells (d.firstB i)) ∧ Below w.heap.size w wr) (fun _ c _ => n - (intOf c).toNat)
  case atStart => exact ⟨0, Nat.zero_le _, rfl, ⟨_, _, by rw [Nat.zero_mul]⟩, by rw [show d.firstB 0 = [] by simp [Dk.firstB], Nat.zero_mul]; exact R0.out, below_alloc1 _ _⟩
  case round =>
    obtain ⟨i, hin, rfl, ⟨g, cap, rfl⟩, hO, hB⟩ := hrel
    have HO := Lib.hid hO; have HB := Lib.hid hB
    clear hO hB
    have hcq := SOf.out wr HB.out
    by_cases hlt : i < n
    · have hi : (i : Int) < (n : Int) := by omega
      have hi0 : (0 : Int) ≤ (i : Int) := by omega
      have hcc := (HD.out.below HB.out).s.cell hlt
      obtain ⟨Y, hY⟩ : ∃ Y, Y = d.at (i : Int) := ⟨_, rfl⟩
      have hYz : Hid (Y.size = 256) := by show _ = _; rw [hY]; exact OK.out.at_size _
      have hsn : Hid (Lib.byteCells (d.firstB (i + 1)) = Lib.byteCells (d.firstB i) ++ Lib.strCells Y) := by
        show _ = _
        rw [Dk.firstB_succ, ← hY]; simp [Lib.byteCells, Lib.strCells]
      replace hcc : wr.cell? ⟨sb, i, none⟩ = some (.string Y) := by rw [hY]; exact hcc
      clear hY
      go_wp2_with (at_builtin; refine Lib.wpList_append_own_string _ rfl _ _ _ _ rfl w.heap.size 5 i0 Tryz.underlying23 Tryz.underlying9 ih i1 i2 i3 _ (i * 256) _ rfl HO.out Y rfl (by rw [hYz.out]; simp only [maxLen]; omega) (by rw [hYz.out]; omega) HB.out.size ?_; intro v9 w9 k1 k2 k3; have K2 := Lib.hid (bel_row HB.out HB.out.size HO.out k2); rw [hYz.out, show i * 256 + 256 = (i + 1) * 256 by omega, ← hsn.out] at k1; obtain ⟨g9, cap9, hv9⟩ : ∃ g9 cap9, v9 = .slice (some ⟨g9, 0, none⟩) ((i + 1) * 256) cap9 := (k1.2.elim (fun h => absurd h.2 (by omega)) (fun ⟨g9, cap9, _, h, _⟩ => ⟨g9, cap9, h⟩)); subst hv9; have K1 := Lib.hid k1; clear k1 k2 k3)
      go_roundw
      case rel => exact ⟨i + 1, by omega, by go_num, ⟨_, _, rfl⟩, K1.out, K2.out⟩
      case measure => simp [intOf]; omega
    · have hi : ¬ (i : Int) < (n : Int) := by omega
      obtain rfl : i = n := by omega
      have hcv : (convert 23 9 (.slice (some ⟨g, 0, none⟩) (i * 256) cap)).run Tryz.prog wr = .ok (.string (ofL d.bytes)) wr := by
        have hl : (d.firstB i).length = i * 256 := Dk.firstB_len OK.out i
        have := run_convert_bytes_back wr 23 9 5 ⟨g, 0, none⟩ cap (d.firstB i) Tryz.underlying23 Tryz.underlying5 Tryz.underlying9 (fun j hj => by
          refine HO.out.cells (g := g) rfl j _ ?_
          rw [Lib.byteCells, List.getElem?_map, List.getElem?_eq_getElem hj]; rfl)
        rw [hl, HE.out] at this
        exact this
      go_wp2_with fail
      go_ret
      exact ⟨rfl, HB.out⟩
end Go.Proofs.YtoebldemcgahnaaGreatDoor
