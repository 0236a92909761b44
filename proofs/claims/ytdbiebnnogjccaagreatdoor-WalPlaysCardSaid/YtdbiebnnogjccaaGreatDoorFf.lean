/- errors.Is, walked at the program's own sentinels. After the kit's worked text Sentry. -/
import Derived.Test.YtdbiebnnogjccaaGreatDoorFr
import Derived.WalkKit
import Derived.LaidEql
import Derived.Stop.Asserts
import Derived.RowKitTokens
import Derived.Test.YtdbiebnnogjccaaGreatDoorProg
import Derived.Test.YtdbiebnnogjccaaGreatDoorFc
namespace Go.Proofs.YtdbiebnnogjccaaGreatDoor
open Go.RowKit Go.Extern.Stop Go.Stop Go.Extern
theorem es_typeOf (v : Value) (w : World) : (Extern.ReflectliteType.typeOf #[.iface 308 v]).run Tryz.prog w = .ok (.iface 238 (.agg #[.pointer (some ⟨18, 308, none⟩)])) w := by kernel_rfl
def es_cmp : Array Value → Sem Value := Extern.ReflectliteType.method fun t => do Extern.Rtype.noPackHeld "Comparable" t; pure (.bool (← typeInfo t).comparable)
theorem es_comparable (w : World) : (es_cmp #[.agg #[.pointer (some ⟨18, 308, none⟩)]]).run Tryz.prog w = .ok (.bool true) w := by kernel_rfl
theorem es_method (v : Value) (w : World) : (Go.method 437 238 v "Comparable").run Tryz.prog w = .ok (249, v) w := by kernel_rfl
theorem es_comp : (Tryz.prog.info? 308).map (·.comparable) = some true := by kernel_rfl
theorem es_size : (Tryz.prog.info? 326).map (·.size) = some 1 := by kernel_rfl
theorem es_noIs (v : Value) (xT : TypeId) (w : World) : (Instr.typeAssert (.iface 308 v) xT 240 true).run Tryz.prog w = .ok (.tuple #[.nilIface, .bool false]) w := run_typeAssert_lacksB Tryz.underlying240 (by kernel_rfl) (by kernel_rfl) v xT w
theorem es_noUnwrap (v : Value) (xT : TypeId) (w : World) : (Instr.typeAssert (.iface 308 v) xT 243 true).run Tryz.prog w = .ok (.tuple #[.nilIface, .bool false]) w := run_typeAssert_lacksB Tryz.underlying243 (by kernel_rfl) (by kernel_rfl) v xT w
theorem es_noUnwraps (v : Value) (xT : TypeId) (w : World) : (Instr.typeAssert (.iface 308 v) xT 245 true).run Tryz.prog w = .ok (.tuple #[.nilIface, .bool false]) w := run_typeAssert_lacksB Tryz.underlying245 (by kernel_rfl) (by kernel_rfl) v xT w
theorem dw_noIs (v : Value) (xT : TypeId) (w : World) : (Instr.typeAssert (.iface 150 v) xT 240 true).run Tryz.prog w = .ok (.tuple #[.nilIface, .bool false]) w := run_typeAssert_lacksB Tryz.underlying240 (by kernel_rfl) (by kernel_rfl) v xT w
theorem dw_hasUnwrap (v : Value) (xT : TypeId) (w : World) : (Instr.typeAssert (.iface 150 v) xT 243 true).run Tryz.prog w = .ok (.tuple #[.iface 150 v, .bool true]) w := run_typeAssert_hasB Tryz.underlying243 (by kernel_rfl) v xT w
theorem dw_method (v : Value) (w : World) : (Go.method 437 150 v "Unwrap").run Tryz.prog w = .ok (240, v) w := by kernel_rfl
/-- errors.Is(x, nil's place): nil is none of them. -/
theorem is_nil (b : Addr) (w : World) : Calls Tryz.prog 113 #[.nilIface, .iface 308 (.pointer (some b))] w fun e w' => e = .returned (.bool false) ∧ w = w' := by
  have hn := run_eql_iface_nil_left (P := Tryz.prog) w 308 (.pointer (some b)) Tryz.underlying122
  go_enter Tryz.func113, Tryz.ntmps113
  go_wp2
  go_ret
  exact ⟨rfl, rfl⟩
/-- errors.Is(x, x). -/
theorem is_same (b : Addr) (w : World) : Calls Tryz.prog 113 #[.iface 308 (.pointer (some b)), .iface 308 (.pointer (some b))] w fun e w' => e = .returned (.bool true) ∧ w = w' := by
  obtain ⟨i, hi, hcmp⟩ := Option.map_eq_some_iff.1 es_comp
  obtain ⟨j, hj, hjs⟩ := Option.map_eq_some_iff.1 es_size
  have h8 := @run_callFunc_extern Tryz.prog 141 _ Extern.ReflectliteType.typeOf Tryz.func141 (by kernel_rfl) (by kernel_rfl) (by kernel_rfl) (by kernel_rfl)
  have h32 := @run_callFunc_extern Tryz.prog 249 _ es_cmp Tryz.func249 (by kernel_rfl) (by kernel_rfl) (by kernel_rfl) (by kernel_rfl)
  have tT := es_typeOf
  have cT := es_comparable
  have mR := es_method
  have heq := run_eql_iface_ptr_same (P := Tryz.prog) w b Tryz.underlying122 Tryz.underlying308 hi hcmp hj
  go_enter Tryz.func113, Tryz.ntmps113
  go_wp2
  refine wp_loop_rounds 1 ?_
  rw [rounds_succ]
  go_wp2
  go_ret
  exact ⟨rfl, rfl⟩
/-- errors.Is(x, y), two of errors.New's make. -/
theorem is_other (a b : Addr) (ca cb : Array Value) (ta tb : TypeId) (w : World) (hne : a ≠ b) (ha : w.heap[a.block]? = some (.cells ca ta (0, 0))) (hb : w.heap[b.block]? = some (.cells cb tb (0, 0))) : Calls Tryz.prog 113 #[.iface 308 (.pointer (some a)), .iface 308 (.pointer (some b))] w fun e w' => e = .returned (.bool false) ∧ w = w' := by
  obtain ⟨i, hi, hcmp⟩ := Option.map_eq_some_iff.1 es_comp
  obtain ⟨j, hj, hjs⟩ := Option.map_eq_some_iff.1 es_size
  have h8 := @run_callFunc_extern Tryz.prog 141 _ Extern.ReflectliteType.typeOf Tryz.func141 (by kernel_rfl) (by kernel_rfl) (by kernel_rfl) (by kernel_rfl)
  have h32 := @run_callFunc_extern Tryz.prog 249 _ es_cmp Tryz.func249 (by kernel_rfl) (by kernel_rfl) (by kernel_rfl) (by kernel_rfl)
  have tT := es_typeOf
  have cT := es_comparable
  have mR := es_method
  have nE := es_noIs
  have uE := es_noUnwrap
  have vE := es_noUnwraps
  have heq := run_eql_iface_ptr_other (P := Tryz.prog) w Tryz.underlying122 Tryz.underlying308 hi hcmp hj (by rw [hjs]; decide) hne ha hb
  go_enter Tryz.func113, Tryz.ntmps113
  go_wp2
  refine wp_loop_rounds 1 ?_
  rw [rounds_succ]
  go_wp2
  go_ret
  exact ⟨rfl, rfl⟩
/-- errors.Is(e, x), e a *disk.wrapped that holds x. -/
theorem is_wrap_same (p : Nat) (b : Addr) (w : World) (h1 : w.cell? ⟨p, 1, none⟩ = some (.iface 308 (.pointer (some b)))) : Calls Tryz.prog 113 #[.iface 150 (.pointer (some ⟨p, 0, none⟩)), .iface 308 (.pointer (some b))] w fun e w' => e = .returned (.bool true) ∧ w = w' := by
  obtain ⟨i, hi, hcmp⟩ := Option.map_eq_some_iff.1 es_comp
  obtain ⟨j, hj, hjs⟩ := Option.map_eq_some_iff.1 es_size
  have h8 := @run_callFunc_extern Tryz.prog 141 _ Extern.ReflectliteType.typeOf Tryz.func141 (by kernel_rfl) (by kernel_rfl) (by kernel_rfl) (by kernel_rfl)
  have h32 := @run_callFunc_extern Tryz.prog 249 _ es_cmp Tryz.func249 (by kernel_rfl) (by kernel_rfl) (by kernel_rfl) (by kernel_rfl)
  have tT := es_typeOf
  have cT := es_comparable
  have mR := es_method
  have nE := es_noIs
  have uE := es_noUnwrap
  have vE := es_noUnwraps
  have nW := dw_noIs
  have uW := dw_hasUnwrap
  have mU := dw_method
  have heq := run_eql_iface_ptr_same (P := Tryz.prog) w b Tryz.underlying122 Tryz.underlying308 hi hcmp hj
  have hty := run_eql_iface_types (P := Tryz.prog) 150 308 (.pointer (some ⟨p, 0, none⟩)) (.pointer (some b)) Tryz.underlying122 (by decide) w
  go_enter Tryz.func113, Tryz.ntmps113
  go_wp2
  refine wp_loop_rounds 2 ?_
  rw [rounds_succ]
  go_wp2
  rw [rounds_succ]
  go_wp2
  go_ret
  exact ⟨rfl, rfl⟩
/-- errors.Is(e, x), e a *disk.wrapped that holds another. -/
theorem is_wrap_other (p : Nat) (a b : Addr) (ca cb : Array Value) (ta tb : TypeId) (w : World) (hne : a ≠ b) (ha : w.heap[a.block]? = some (.cells ca ta (0, 0))) (hb : w.heap[b.block]? = some (.cells cb tb (0, 0))) (h1 : w.cell? ⟨p, 1, none⟩ = some (.iface 308 (.pointer (some a)))) : Calls Tryz.prog 113 #[.iface 150 (.pointer (some ⟨p, 0, none⟩)), .iface 308 (.pointer (some b))] w fun e w' => e = .returned (.bool false) ∧ w = w' := by
  obtain ⟨i, hi, hcmp⟩ := Option.map_eq_some_iff.1 es_comp
  obtain ⟨j, hj, hjs⟩ := Option.map_eq_some_iff.1 es_size
  have h8 := @run_callFunc_extern Tryz.prog 141 _ Extern.ReflectliteType.typeOf Tryz.func141 (by kernel_rfl) (by kernel_rfl) (by kernel_rfl) (by kernel_rfl)
  have h32 := @run_callFunc_extern Tryz.prog 249 _ es_cmp Tryz.func249 (by kernel_rfl) (by kernel_rfl) (by kernel_rfl) (by kernel_rfl)
  have tT := es_typeOf
  have cT := es_comparable
  have mR := es_method
  have nE := es_noIs
  have uE := es_noUnwrap
  have vE := es_noUnwraps
  have nW := dw_noIs
  have uW := dw_hasUnwrap
  have mU := dw_method
  have heq := run_eql_iface_ptr_other (P := Tryz.prog) w Tryz.underlying122 Tryz.underlying308 hi hcmp hj (by rw [hjs]; decide) hne ha hb
  have hty := run_eql_iface_types (P := Tryz.prog) 150 308 (.pointer (some ⟨p, 0, none⟩)) (.pointer (some b)) Tryz.underlying122 (by decide) w
  go_enter Tryz.func113, Tryz.ntmps113
  go_wp2
  refine wp_loop_rounds 2 ?_
  rw [rounds_succ]
  go_wp2
  rw [rounds_succ]
  go_wp2
  go_ret
  exact ⟨rfl, rfl⟩
end Go.Proofs.YtdbiebnnogjccaaGreatDoor

/- Frames (layer 18): piece. -/
namespace Go.Proofs.YtdbiebnnogjccaaGreatDoor
open Go.RowKit
/-- What a world holds for frames: the laid variables. -/
structure FrW (w : World) (a0 a1 a2 : Addr) : Prop where
  et : EtIs w
  tbl : TblIs w
  v0 : w.cell? ⟨2, 0, none⟩ = some (.iface 308 (.pointer (some a0)))
  v1 : w.cell? ⟨3, 0, none⟩ = some (.iface 308 (.pointer (some a1)))
  v2 : w.cell? ⟨4, 0, none⟩ = some (.iface 308 (.pointer (some a2)))
  b0 : ∃ c t, w.heap[a0.block]? = some (.cells c t (0, 0))
  b1 : ∃ c t, w.heap[a1.block]? = some (.cells c t (0, 0))
  b2 : ∃ c t, w.heap[a2.block]? = some (.cells c t (0, 0))
theorem cell_below {w w' : World} {g o : Nat} {v : Value} (h : w.cell? ⟨g, o, none⟩ = some v) (hb : Below w.heap.size w w') : w'.cell? ⟨g, o, none⟩ = some v := by
  rw [hb.cell (p := ⟨g, o, none⟩) (World.block_lt_of_cell? w ⟨g, o, none⟩ h)]; exact h
theorem blk_belowE {w w' : World} {b : Nat} (h : ∃ c t, w.heap[b]? = some (.cells c t (0, 0))) (hb : Below w.heap.size w w') : ∃ c t, w'.heap[b]? = some (.cells c t (0, 0)) := by
  obtain ⟨c, t, h⟩ := h
  exact ⟨c, t, blk_below h hb⟩
theorem FrW.below {w w' : World} {a0 a1 a2 : Addr} (h : FrW w a0 a1 a2) (hb : Below w.heap.size w w') : FrW w' a0 a1 a2 :=
  ⟨h.et.below hb, h.tbl.below hb, cell_below h.v0 hb, cell_below h.v1 hb, cell_below h.v2 hb, blk_belowE h.b0 hb, blk_belowE h.b1 hb, blk_belowE h.b2 hb⟩
set_option maxRecDepth 100000 in
set_option maxHeartbeats 2000000 in
theorem frame_piece_no (b : ByteArray) (n : Int) (i k : Nat) (hn : n ≠ 0) (hi : i < 65536) (hk : k < 65536) (a0 a1 a2 : Addr) (w : World) (hw : FrW w a0 a1 a2) (h : pieceF n k b.data.toList i = false) :
    Calls Tryz.prog 148 #[.string b, .int .u32 n, .int .i64 i, .int .i64 k] w fun e w' => (∃ a, (a = a0 ∨ a = a1) ∧ e = .returned (.tuple #[.string ⟨#[]⟩, .iface 308 (.pointer (some a))])) ∧ Below w.heap.size w w' := by
  have z0 : ((n : Int) == 0) = false := by rw [beq_eq_false_iff_ne]; exact hn
  have HW := Lib.hid hw
  have NB := Lib.hid (fun W => frame_Num b W)
  have NQ := Lib.hid (fun W => frame_NumQ b W)
  clear hw
  by_cases c0 : numF b.data.toList = 0
  · rw [c0] at NB
    clear h
    go_enter Tryz.func148, Tryz.ntmps148
    go_wp2_with fail
    refine (NB.out _).mono ?_; rintro e w1 ⟨rfl, hb1⟩
    have hc := (HW.out.below hb1).v0
    have B1 := Lib.hid hb1
    clear hb1
    go_wp2_with fail
    go_quiet (fail)
    go_wp2_with fail
    go_ret2
    exact ⟨⟨a0, .inl rfl, rfl⟩, bstep B1.out (below_dN _ _)⟩
  have z1 : (numF b.data.toList == 0) = false := by rw [beq_eq_false_iff_ne]; exact c0
  by_cases c1 : numF b.data.toList = n
  · have hsz : b.size = 256 := by
      unfold numF at c0
      split at c0
      · rename_i hh; rw [size_list] at hh; exact hh.1
      · exact absurd rfl c0
    have hp : (b.data.toList.drop 4).take 4 ≠ beBytes i 2 ++ beBytes k 2 := by
      unfold pieceF at h
      rw [c1] at h
      simpa using h
    have z2 : (n != n) = false := by simp
    obtain ⟨U, hU⟩ : ∃ U, U = ofL (beBytes (i : Int) 2) := ⟨_, rfl⟩
    obtain ⟨V, hV⟩ : ∃ V, V = ofL (beBytes (k : Int) 2) := ⟨_, rfl⟩
    have M1 := Lib.hid (fun W h => frame_num2 (i : Int) (by omega) (by omega) W h)
    have M2 := Lib.hid (fun W h => frame_num2 (k : Int) (by omega) (by omega) W h)
    rw [← hU] at M1
    rw [← hV] at M2
    have s1 : ¬ 9223372036854775807 < U.size + V.size := by rw [hU, hV, ofL_size, ofL_size, beBytes_length, beBytes_length]; omega
    have hq : ((b.extract 4 8).toList == (U ++ V).toList) = false := by
      rw [Lib.toList_data, Lib.toList_data, extract_list, list_append, hU, hV, ofL_list, ofL_list, beq_eq_false_iff_ne]; exact hp
    rw [c1] at NB NQ z1
    have l1 : (4 : Int) ≤ (b.size : Int) := by omega
    have l2 : (8 : Int) ≤ (b.size : Int) := by omega
    have w1 : IntKind.u64.wrap (i : Int) = (i : Int) := by rw [IntKind.wrap_u64, Int.emod_eq_of_lt (by omega) (by omega)]
    have w2 : IntKind.u64.wrap (k : Int) = (k : Int) := by rw [IntKind.wrap_u64, Int.emod_eq_of_lt (by omega) (by omega)]
    have w3 : (i : Int) % 18446744073709551616 = (i : Int) := Int.emod_eq_of_lt (by omega) (by omega)
    have w4 : (k : Int) % 18446744073709551616 = (k : Int) := Int.emod_eq_of_lt (by omega) (by omega)
    clear hU hV hp hsz h c0 c1
    go_enter Tryz.func148, Tryz.ntmps148
    go_wp2_with fail
    refine (NB.out _).mono ?_; rintro e y1 ⟨rfl, hb1⟩
    have B1 := Lib.hid hb1
    clear hb1
    go_wp2_with fail
    have D0 : Hid (Below y1.heap.size y1 y1.drew) := ⟨rfl, rfl, rfl, Nat.le_refl _, fun _ _ => rfl⟩
    go_region_held3 (fun _ => True) (trivial)
      (first
        | (go_at_call 118; refine (NB.out _).mono ?_; rintro e y ⟨rfl, hy⟩; have D0 := Lib.hid (bstep D0.out hy); clear hy)
        | (go_at_call_of 120 (Value.int IntKind.u64 i); refine (M1.out _ (HW.out.below (bstep B1.out D0.out)).et).mono ?_; rintro e y ⟨rfl, hy⟩; have D0 := Lib.hid (bstep D0.out hy); clear hy)
        | (go_at_call_of 120 (Value.int IntKind.u64 k); refine (M2.out _ (HW.out.below (bstep B1.out D0.out)).et).mono ?_; rintro e y ⟨rfl, hy⟩; have D0 := Lib.hid (bstep D0.out hy); clear hy))
    all_goals
      have hc := (HW.out.below (bstep B1.out D0.out)).v1
      go_wp2_with fail
      go_quiet (fail)
      go_wp2_with fail
      go_ret2
      exact ⟨⟨a1, .inr rfl, rfl⟩, bstep (bstep B1.out D0.out) (below_dN _ _)⟩
  · have z2 : (numF b.data.toList != n) = true := by rw [bne_iff_ne]; exact c1
    clear h c0
    obtain ⟨m, hm⟩ : ∃ m, m = numF b.data.toList := ⟨_, rfl⟩
    rw [← hm] at NB NQ z1 z2
    clear hm c1
    go_enter Tryz.func148, Tryz.ntmps148
    go_wp2_with fail
    refine (NB.out _).mono ?_; rintro e y1 ⟨rfl, hb1⟩
    have hc := (HW.out.below hb1).v1
    have B1 := Lib.hid hb1
    clear hb1
    go_wp2_with fail
    go_quiet ((go_at_call 118; exact Calls.quiet_of (NQ.out _)))
    go_wp2_with fail
    go_quiet (fail)
    go_wp2_with fail
    go_ret2
    exact ⟨⟨a1, .inr rfl, rfl⟩, bstep B1.out (by simp only [World.drewN_drewN]; exact below_dN _ _)⟩
set_option maxRecDepth 100000 in
set_option maxHeartbeats 2000000 in
theorem frame_piece_ok (b : ByteArray) (n : Int) (i k : Nat) (hn : n ≠ 0) (hi : i < 65536) (hk : k < 65536) (a0 a1 a2 : Addr) (w : World) (hw : FrW w a0 a1 a2) (h : pieceF n k b.data.toList i = true) :
    Calls Tryz.prog 148 #[.string b, .int .u32 n, .int .i64 i, .int .i64 k] w fun e w' => e = .returned (.tuple #[.string (b.extract 8 252), .nilIface]) ∧ Below w.heap.size w w' := by
  have z0 : ((n : Int) == 0) = false := by rw [beq_eq_false_iff_ne]; exact hn
  have HW := Lib.hid hw
  have NB := Lib.hid (fun W => frame_Num b W)
  clear hw
  unfold pieceF at h
  simp only [Bool.and_eq_true, decide_eq_true_eq] at h
  obtain ⟨c1, hp⟩ := h
  have hsz : b.size = 256 := by
    unfold numF at c1
    split at c1
    · rename_i hh; rw [size_list] at hh; exact hh.1
    · exact absurd c1.symm hn
  rw [c1] at NB
  have z2 : (n != n) = false := by simp
  obtain ⟨U, hU⟩ : ∃ U, U = ofL (beBytes (i : Int) 2) := ⟨_, rfl⟩
  obtain ⟨V, hV⟩ : ∃ V, V = ofL (beBytes (k : Int) 2) := ⟨_, rfl⟩
  have M1 := Lib.hid (fun W h => frame_num2 (i : Int) (by omega) (by omega) W h)
  have M2 := Lib.hid (fun W h => frame_num2 (k : Int) (by omega) (by omega) W h)
  rw [← hU] at M1
  rw [← hV] at M2
  have s1 : ¬ 9223372036854775807 < U.size + V.size := by rw [hU, hV, ofL_size, ofL_size, beBytes_length, beBytes_length]; omega
  have hq : ((b.extract 4 8).toList == (U ++ V).toList) = true := by
    rw [Lib.toList_data, Lib.toList_data, extract_list, list_append, hU, hV, ofL_list, ofL_list, beq_iff_eq]; exact hp
  have l1 : (4 : Int) ≤ (b.size : Int) := by omega
  have l2 : (8 : Int) ≤ (b.size : Int) := by omega
  have l3 : (252 : Int) ≤ (b.size : Int) := by omega
  have w1 : IntKind.u64.wrap (i : Int) = (i : Int) := by rw [IntKind.wrap_u64, Int.emod_eq_of_lt (by omega) (by omega)]
  have w2 : IntKind.u64.wrap (k : Int) = (k : Int) := by rw [IntKind.wrap_u64, Int.emod_eq_of_lt (by omega) (by omega)]
  have w3 : (i : Int) % 18446744073709551616 = (i : Int) := Int.emod_eq_of_lt (by omega) (by omega)
  have w4 : (k : Int) % 18446744073709551616 = (k : Int) := Int.emod_eq_of_lt (by omega) (by omega)
  clear hU hV hp hsz c1
  go_enter Tryz.func148, Tryz.ntmps148
  go_wp2_with fail
  refine (NB.out _).mono ?_; rintro e y1 ⟨rfl, hb1⟩
  have B1 := Lib.hid hb1
  clear hb1
  go_wp2_with fail
  have D0 : Hid (Below y1.heap.size y1 y1.drew) := ⟨rfl, rfl, rfl, Nat.le_refl _, fun _ _ => rfl⟩
  go_region_held3 (fun _ => True) (trivial)
    (first
      | (go_at_call 118; refine (NB.out _).mono ?_; rintro e y ⟨rfl, hy⟩; have D0 := Lib.hid (bstep D0.out hy); clear hy)
      | (go_at_call_of 120 (Value.int IntKind.u64 i); refine (M1.out _ (HW.out.below (bstep B1.out D0.out)).et).mono ?_; rintro e y ⟨rfl, hy⟩; have D0 := Lib.hid (bstep D0.out hy); clear hy)
      | (go_at_call_of 120 (Value.int IntKind.u64 k); refine (M2.out _ (HW.out.below (bstep B1.out D0.out)).et).mono ?_; rintro e y ⟨rfl, hy⟩; have D0 := Lib.hid (bstep D0.out hy); clear hy))
  all_goals
    go_wp2_with fail
    go_ret2
    exact ⟨rfl, bstep B1.out D0.out⟩
end Go.Proofs.YtdbiebnnogjccaaGreatDoor
