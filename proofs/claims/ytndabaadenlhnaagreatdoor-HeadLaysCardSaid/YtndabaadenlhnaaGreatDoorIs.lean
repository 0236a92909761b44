/- errors.Is, walked at the program's own sentinels. After the kit's worked text Sentry. -/
import Derived.Test.YtndabaadenlhnaaGreatDoorFr
import Derived.WalkKit
import Derived.LaidEql
import Derived.Stop.Asserts
import Derived.RowKitTokens
import Derived.Test.YtndabaadenlhnaaGreatDoorProg
namespace Go.Proofs.YtndabaadenlhnaaGreatDoor
open Go.RowKit Go.Extern.Stop Go.Stop Go.Extern
theorem es_typeOf (v : Value) (w : World) : (Extern.ReflectliteType.typeOf #[.iface 255 v]).run Tryz.prog w = .ok (.iface 201 (.agg #[.pointer (some ⟨10, 255, none⟩)])) w := by kernel_rfl
def es_cmp : Array Value → Sem Value := Extern.ReflectliteType.method fun t => do Extern.Rtype.noPackHeld "Comparable" t; pure (.bool (← typeInfo t).comparable)
theorem es_comparable (w : World) : (es_cmp #[.agg #[.pointer (some ⟨10, 255, none⟩)]]).run Tryz.prog w = .ok (.bool true) w := by kernel_rfl
theorem es_method (v : Value) (w : World) : (Go.method 384 201 v "Comparable").run Tryz.prog w = .ok (195, v) w := by kernel_rfl
theorem es_comp : (Tryz.prog.info? 255).map (·.comparable) = some true := by kernel_rfl
theorem es_size : (Tryz.prog.info? 273).map (·.size) = some 1 := by kernel_rfl
theorem es_noIs (v : Value) (xT : TypeId) (w : World) : (Instr.typeAssert (.iface 255 v) xT 203 true).run Tryz.prog w = .ok (.tuple #[.nilIface, .bool false]) w := run_typeAssert_lacksB Tryz.underlying203 (by kernel_rfl) (by kernel_rfl) v xT w
theorem es_noUnwrap (v : Value) (xT : TypeId) (w : World) : (Instr.typeAssert (.iface 255 v) xT 206 true).run Tryz.prog w = .ok (.tuple #[.nilIface, .bool false]) w := run_typeAssert_lacksB Tryz.underlying206 (by kernel_rfl) (by kernel_rfl) v xT w
theorem es_noUnwraps (v : Value) (xT : TypeId) (w : World) : (Instr.typeAssert (.iface 255 v) xT 208 true).run Tryz.prog w = .ok (.tuple #[.nilIface, .bool false]) w := run_typeAssert_lacksB Tryz.underlying208 (by kernel_rfl) (by kernel_rfl) v xT w
theorem dw_noIs (v : Value) (xT : TypeId) (w : World) : (Instr.typeAssert (.iface 116 v) xT 203 true).run Tryz.prog w = .ok (.tuple #[.nilIface, .bool false]) w := run_typeAssert_lacksB Tryz.underlying203 (by kernel_rfl) (by kernel_rfl) v xT w
theorem dw_hasUnwrap (v : Value) (xT : TypeId) (w : World) : (Instr.typeAssert (.iface 116 v) xT 206 true).run Tryz.prog w = .ok (.tuple #[.iface 116 v, .bool true]) w := run_typeAssert_hasB Tryz.underlying206 (by kernel_rfl) v xT w
theorem dw_method (v : Value) (w : World) : (Go.method 384 116 v "Unwrap").run Tryz.prog w = .ok (187, v) w := by kernel_rfl
/-- errors.Is(x, nil's place): nil is none of them. -/
theorem is_nil (b : Addr) (w : World) : Calls Tryz.prog 71 #[.nilIface, .iface 255 (.pointer (some b))] w fun e w' => e = .returned (.bool false) ∧ w = w' := by
  have hn := run_eql_iface_nil_left (P := Tryz.prog) w 255 (.pointer (some b)) Tryz.underlying101
  go_enter Tryz.func71, Tryz.ntmps71
  go_wp2
  go_ret
  exact ⟨rfl, rfl⟩
/-- errors.Is(x, x). -/
theorem is_same (b : Addr) (w : World) : Calls Tryz.prog 71 #[.iface 255 (.pointer (some b)), .iface 255 (.pointer (some b))] w fun e w' => e = .returned (.bool true) ∧ w = w' := by
  obtain ⟨i, hi, hcmp⟩ := Option.map_eq_some_iff.1 es_comp
  obtain ⟨j, hj, hjs⟩ := Option.map_eq_some_iff.1 es_size
  have h8 := @run_callFunc_extern Tryz.prog 98 _ Extern.ReflectliteType.typeOf Tryz.func98 (by kernel_rfl) (by kernel_rfl) (by kernel_rfl) (by kernel_rfl)
  have h32 := @run_callFunc_extern Tryz.prog 195 _ es_cmp Tryz.func195 (by kernel_rfl) (by kernel_rfl) (by kernel_rfl) (by kernel_rfl)
  have tT := es_typeOf
  have cT := es_comparable
  have mR := es_method
  have heq := run_eql_iface_ptr_same (P := Tryz.prog) w b Tryz.underlying101 Tryz.underlying255 hi hcmp hj
  go_enter Tryz.func71, Tryz.ntmps71
  go_wp2
  refine wp_loop_rounds 1 ?_
  rw [rounds_succ]
  go_wp2
  go_ret
  exact ⟨rfl, rfl⟩
/-- errors.Is(x, y), two of errors.New's make. -/
theorem is_other (a b : Addr) (ca cb : Array Value) (ta tb : TypeId) (w : World) (hne : a ≠ b) (ha : w.heap[a.block]? = some (.cells ca ta (0, 0))) (hb : w.heap[b.block]? = some (.cells cb tb (0, 0))) : Calls Tryz.prog 71 #[.iface 255 (.pointer (some a)), .iface 255 (.pointer (some b))] w fun e w' => e = .returned (.bool false) ∧ w = w' := by
  obtain ⟨i, hi, hcmp⟩ := Option.map_eq_some_iff.1 es_comp
  obtain ⟨j, hj, hjs⟩ := Option.map_eq_some_iff.1 es_size
  have h8 := @run_callFunc_extern Tryz.prog 98 _ Extern.ReflectliteType.typeOf Tryz.func98 (by kernel_rfl) (by kernel_rfl) (by kernel_rfl) (by kernel_rfl)
  have h32 := @run_callFunc_extern Tryz.prog 195 _ es_cmp Tryz.func195 (by kernel_rfl) (by kernel_rfl) (by kernel_rfl) (by kernel_rfl)
  have tT := es_typeOf
  have cT := es_comparable
  have mR := es_method
  have nE := es_noIs
  have uE := es_noUnwrap
  have vE := es_noUnwraps
  have heq := run_eql_iface_ptr_other (P := Tryz.prog) w Tryz.underlying101 Tryz.underlying255 hi hcmp hj (by rw [hjs]; decide) hne ha hb
  go_enter Tryz.func71, Tryz.ntmps71
  go_wp2
  refine wp_loop_rounds 1 ?_
  rw [rounds_succ]
  go_wp2
  go_ret
  exact ⟨rfl, rfl⟩
/-- errors.Is(e, x), e a *disk.wrapped that holds x. -/
theorem is_wrap_same (p : Nat) (b : Addr) (w : World) (h1 : w.cell? ⟨p, 1, none⟩ = some (.iface 255 (.pointer (some b)))) : Calls Tryz.prog 71 #[.iface 116 (.pointer (some ⟨p, 0, none⟩)), .iface 255 (.pointer (some b))] w fun e w' => e = .returned (.bool true) ∧ w = w' := by
  obtain ⟨i, hi, hcmp⟩ := Option.map_eq_some_iff.1 es_comp
  obtain ⟨j, hj, hjs⟩ := Option.map_eq_some_iff.1 es_size
  have h8 := @run_callFunc_extern Tryz.prog 98 _ Extern.ReflectliteType.typeOf Tryz.func98 (by kernel_rfl) (by kernel_rfl) (by kernel_rfl) (by kernel_rfl)
  have h32 := @run_callFunc_extern Tryz.prog 195 _ es_cmp Tryz.func195 (by kernel_rfl) (by kernel_rfl) (by kernel_rfl) (by kernel_rfl)
  have tT := es_typeOf
  have cT := es_comparable
  have mR := es_method
  have nE := es_noIs
  have uE := es_noUnwrap
  have vE := es_noUnwraps
  have nW := dw_noIs
  have uW := dw_hasUnwrap
  have mU := dw_method
  have heq := run_eql_iface_ptr_same (P := Tryz.prog) w b Tryz.underlying101 Tryz.underlying255 hi hcmp hj
  have hty := run_eql_iface_types (P := Tryz.prog) 116 255 (.pointer (some ⟨p, 0, none⟩)) (.pointer (some b)) Tryz.underlying101 (by decide) w
  go_enter Tryz.func71, Tryz.ntmps71
  go_wp2
  refine wp_loop_rounds 2 ?_
  rw [rounds_succ]
  go_wp2
  rw [rounds_succ]
  go_wp2
  go_ret
  exact ⟨rfl, rfl⟩
/-- errors.Is(e, x), e a *disk.wrapped that holds another. -/
theorem is_wrap_other (p : Nat) (a b : Addr) (ca cb : Array Value) (ta tb : TypeId) (w : World) (hne : a ≠ b) (ha : w.heap[a.block]? = some (.cells ca ta (0, 0))) (hb : w.heap[b.block]? = some (.cells cb tb (0, 0))) (h1 : w.cell? ⟨p, 1, none⟩ = some (.iface 255 (.pointer (some a)))) : Calls Tryz.prog 71 #[.iface 116 (.pointer (some ⟨p, 0, none⟩)), .iface 255 (.pointer (some b))] w fun e w' => e = .returned (.bool false) ∧ w = w' := by
  obtain ⟨i, hi, hcmp⟩ := Option.map_eq_some_iff.1 es_comp
  obtain ⟨j, hj, hjs⟩ := Option.map_eq_some_iff.1 es_size
  have h8 := @run_callFunc_extern Tryz.prog 98 _ Extern.ReflectliteType.typeOf Tryz.func98 (by kernel_rfl) (by kernel_rfl) (by kernel_rfl) (by kernel_rfl)
  have h32 := @run_callFunc_extern Tryz.prog 195 _ es_cmp Tryz.func195 (by kernel_rfl) (by kernel_rfl) (by kernel_rfl) (by kernel_rfl)
  have tT := es_typeOf
  have cT := es_comparable
  have mR := es_method
  have nE := es_noIs
  have uE := es_noUnwrap
  have vE := es_noUnwraps
  have nW := dw_noIs
  have uW := dw_hasUnwrap
  have mU := dw_method
  have heq := run_eql_iface_ptr_other (P := Tryz.prog) w Tryz.underlying101 Tryz.underlying255 hi hcmp hj (by rw [hjs]; decide) hne ha hb
  have hty := run_eql_iface_types (P := Tryz.prog) 116 255 (.pointer (some ⟨p, 0, none⟩)) (.pointer (some b)) Tryz.underlying101 (by decide) w
  go_enter Tryz.func71, Tryz.ntmps71
  go_wp2
  refine wp_loop_rounds 2 ?_
  rw [rounds_succ]
  go_wp2
  rw [rounds_succ]
  go_wp2
  go_ret
  exact ⟨rfl, rfl⟩
end Go.Proofs.YtndabaadenlhnaaGreatDoor
