/- errors.Is, walked at the program's own sentinels. After the kit's worked text Sentry. -/
import Derived.Test.YtbopppnlgicpeaaDoorFr
import Derived.WalkKit
import Derived.LaidEql
import Derived.Stop.Asserts
import Derived.RowKitTokens
import Derived.Test.YtbopppnlgicpeaaDoorProg
namespace Go.Proofs.YtbopppnlgicpeaaDoor
open Go.RowKit Go.Extern.Stop Go.Stop Go.Extern
theorem es_typeOf (v : Value) (w : World) : (Extern.ReflectliteType.typeOf #[.iface 225 v]).run Tryd.prog w = .ok (.iface 155 (.agg #[.pointer (some ⟨10, 225, none⟩)])) w := by kernel_rfl
def es_cmp : Array Value → Sem Value := Extern.ReflectliteType.method fun t => do Extern.Rtype.noPackHeld "Comparable" t; pure (.bool (← typeInfo t).comparable)
theorem es_comparable (w : World) : (es_cmp #[.agg #[.pointer (some ⟨10, 225, none⟩)]]).run Tryd.prog w = .ok (.bool true) w := by kernel_rfl
theorem es_method (v : Value) (w : World) : (Go.method 354 155 v "Comparable").run Tryd.prog w = .ok (174, v) w := by kernel_rfl
theorem es_comp : (Tryd.prog.info? 225).map (·.comparable) = some true := by kernel_rfl
theorem es_size : (Tryd.prog.info? 243).map (·.size) = some 1 := by kernel_rfl
theorem es_noIs (v : Value) (xT : TypeId) (w : World) : (Instr.typeAssert (.iface 225 v) xT 157 true).run Tryd.prog w = .ok (.tuple #[.nilIface, .bool false]) w := run_typeAssert_lacksB Tryd.underlying157 (by kernel_rfl) (by kernel_rfl) v xT w
theorem es_noUnwrap (v : Value) (xT : TypeId) (w : World) : (Instr.typeAssert (.iface 225 v) xT 160 true).run Tryd.prog w = .ok (.tuple #[.nilIface, .bool false]) w := run_typeAssert_lacksB Tryd.underlying160 (by kernel_rfl) (by kernel_rfl) v xT w
theorem es_noUnwraps (v : Value) (xT : TypeId) (w : World) : (Instr.typeAssert (.iface 225 v) xT 162 true).run Tryd.prog w = .ok (.tuple #[.nilIface, .bool false]) w := run_typeAssert_lacksB Tryd.underlying162 (by kernel_rfl) (by kernel_rfl) v xT w
theorem dw_noIs (v : Value) (xT : TypeId) (w : World) : (Instr.typeAssert (.iface 91 v) xT 157 true).run Tryd.prog w = .ok (.tuple #[.nilIface, .bool false]) w := run_typeAssert_lacksB Tryd.underlying157 (by kernel_rfl) (by kernel_rfl) v xT w
theorem dw_hasUnwrap (v : Value) (xT : TypeId) (w : World) : (Instr.typeAssert (.iface 91 v) xT 160 true).run Tryd.prog w = .ok (.tuple #[.iface 91 v, .bool true]) w := run_typeAssert_hasB Tryd.underlying160 (by kernel_rfl) v xT w
theorem dw_method (v : Value) (w : World) : (Go.method 354 91 v "Unwrap").run Tryd.prog w = .ok (170, v) w := by kernel_rfl
/-- errors.Is(x, nil's place): nil is none of them. -/
theorem is_nil (b : Addr) (w : World) : Calls Tryd.prog 72 #[.nilIface, .iface 225 (.pointer (some b))] w fun e w' => e = .returned (.bool false) ∧ w = w' := by
  have hn := run_eql_iface_nil_left (P := Tryd.prog) w 225 (.pointer (some b)) Tryd.underlying89
  go_enter Tryd.func72, Tryd.ntmps72
  go_wp2
  go_ret
  exact ⟨rfl, rfl⟩
/-- errors.Is(x, x). -/
theorem is_same (b : Addr) (w : World) : Calls Tryd.prog 72 #[.iface 225 (.pointer (some b)), .iface 225 (.pointer (some b))] w fun e w' => e = .returned (.bool true) ∧ w = w' := by
  obtain ⟨i, hi, hcmp⟩ := Option.map_eq_some_iff.1 es_comp
  obtain ⟨j, hj, hjs⟩ := Option.map_eq_some_iff.1 es_size
  have h8 := @run_callFunc_extern Tryd.prog 88 _ Extern.ReflectliteType.typeOf Tryd.func88 (by kernel_rfl) (by kernel_rfl) (by kernel_rfl) (by kernel_rfl)
  have h32 := @run_callFunc_extern Tryd.prog 174 _ es_cmp Tryd.func174 (by kernel_rfl) (by kernel_rfl) (by kernel_rfl) (by kernel_rfl)
  have tT := es_typeOf
  have cT := es_comparable
  have mR := es_method
  have heq := run_eql_iface_ptr_same (P := Tryd.prog) w b Tryd.underlying89 Tryd.underlying225 hi hcmp hj
  go_enter Tryd.func72, Tryd.ntmps72
  go_wp2
  refine wp_loop_rounds 1 ?_
  rw [rounds_succ]
  go_wp2
  go_ret
  exact ⟨rfl, rfl⟩
/-- errors.Is(x, y), two of errors.New's make. -/
theorem is_other (a b : Addr) (ca cb : Array Value) (ta tb : TypeId) (w : World) (hne : a ≠ b) (ha : w.heap[a.block]? = some (.cells ca ta (0, 0))) (hb : w.heap[b.block]? = some (.cells cb tb (0, 0))) : Calls Tryd.prog 72 #[.iface 225 (.pointer (some a)), .iface 225 (.pointer (some b))] w fun e w' => e = .returned (.bool false) ∧ w = w' := by
  obtain ⟨i, hi, hcmp⟩ := Option.map_eq_some_iff.1 es_comp
  obtain ⟨j, hj, hjs⟩ := Option.map_eq_some_iff.1 es_size
  have h8 := @run_callFunc_extern Tryd.prog 88 _ Extern.ReflectliteType.typeOf Tryd.func88 (by kernel_rfl) (by kernel_rfl) (by kernel_rfl) (by kernel_rfl)
  have h32 := @run_callFunc_extern Tryd.prog 174 _ es_cmp Tryd.func174 (by kernel_rfl) (by kernel_rfl) (by kernel_rfl) (by kernel_rfl)
  have tT := es_typeOf
  have cT := es_comparable
  have mR := es_method
  have nE := es_noIs
  have uE := es_noUnwrap
  have vE := es_noUnwraps
  have heq := run_eql_iface_ptr_other (P := Tryd.prog) w Tryd.underlying89 Tryd.underlying225 hi hcmp hj (by rw [hjs]; decide) hne ha hb
  go_enter Tryd.func72, Tryd.ntmps72
  go_wp2
  refine wp_loop_rounds 1 ?_
  rw [rounds_succ]
  go_wp2
  go_ret
  exact ⟨rfl, rfl⟩
/-- errors.Is(e, x), e a *disk.wrapped that holds x. -/
theorem is_wrap_same (p : Nat) (b : Addr) (w : World) (h1 : w.cell? ⟨p, 1, none⟩ = some (.iface 225 (.pointer (some b)))) : Calls Tryd.prog 72 #[.iface 91 (.pointer (some ⟨p, 0, none⟩)), .iface 225 (.pointer (some b))] w fun e w' => e = .returned (.bool true) ∧ w = w' := by
  obtain ⟨i, hi, hcmp⟩ := Option.map_eq_some_iff.1 es_comp
  obtain ⟨j, hj, hjs⟩ := Option.map_eq_some_iff.1 es_size
  have h8 := @run_callFunc_extern Tryd.prog 88 _ Extern.ReflectliteType.typeOf Tryd.func88 (by kernel_rfl) (by kernel_rfl) (by kernel_rfl) (by kernel_rfl)
  have h32 := @run_callFunc_extern Tryd.prog 174 _ es_cmp Tryd.func174 (by kernel_rfl) (by kernel_rfl) (by kernel_rfl) (by kernel_rfl)
  have tT := es_typeOf
  have cT := es_comparable
  have mR := es_method
  have nE := es_noIs
  have uE := es_noUnwrap
  have vE := es_noUnwraps
  have nW := dw_noIs
  have uW := dw_hasUnwrap
  have mU := dw_method
  have heq := run_eql_iface_ptr_same (P := Tryd.prog) w b Tryd.underlying89 Tryd.underlying225 hi hcmp hj
  have hty := run_eql_iface_types (P := Tryd.prog) 91 225 (.pointer (some ⟨p, 0, none⟩)) (.pointer (some b)) Tryd.underlying89 (by decide) w
  go_enter Tryd.func72, Tryd.ntmps72
  go_wp2
  refine wp_loop_rounds 2 ?_
  rw [rounds_succ]
  go_wp2
  rw [rounds_succ]
  go_wp2
  go_ret
  exact ⟨rfl, rfl⟩
/-- errors.Is(e, x), e a *disk.wrapped that holds another. -/
theorem is_wrap_other (p : Nat) (a b : Addr) (ca cb : Array Value) (ta tb : TypeId) (w : World) (hne : a ≠ b) (ha : w.heap[a.block]? = some (.cells ca ta (0, 0))) (hb : w.heap[b.block]? = some (.cells cb tb (0, 0))) (h1 : w.cell? ⟨p, 1, none⟩ = some (.iface 225 (.pointer (some a)))) : Calls Tryd.prog 72 #[.iface 91 (.pointer (some ⟨p, 0, none⟩)), .iface 225 (.pointer (some b))] w fun e w' => e = .returned (.bool false) ∧ w = w' := by
  obtain ⟨i, hi, hcmp⟩ := Option.map_eq_some_iff.1 es_comp
  obtain ⟨j, hj, hjs⟩ := Option.map_eq_some_iff.1 es_size
  have h8 := @run_callFunc_extern Tryd.prog 88 _ Extern.ReflectliteType.typeOf Tryd.func88 (by kernel_rfl) (by kernel_rfl) (by kernel_rfl) (by kernel_rfl)
  have h32 := @run_callFunc_extern Tryd.prog 174 _ es_cmp Tryd.func174 (by kernel_rfl) (by kernel_rfl) (by kernel_rfl) (by kernel_rfl)
  have tT := es_typeOf
  have cT := es_comparable
  have mR := es_method
  have nE := es_noIs
  have uE := es_noUnwrap
  have vE := es_noUnwraps
  have nW := dw_noIs
  have uW := dw_hasUnwrap
  have mU := dw_method
  have heq := run_eql_iface_ptr_other (P := Tryd.prog) w Tryd.underlying89 Tryd.underlying225 hi hcmp hj (by rw [hjs]; decide) hne ha hb
  have hty := run_eql_iface_types (P := Tryd.prog) 91 225 (.pointer (some ⟨p, 0, none⟩)) (.pointer (some b)) Tryd.underlying89 (by decide) w
  go_enter Tryd.func72, Tryd.ntmps72
  go_wp2
  refine wp_loop_rounds 2 ?_
  rw [rounds_succ]
  go_wp2
  rw [rounds_succ]
  go_wp2
  go_ret
  exact ⟨rfl, rfl⟩
end Go.Proofs.YtbopppnlgicpeaaDoor
