/- Pages (layer 22): errors.Is and errors.As at the pager's own error. -/
import Derived.Test.YtdbiebnnogjccaaGreatDoorIs
import Derived.Test.YtdbiebnnogjccaaGreatDoorAs
namespace Go.Proofs.YtdbiebnnogjccaaGreatDoor
open Go.RowKit Go.Extern.Stop Go.Stop Go.Extern
theorem gw_noIs (v : Value) (xT : TypeId) (w : World) : (Instr.typeAssert (.iface 197 v) xT 240 true).run Tryz.prog w = .ok (.tuple #[.nilIface, .bool false]) w := run_typeAssert_lacksB Tryz.underlying240 (by kernel_rfl) (by kernel_rfl) v xT w
theorem gw_hasUnwrap (v : Value) (xT : TypeId) (w : World) : (Instr.typeAssert (.iface 197 v) xT 243 true).run Tryz.prog w = .ok (.tuple #[.iface 197 v, .bool true]) w := run_typeAssert_hasB Tryz.underlying243 (by kernel_rfl) v xT w
theorem gw_method (v : Value) (w : World) : (Go.method 437 197 v "Unwrap").run Tryz.prog w = .ok (243, v) w := by kernel_rfl
/-- errors.Is(e, x), e a *pager.wrapped that holds x. -/
theorem is_gwrap_same (p : Nat) (b : Addr) (w : World) (h1 : w.cell? ⟨p, 1, none⟩ = some (.iface 308 (.pointer (some b)))) : Calls Tryz.prog 113 #[.iface 197 (.pointer (some ⟨p, 0, none⟩)), .iface 308 (.pointer (some b))] w fun e w' => e = .returned (.bool true) ∧ w = w' := by
  obtain ⟨i, hi, hcmp⟩ := Option.map_eq_some_iff.1 es_comp
  obtain ⟨j, hj, hjs⟩ := Option.map_eq_some_iff.1 es_size
  have h8 := @run_callFunc_extern Tryz.prog 141 _ Extern.ReflectliteType.typeOf Tryz.func141 (by kernel_rfl) (by kernel_rfl) (by kernel_rfl) (by kernel_rfl)
  have h32 := @run_callFunc_extern Tryz.prog 249 _ es_cmp Tryz.func249 (by kernel_rfl) (by kernel_rfl) (by kernel_rfl) (by kernel_rfl)
  have tT := es_typeOf
  have cT := es_comparable
  have mR := es_method
  have nE := es_noIs
  have uE := es_noUnwrap
  have vE := es_noUnwraps
  have nW := gw_noIs
  have uW := gw_hasUnwrap
  have mU := gw_method
  have heq := run_eql_iface_ptr_same (P := Tryz.prog) w b Tryz.underlying122 Tryz.underlying308 hi hcmp hj
  have hty := run_eql_iface_types (P := Tryz.prog) 197 308 (.pointer (some ⟨p, 0, none⟩)) (.pointer (some b)) Tryz.underlying122 (by decide) w
  go_enter Tryz.func113, Tryz.ntmps113
  go_wp2
  refine wp_loop_rounds 2 ?_
  rw [rounds_succ]
  go_wp2
  rw [rounds_succ]
  go_wp2
  go_ret
  exact ⟨rfl, rfl⟩
/-! ### errors.As at **pager.wrapped -/
theorem gw_valueOf (t : Addr) (w : World) : (ReflectliteValue.unpack (.iface 199 (.pointer (some t)))).run Tryz.prog w
    = .ok (.agg #[.pointer (some ⟨18, 199, none⟩), .pointer (some ⟨w.heap.size, 0, none⟩), .int .u64 150]) (w.alloc (.cells #[.pointer (some t)] 199)) := by kernel_rfl
theorem gw_type (a : Addr) (w : World) : (ReflectliteValue.methodAny (ReflectliteValue.valueError "reflectlite.Value.Type" 0) (fun t _ _ _ => ReflectliteType.toType t) #[.agg #[.pointer (some ⟨18, 199, none⟩), .pointer (some a), .int .u64 150]]).run Tryz.prog w
    = .ok (.iface 238 (.agg #[.pointer (some ⟨18, 199, none⟩)])) w := by kernel_rfl
theorem gw_kindPP (w : World) : ((ReflectliteType.abiMethod fun t => (fun a : Nat => Value.int IntKind.u8 (a : Int)) <$> Rtype.kind t) #[.pointer (some ⟨18, 199, none⟩)]).run Tryz.prog w = .ok (.int .u8 22) w := by kernel_rfl
theorem gw_kindPE (w : World) : ((ReflectliteType.abiMethod fun t => (fun a : Nat => Value.int IntKind.u8 (a : Int)) <$> Rtype.kind t) #[.pointer (some ⟨18, 197, none⟩)]).run Tryz.prog w = .ok (.int .u8 22) w := by kernel_rfl
theorem gw_partsPP (a : Addr) (w : World) : (ReflectliteValue.parts (.agg #[.pointer (some ⟨18, 199, none⟩), .pointer (some a), .int .u64 150])).run Tryz.prog w = .ok (some (199, a, 150)) w := by kernel_rfl
theorem gw_isNil (a p : Addr) (W : World) (ha : W.cell? a = some (.pointer (some p))) :
    (ReflectliteValue.method (ReflectliteValue.valueError "reflectlite.Value.IsNil" 0) ReflectliteValue.isNil #[.agg #[.pointer (some ⟨18, 199, none⟩), .pointer (some a), .int .u64 150]]).run Tryz.prog W = .ok (.bool false) W := by
  rw [rlm]
  simp only [Sem.run_bind, gw_partsPP, Result.andThen]
  simp [ReflectliteValue.isNil, loadVar, isAgg, underlying, Tryz.underlying199, ha, Result.andThen]
theorem gw_elem (w : World) : (ReflectliteType.method ReflectliteType.elem #[.agg #[.pointer (some ⟨18, 199, none⟩)]]).run Tryz.prog w = .ok (.iface 238 (.agg #[.pointer (some ⟨18, 197, none⟩)])) w := by kernel_rfl
theorem gw_implements (w : World) : (ReflectliteType.relation "Implements" ReflectliteType.implements_ #[.agg #[.pointer (some ⟨18, 197, none⟩)], .iface 238 (.agg #[.pointer (some ⟨18, 122, none⟩)])]).run Tryz.prog w = .ok (.bool true) w := by kernel_rfl
theorem gw_typeOf (v : Value) (w : World) : (ReflectliteType.typeOf #[.iface 197 v]).run Tryz.prog w = .ok (.iface 238 (.agg #[.pointer (some ⟨18, 197, none⟩)])) w := by kernel_rfl
theorem gw_assignable (w : World) : (ReflectliteType.relation "AssignableTo" ReflectliteType.assignableTo #[.agg #[.pointer (some ⟨18, 197, none⟩)], .iface 238 (.agg #[.pointer (some ⟨18, 197, none⟩)])]).run Tryz.prog w = .ok (.bool true) w := by kernel_rfl
theorem gw_valueOfE (e : Addr) (w : World) : (ReflectliteValue.unpack (.iface 197 (.pointer (some e)))).run Tryz.prog w
    = .ok (.agg #[.pointer (some ⟨18, 197, none⟩), .pointer (some ⟨w.heap.size, 0, none⟩), .int .u64 150]) (w.alloc (.cells #[.pointer (some e)] 197)) := by kernel_rfl
theorem gw_elemOf (w : World) : (Rtype.elem? 199).run Tryz.prog w = .ok (some 197) w := by kernel_rfl
theorem gw_mk (p : Addr) (w : World) : (ReflectliteValue.mk 197 p ReflectliteValue.flagAddr).run Tryz.prog w = .ok (.agg #[.pointer (some ⟨18, 197, none⟩), .pointer (some p), .int .u64 406]) w := by kernel_rfl
theorem gw_elemV (a p : Addr) (W : World) (ha : W.cell? a = some (.pointer (some p))) :
    (ReflectliteValue.method (ReflectliteValue.valueError "reflectlite.Value.Elem" 0) ReflectliteValue.elem #[.agg #[.pointer (some ⟨18, 199, none⟩), .pointer (some a), .int .u64 150]]).run Tryz.prog W
      = .ok (.agg #[.pointer (some ⟨18, 197, none⟩), .pointer (some p), .int .u64 406]) W := by
  rw [rlm]
  simp only [Sem.run_bind, gw_partsPP, Result.andThen]
  simp [ReflectliteValue.elem, loadVar, isAgg, underlying, Tryz.underlying199, ha, Result.andThen, gw_elemOf, gw_mk]
theorem gw_partsEa (a : Addr) (w : World) : (ReflectliteValue.parts (.agg #[.pointer (some ⟨18, 197, none⟩), .pointer (some a), .int .u64 406])).run Tryz.prog w = .ok (some (197, a, 406)) w := by kernel_rfl
theorem gw_partsE (a : Addr) (w : World) : (ReflectliteValue.parts (.agg #[.pointer (some ⟨18, 197, none⟩), .pointer (some a), .int .u64 150])).run Tryz.prog w = .ok (some (197, a, 150)) w := by kernel_rfl
theorem gw_direct (w : World) : (Rtype.directlyAssignable 197 197).run Tryz.prog w = .ok true w := by kernel_rfl
theorem gw_set (ta b e : Addr) (old : Value) (W : World) (hb : W.cell? b = some (.pointer (some e))) (ht : W.cell? ta = some old) (hf : W.frozen? ta = false) :
    (ReflectliteValue.set #[.agg #[.pointer (some ⟨18, 197, none⟩), .pointer (some ta), .int .u64 406], .agg #[.pointer (some ⟨18, 197, none⟩), .pointer (some b), .int .u64 150]]).run Tryz.prog W
      = .ok (.tuple #[]) (W.setCell ta (.pointer (some e))) := by
  rw [rls]
  simp only [Sem.run_bind, gw_partsEa, gw_partsE, Result.andThen]
  simp [ReflectliteValue.flagAddr, loadVar, isAgg, underlying, Tryz.underlying197, hb, Result.andThen, gw_direct, storeVar, Value.cells, storeCells, Addr.add]
  rw [run_store Tryz.prog W ta _ _ (by rfl)]
  simp [ht, hf]

set_option maxHeartbeats 4000000 in
theorem gw_as_hit (e t : Addr) (old : Value) (w : World) (hg : w.cell? ⟨13, 0, none⟩ = some (.iface 238 (.agg #[.pointer (some ⟨18, 122, none⟩)]))) (ht0 : w.cell? t = some old) (hf0 : w.frozen? t = false) :
    Calls Tryz.prog 137 #[.iface 197 (.pointer (some e)), .iface 199 (.pointer (some t))] w fun ev w' => ev = .returned (.bool true) ∧ w' = ((((w.alloc (.cells #[.pointer (some t)] 199)).alloc (.cells #[.pointer (some ⟨18, 199, none⟩), .pointer (some ⟨w.heap.size, 0, none⟩), .int .u64 150] 228)).alloc (.cells #[.pointer (some ⟨18, 199, none⟩), .pointer (some ⟨w.heap.size, 0, none⟩), .int .u64 150] 228)).alloc (.cells #[.pointer (some e)] 197)).setCell t (.pointer (some e)) := by
  have h6 := @run_callFunc_extern Tryz.prog 161 _ (fun args => ReflectliteValue.unpack (args.getD 0 (.tuple #[]))) Tryz.func161 (by kernel_rfl) (by kernel_rfl) (by kernel_rfl) (by kernel_rfl)
  have h7 := @run_callFunc_extern Tryz.prog 162 _ (ReflectliteValue.methodAny (ReflectliteValue.valueError "reflectlite.Value.Type" 0) (fun t _ _ _ => ReflectliteType.toType t)) Tryz.func162 (by kernel_rfl) (by kernel_rfl) (by kernel_rfl) (by kernel_rfl)
  have h8 := @run_callFunc_extern Tryz.prog 163 _ (ReflectliteValue.method (ReflectliteValue.valueError "reflectlite.Value.IsNil" 0) ReflectliteValue.isNil) Tryz.func163 (by kernel_rfl) (by kernel_rfl) (by kernel_rfl) (by kernel_rfl)
  have h27 := @run_callFunc_extern Tryz.prog 235 _ (ReflectliteType.abiMethod fun t => do pure (.int .u8 (← Rtype.kind t))) Tryz.func235 (by kernel_rfl) (by kernel_rfl) (by kernel_rfl) (by kernel_rfl)
  have h37 := @run_callFunc_extern Tryz.prog 250 _ (ReflectliteType.method ReflectliteType.elem) Tryz.func250 (by kernel_rfl) (by kernel_rfl) (by kernel_rfl) (by kernel_rfl)
  have h38 := @run_callFunc_extern Tryz.prog 251 _ (ReflectliteType.relation "Implements" ReflectliteType.implements_) Tryz.func251 (by kernel_rfl) (by kernel_rfl) (by kernel_rfl) (by kernel_rfl)
  have h10 := @run_callFunc_extern Tryz.prog 141 _ ReflectliteType.typeOf Tryz.func141 (by kernel_rfl) (by kernel_rfl) (by kernel_rfl) (by kernel_rfl)
  have h35 := @run_callFunc_extern Tryz.prog 248 _ (ReflectliteType.relation "AssignableTo" ReflectliteType.assignableTo) Tryz.func248 (by kernel_rfl) (by kernel_rfl) (by kernel_rfl) (by kernel_rfl)
  have h11 := @run_callFunc_extern Tryz.prog 178 _ (ReflectliteValue.method (ReflectliteValue.valueError "reflectlite.Value.Elem" 0) ReflectliteValue.elem) Tryz.func178 (by kernel_rfl) (by kernel_rfl) (by kernel_rfl) (by kernel_rfl)
  have h12 := @run_callFunc_extern Tryz.prog 179 _ ReflectliteValue.set Tryz.func179 (by kernel_rfl) (by kernel_rfl) (by kernel_rfl) (by kernel_rfl)
  have tO := gw_typeOf
  have mA := rt_methodAssignableTo
  have aE := gw_assignable
  have vE := gw_valueOfE
  have f6 := gw_valueOf
  have f7 := gw_type
  have mK := rt_methodKind
  have mE := rt_methodElem
  have mI := rt_methodImplements
  have kPP := gw_kindPP
  have kPE := gw_kindPE
  have ePP := gw_elem
  have iPE := gw_implements
  have n8 := gw_isNil ⟨w.heap.size, 0, none⟩ t ((w.alloc (.cells #[.pointer (some t)] 199)).alloc (.cells #[.pointer (some ⟨18, 199, none⟩), .pointer (some ⟨w.heap.size, 0, none⟩), .int .u64 150] 228)) (by simp)
  have hlt : 13 < w.heap.size := by
    rcases Nat.lt_or_ge 13 w.heap.size with h | h
    · exact h
    · simp [World.cell?, Array.getElem?_eq_none h] at hg
  have hg2 : ((w.alloc (.cells #[.pointer (some t)] 199)).alloc (.cells #[.pointer (some ⟨18, 199, none⟩), .pointer (some ⟨w.heap.size, 0, none⟩), .int .u64 150] 228)).cell? ⟨13, 0, none⟩ = some (.iface 238 (.agg #[.pointer (some ⟨18, 122, none⟩)])) := by
    rw [World.cell?_alloc_lt _ _ ⟨13, 0, none⟩ (by simp; omega), World.cell?_alloc_lt _ _ ⟨13, 0, none⟩ hlt]; exact hg
  have htl : t.block < w.heap.size := by
    rcases Nat.lt_or_ge t.block w.heap.size with h | h
    · exact h
    · simp [World.cell?, Array.getElem?_eq_none h] at ht0
  have el := gw_elemV ⟨w.heap.size, 0, none⟩ t (((w.alloc (.cells #[.pointer (some t)] 199)).alloc (.cells #[.pointer (some ⟨18, 199, none⟩), .pointer (some ⟨w.heap.size, 0, none⟩), .int .u64 150] 228)).alloc (.cells #[.pointer (some ⟨18, 199, none⟩), .pointer (some ⟨w.heap.size, 0, none⟩), .int .u64 150] 228)) (by rw [World.cell?_alloc_lt _ _ ⟨w.heap.size, 0, none⟩ (by simp; omega)]; simp)
  have st := gw_set t ⟨w.heap.size + 1 + 1 + 1, 0, none⟩ e old ((((w.alloc (.cells #[.pointer (some t)] 199)).alloc (.cells #[.pointer (some ⟨18, 199, none⟩), .pointer (some ⟨w.heap.size, 0, none⟩), .int .u64 150] 228)).alloc (.cells #[.pointer (some ⟨18, 199, none⟩), .pointer (some ⟨w.heap.size, 0, none⟩), .int .u64 150] 228)).alloc (.cells #[.pointer (some e)] 197))
    (by rw [World.cell?_alloc_at _ _ _ _ (by simp)]; rfl)
    (by rw [World.cell?_alloc_lt _ _ t (by simp; omega), World.cell?_alloc_lt _ _ t (by simp; omega), World.cell?_alloc_lt _ _ t (by simp; omega), World.cell?_alloc_lt _ _ t htl]; exact ht0)
    (by rw [World.frozen?_alloc_old _ _ t (by simp; omega), World.frozen?_alloc_old _ _ t (by simp; omega), World.frozen?_alloc_old _ _ t (by simp; omega), World.frozen?_alloc_old _ _ t (Nat.ne_of_lt htl)]; exact hf0)
  go_enter Tryz.func137, Tryz.ntmps137
  go_wp2
  refine wp_loop_rounds 1 ?_
  rw [rounds_succ]
  go_wp2
  go_ret
  exact ⟨rfl, rfl⟩
end Go.Proofs.YtdbiebnnogjccaaGreatDoor
