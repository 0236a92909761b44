/- errors.As, walked at this program's own error types. After the kit's worked text Toyas. -/
import Derived.Test.YtdbiebnnogjccaaGreatDoorProg
import Derived.WalkKit
import Derived.LaidEql
import Derived.Stop.Asserts
import Derived.RowKitTokens
namespace Go.Proofs.YtdbiebnnogjccaaGreatDoor
open Go.RowKit Go.Extern.Stop Go.Stop Go.Extern

/-- errors.As(nil, target). -/
theorem as_nil (t : Value) (w : World) :
    Calls Tryz.prog 137 #[.nilIface, t] w fun e w' => e = .returned (.bool false) ∧ w = w' := by
  go_enter Tryz.func137, Tryz.ntmps137
  go_wp2
  go_ret
  exact ⟨rfl, rfl⟩

theorem rlm (z : Sem Value) (f : TypeId → Addr → Nat → Nat → Sem Value) (v : Value) :
    ReflectliteValue.method z f #[v] = (do match ← ReflectliteValue.parts v with | none => z | some (t, a, fl) => f t a fl (fl % 32)) := rfl
theorem rls (v x : Value) : ReflectliteValue.set #[v, x] = (do
    let (some (dst, a, fl), some (src, b, _)) := (← ReflectliteValue.parts v, ← ReflectliteValue.parts x)
      | unsupported (.noEntry "extern/(internal/reflectlite.Value).Set.zeroValue")
    if fl / ReflectliteValue.flagAddr % 2 == 0 then unsupported (.noEntry "extern/(internal/reflectlite.Value).Set.unaddressable")
    let val ← loadVar src b
    if ← Rtype.directlyAssignable dst src then storeVar dst a val
    else if ← Rtype.implements dst src then
      if (← Rtype.kind src) == 20 then
        match val with
        | .nilIface => unsupported (.noEntry "extern/reflectlite: a nil value of one interface type handed on as a value of another")
        | _ => storeVar dst a val
      else storeVar dst a (.iface src val)
    else panicString ("reflectlite.Set: value of type " ++ (← Rtype.spelt src) ++ " is not assignable to type " ++ (← Rtype.spelt dst))
    pure (.tuple #[])) := rfl
theorem rt_methodKind (h : Value) (w : World) : (Go.method 437 238 (.agg #[h]) "Kind").run Tryz.prog w = .ok (235, h) w := by kernel_rfl
theorem rt_methodElem (h : Value) (w : World) : (Go.method 437 238 (.agg #[h]) "Elem").run Tryz.prog w = .ok (250, .agg #[h]) w := by kernel_rfl
theorem rt_methodImplements (h : Value) (w : World) : (Go.method 437 238 (.agg #[h]) "Implements").run Tryz.prog w = .ok (251, .agg #[h]) w := by kernel_rfl
theorem rt_methodAssignableTo (h : Value) (w : World) : (Go.method 437 238 (.agg #[h]) "AssignableTo").run Tryz.prog w = .ok (248, .agg #[h]) w := by kernel_rfl

/-! ### errors.As at **pack.wrong -/
theorem pkw_valueOf (t : Addr) (w : World) : (ReflectliteValue.unpack (.iface 277 (.pointer (some t)))).run Tryz.prog w
    = .ok (.agg #[.pointer (some ⟨18, 277, none⟩), .pointer (some ⟨w.heap.size, 0, none⟩), .int .u64 150]) (w.alloc (.cells #[.pointer (some t)] 277)) := by kernel_rfl
theorem pkw_type (a : Addr) (w : World) : (ReflectliteValue.methodAny (ReflectliteValue.valueError "reflectlite.Value.Type" 0) (fun t _ _ _ => ReflectliteType.toType t) #[.agg #[.pointer (some ⟨18, 277, none⟩), .pointer (some a), .int .u64 150]]).run Tryz.prog w
    = .ok (.iface 238 (.agg #[.pointer (some ⟨18, 277, none⟩)])) w := by kernel_rfl
theorem pkw_kindPP (w : World) : ((ReflectliteType.abiMethod fun t => (fun a : Nat => Value.int IntKind.u8 (a : Int)) <$> Rtype.kind t) #[.pointer (some ⟨18, 277, none⟩)]).run Tryz.prog w = .ok (.int .u8 22) w := by kernel_rfl
theorem pkw_kindPE (w : World) : ((ReflectliteType.abiMethod fun t => (fun a : Nat => Value.int IntKind.u8 (a : Int)) <$> Rtype.kind t) #[.pointer (some ⟨18, 276, none⟩)]).run Tryz.prog w = .ok (.int .u8 22) w := by kernel_rfl
theorem pkw_partsPP (a : Addr) (w : World) : (ReflectliteValue.parts (.agg #[.pointer (some ⟨18, 277, none⟩), .pointer (some a), .int .u64 150])).run Tryz.prog w = .ok (some (277, a, 150)) w := by kernel_rfl
theorem pkw_isNil (a p : Addr) (W : World) (ha : W.cell? a = some (.pointer (some p))) :
    (ReflectliteValue.method (ReflectliteValue.valueError "reflectlite.Value.IsNil" 0) ReflectliteValue.isNil #[.agg #[.pointer (some ⟨18, 277, none⟩), .pointer (some a), .int .u64 150]]).run Tryz.prog W = .ok (.bool false) W := by
  rw [rlm]
  simp only [Sem.run_bind, pkw_partsPP, Result.andThen]
  simp [ReflectliteValue.isNil, loadVar, isAgg, underlying, Tryz.underlying277, ha, Result.andThen]
theorem pkw_elem (w : World) : (ReflectliteType.method ReflectliteType.elem #[.agg #[.pointer (some ⟨18, 277, none⟩)]]).run Tryz.prog w = .ok (.iface 238 (.agg #[.pointer (some ⟨18, 276, none⟩)])) w := by kernel_rfl
theorem pkw_implements (w : World) : (ReflectliteType.relation "Implements" ReflectliteType.implements_ #[.agg #[.pointer (some ⟨18, 276, none⟩)], .iface 238 (.agg #[.pointer (some ⟨18, 122, none⟩)])]).run Tryz.prog w = .ok (.bool true) w := by kernel_rfl
theorem pkw_typeOf (v : Value) (w : World) : (ReflectliteType.typeOf #[.iface 276 v]).run Tryz.prog w = .ok (.iface 238 (.agg #[.pointer (some ⟨18, 276, none⟩)])) w := by kernel_rfl
theorem pkw_assignable (w : World) : (ReflectliteType.relation "AssignableTo" ReflectliteType.assignableTo #[.agg #[.pointer (some ⟨18, 276, none⟩)], .iface 238 (.agg #[.pointer (some ⟨18, 276, none⟩)])]).run Tryz.prog w = .ok (.bool true) w := by kernel_rfl
theorem pkw_valueOfE (e : Addr) (w : World) : (ReflectliteValue.unpack (.iface 276 (.pointer (some e)))).run Tryz.prog w
    = .ok (.agg #[.pointer (some ⟨18, 276, none⟩), .pointer (some ⟨w.heap.size, 0, none⟩), .int .u64 150]) (w.alloc (.cells #[.pointer (some e)] 276)) := by kernel_rfl
theorem pkw_elemOf (w : World) : (Rtype.elem? 277).run Tryz.prog w = .ok (some 276) w := by kernel_rfl
theorem pkw_mk (p : Addr) (w : World) : (ReflectliteValue.mk 276 p ReflectliteValue.flagAddr).run Tryz.prog w = .ok (.agg #[.pointer (some ⟨18, 276, none⟩), .pointer (some p), .int .u64 406]) w := by kernel_rfl
theorem pkw_elemV (a p : Addr) (W : World) (ha : W.cell? a = some (.pointer (some p))) :
    (ReflectliteValue.method (ReflectliteValue.valueError "reflectlite.Value.Elem" 0) ReflectliteValue.elem #[.agg #[.pointer (some ⟨18, 277, none⟩), .pointer (some a), .int .u64 150]]).run Tryz.prog W
      = .ok (.agg #[.pointer (some ⟨18, 276, none⟩), .pointer (some p), .int .u64 406]) W := by
  rw [rlm]
  simp only [Sem.run_bind, pkw_partsPP, Result.andThen]
  simp [ReflectliteValue.elem, loadVar, isAgg, underlying, Tryz.underlying277, ha, Result.andThen, pkw_elemOf, pkw_mk]
theorem pkw_partsEa (a : Addr) (w : World) : (ReflectliteValue.parts (.agg #[.pointer (some ⟨18, 276, none⟩), .pointer (some a), .int .u64 406])).run Tryz.prog w = .ok (some (276, a, 406)) w := by kernel_rfl
theorem pkw_partsE (a : Addr) (w : World) : (ReflectliteValue.parts (.agg #[.pointer (some ⟨18, 276, none⟩), .pointer (some a), .int .u64 150])).run Tryz.prog w = .ok (some (276, a, 150)) w := by kernel_rfl
theorem pkw_direct (w : World) : (Rtype.directlyAssignable 276 276).run Tryz.prog w = .ok true w := by kernel_rfl
theorem pkw_set (ta b e : Addr) (old : Value) (W : World) (hb : W.cell? b = some (.pointer (some e))) (ht : W.cell? ta = some old) (hf : W.frozen? ta = false) :
    (ReflectliteValue.set #[.agg #[.pointer (some ⟨18, 276, none⟩), .pointer (some ta), .int .u64 406], .agg #[.pointer (some ⟨18, 276, none⟩), .pointer (some b), .int .u64 150]]).run Tryz.prog W
      = .ok (.tuple #[]) (W.setCell ta (.pointer (some e))) := by
  rw [rls]
  simp only [Sem.run_bind, pkw_partsEa, pkw_partsE, Result.andThen]
  simp [ReflectliteValue.flagAddr, loadVar, isAgg, underlying, Tryz.underlying276, hb, Result.andThen, pkw_direct, storeVar, Value.cells, storeCells, Addr.add]
  rw [run_store Tryz.prog W ta _ _ (by rfl)]
  simp [ht, hf]

set_option maxHeartbeats 4000000 in
theorem pkw_as_hit (e t : Addr) (old : Value) (w : World) (hg : w.cell? ⟨13, 0, none⟩ = some (.iface 238 (.agg #[.pointer (some ⟨18, 122, none⟩)]))) (ht0 : w.cell? t = some old) (hf0 : w.frozen? t = false) :
    Calls Tryz.prog 137 #[.iface 276 (.pointer (some e)), .iface 277 (.pointer (some t))] w fun ev w' => ev = .returned (.bool true) ∧ w' = ((((w.alloc (.cells #[.pointer (some t)] 277)).alloc (.cells #[.pointer (some ⟨18, 277, none⟩), .pointer (some ⟨w.heap.size, 0, none⟩), .int .u64 150] 228)).alloc (.cells #[.pointer (some ⟨18, 277, none⟩), .pointer (some ⟨w.heap.size, 0, none⟩), .int .u64 150] 228)).alloc (.cells #[.pointer (some e)] 276)).setCell t (.pointer (some e)) := by
  have h6 := @run_callFunc_extern Tryz.prog 161 _ (fun args => ReflectliteValue.unpack (args.getD 0 (.tuple #[]))) Tryz.func161 (by kernel_rfl) (by kernel_rfl) (by kernel_rfl) (by kernel_rfl)
  have h7 := @run_callFunc_extern Tryz.prog 162 _ (ReflectliteValue.methodAny (ReflectliteValue.valueError "reflectlite.Value.Type" 0) (fun t _ _ _ => ReflectliteType.toType t)) Tryz.func162 (by kernel_rfl) (by kernel_rfl) (by kernel_rfl) (by kernel_rfl)
  have h8 := @run_callFunc_extern Tryz.prog 163 _ (ReflectliteValue.method (ReflectliteValue.valueError "reflectlite.Value.IsNil" 0) ReflectliteValue.isNil) Tryz.func163 (by kernel_rfl) (by kernel_rfl) (by kernel_rfl) (by kernel_rfl)
  have h27 := @run_callFunc_extern Tryz.prog 235 _ (ReflectliteType.abiMethod fun t => do pure (.int .u8 (← Rtype.kind t))) Tryz.func235 (by kernel_rfl) (by kernel_rfl) (by kernel_rfl) (by kernel_rfl)
  have h37 := @run_callFunc_extern Tryz.prog 250 _ (ReflectliteType.method ReflectliteType.elem) Tryz.func250 (by kernel_rfl) (by kernel_rfl) (by kernel_rfl) (by kernel_rfl)
  have h38 := @run_callFunc_extern Tryz.prog 251 _ (ReflectliteType.relation "Implements" ReflectliteType.implements_) Tryz.func251 (by kernel_rfl) (by kernel_rfl) (by kernel_rfl) (by kernel_rfl)
  have h10 := @run_callFunc_extern Tryz.prog 141 _ ReflectliteType.typeOf Tryz.func141 (by kernel_rfl) (by kernel_rfl) (by kernel_rfl) (by kernel_rfl)
  have h35 := @run_callFunc_extern Tryz.prog 248 _ (ReflectliteType.relation "AssignableTo" ReflectliteType.assignableTo) Tryz.func248 (by kernel_rfl) (by kernel_rfl) (by kernel_rfl) (by kernel_rfl)
  have h11 := @run_callFunc_extern Tryz.prog 178 _ (ReflectliteValue.method (ReflectliteValue.valueError "reflectlite.Value.Elem" 0) ReflectliteValue.elem) Tryz.func178 (by kernel_rfl) (by kernel_rfl) (by kernel_rfl) (by kernel_rfl)
  have h12 := @run_callFunc_extern Tryz.prog 179 _ ReflectliteValue.set Tryz.func179 (by kernel_rfl) (by kernel_rfl) (by kernel_rfl) (by kernel_rfl)
  have tO := pkw_typeOf
  have mA := rt_methodAssignableTo
  have aE := pkw_assignable
  have vE := pkw_valueOfE
  have f6 := pkw_valueOf
  have f7 := pkw_type
  have mK := rt_methodKind
  have mE := rt_methodElem
  have mI := rt_methodImplements
  have kPP := pkw_kindPP
  have kPE := pkw_kindPE
  have ePP := pkw_elem
  have iPE := pkw_implements
  have n8 := pkw_isNil ⟨w.heap.size, 0, none⟩ t ((w.alloc (.cells #[.pointer (some t)] 277)).alloc (.cells #[.pointer (some ⟨18, 277, none⟩), .pointer (some ⟨w.heap.size, 0, none⟩), .int .u64 150] 228)) (by simp)
  have hlt : 13 < w.heap.size := by
    rcases Nat.lt_or_ge 13 w.heap.size with h | h
    · exact h
    · simp [World.cell?, Array.getElem?_eq_none h] at hg
  have hg2 : ((w.alloc (.cells #[.pointer (some t)] 277)).alloc (.cells #[.pointer (some ⟨18, 277, none⟩), .pointer (some ⟨w.heap.size, 0, none⟩), .int .u64 150] 228)).cell? ⟨13, 0, none⟩ = some (.iface 238 (.agg #[.pointer (some ⟨18, 122, none⟩)])) := by
    rw [World.cell?_alloc_lt _ _ ⟨13, 0, none⟩ (by simp; omega), World.cell?_alloc_lt _ _ ⟨13, 0, none⟩ hlt]; exact hg
  have htl : t.block < w.heap.size := by
    rcases Nat.lt_or_ge t.block w.heap.size with h | h
    · exact h
    · simp [World.cell?, Array.getElem?_eq_none h] at ht0
  have el := pkw_elemV ⟨w.heap.size, 0, none⟩ t (((w.alloc (.cells #[.pointer (some t)] 277)).alloc (.cells #[.pointer (some ⟨18, 277, none⟩), .pointer (some ⟨w.heap.size, 0, none⟩), .int .u64 150] 228)).alloc (.cells #[.pointer (some ⟨18, 277, none⟩), .pointer (some ⟨w.heap.size, 0, none⟩), .int .u64 150] 228)) (by rw [World.cell?_alloc_lt _ _ ⟨w.heap.size, 0, none⟩ (by simp; omega)]; simp)
  have st := pkw_set t ⟨w.heap.size + 1 + 1 + 1, 0, none⟩ e old ((((w.alloc (.cells #[.pointer (some t)] 277)).alloc (.cells #[.pointer (some ⟨18, 277, none⟩), .pointer (some ⟨w.heap.size, 0, none⟩), .int .u64 150] 228)).alloc (.cells #[.pointer (some ⟨18, 277, none⟩), .pointer (some ⟨w.heap.size, 0, none⟩), .int .u64 150] 228)).alloc (.cells #[.pointer (some e)] 276))
    (by rw [World.cell?_alloc_at _ _ _ _ (by simp)]; rfl)
    (by rw [World.cell?_alloc_lt _ _ t (by simp; omega), World.cell?_alloc_lt _ _ t (by simp; omega), World.cell?_alloc_lt _ _ t (by simp; omega), World.cell?_alloc_lt _ _ t htl]; exact ht0)
    (by rw [World.frozen?_alloc_old _ _ t (by simp; omega), World.frozen?_alloc_old _ _ t (by simp; omega), World.frozen?_alloc_old _ _ t (by simp; omega), World.frozen?_alloc_old _ _ t (Nat.ne_of_lt htl)]; exact hf0)
  go_enter Tryz.func137, Tryz.ntmps137
  go_wp2
  refine wp_loop_rounds 1 ?_
  rw [rounds_succ]
  go_wp2
  go_ret
  exact ⟨rfl, rfl⟩
end Go.Proofs.YtdbiebnnogjccaaGreatDoor
