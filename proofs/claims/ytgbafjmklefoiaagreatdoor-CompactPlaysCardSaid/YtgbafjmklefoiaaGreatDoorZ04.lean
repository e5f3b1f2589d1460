/- errors.Is and errors.As at what the program hands out: nil, a sentinel of errors.New's make, an *api.Fault around a sentinel. errors.As at an *api.Fault's target: nil, a sentinel, a fault. An error of the program's: its number, its place (cartularylaw01.Code, At, Is). An error at a place; an error beside what the document tells (cartularylaw01.IsAt, Same). -/
import Derived.Test.YtgbafjmklefoiaaGreatDoorChecked
import Derived.WalkKit
import Derived.LaidEql
import Derived.Stop.Asserts
import Derived.RowKitTokens
import Derived.Below
import Derived.Test.YtgbafjmklefoiaaGreatDoorZ02
section
namespace Go.Proofs.YtgbafjmklefoiaaGreatDoor
open Go.RowKit Go.Extern.Stop Go.Stop Go.Extern
/-! what 'reflectlite.TypeOf(target).Comparable()' gives -/
theorem er_typeOf (v : Value) (w : World) : (Extern.ReflectliteType.typeOf #[.iface 282 v]).run Tryz.prog w = .ok (.iface 256 (.agg #[.pointer (some ⟨21, 282, none⟩)])) w := by kernel_rfl
/-- the model's entry -/
def erCmp : Array Value → Sem Value := Extern.ReflectliteType.method fun t => do Extern.Rtype.noPackHeld "Comparable" t; pure (.bool (← typeInfo t).comparable)
theorem er_comparable (w : World) : (erCmp #[.agg #[.pointer (some ⟨21, 282, none⟩)]]).run Tryz.prog w = .ok (.bool true) w := by kernel_rfl
theorem er_mComparable (v : Value) (w : World) : (Go.method 416 256 v "Comparable").run Tryz.prog w = .ok (200, v) w := by kernel_rfl
theorem er_comp : (Tryz.prog.info? 282).map (·.comparable) = some true := by kernel_rfl
theorem er_size : (Tryz.prog.info? 304).map (·.size) = some 1 := by kernel_rfl
/-! the method sets -/
theorem er_noIsE (v : Value) (xT : TypeId) (w : World) : (Instr.typeAssert (.iface 282 v) xT 268 true).run Tryz.prog w = .ok (.tuple #[.nilIface, .bool false]) w := run_typeAssert_lacksB Tryz.underlying268 (by kernel_rfl) (by kernel_rfl) v xT w
theorem er_noUnwrapE (v : Value) (xT : TypeId) (w : World) : (Instr.typeAssert (.iface 282 v) xT 263 true).run Tryz.prog w = .ok (.tuple #[.nilIface, .bool false]) w := run_typeAssert_lacksB Tryz.underlying263 (by kernel_rfl) (by kernel_rfl) v xT w
theorem er_noUnwrapsE (v : Value) (xT : TypeId) (w : World) : (Instr.typeAssert (.iface 282 v) xT 265 true).run Tryz.prog w = .ok (.tuple #[.nilIface, .bool false]) w := run_typeAssert_lacksB Tryz.underlying265 (by kernel_rfl) (by kernel_rfl) v xT w
theorem er_noAsE (v : Value) (xT : TypeId) (w : World) : (Instr.typeAssert (.iface 282 v) xT 260 true).run Tryz.prog w = .ok (.tuple #[.nilIface, .bool false]) w := run_typeAssert_lacksB Tryz.underlying260 (by kernel_rfl) (by kernel_rfl) v xT w
theorem er_noIsF (v : Value) (xT : TypeId) (w : World) : (Instr.typeAssert (.iface 219 v) xT 268 true).run Tryz.prog w = .ok (.tuple #[.nilIface, .bool false]) w := run_typeAssert_lacksB Tryz.underlying268 (by kernel_rfl) (by kernel_rfl) v xT w
theorem er_hasUnwrapF (v : Value) (xT : TypeId) (w : World) : (Instr.typeAssert (.iface 219 v) xT 263 true).run Tryz.prog w = .ok (.tuple #[.iface 219 v, .bool true]) w := run_typeAssert_hasB Tryz.underlying263 (by kernel_rfl) v xT w
theorem er_mUnwrap (v : Value) (w : World) : (Go.method 416 219 v "Unwrap").run Tryz.prog w = .ok (194, v) w := by kernel_rfl
set_option maxRecDepth 100000 in
/-- errors.Is(nil, x) -/
theorem is_nil (b : Addr) (w : World) :
    Calls Tryz.prog 141 #[.nilIface, .iface 282 (.pointer (some b))] w fun e w' => e = .returned (.bool false) ∧ w' = w := by
  have hn := run_eql_iface_nil_left (P := Tryz.prog) w 282 (.pointer (some b)) Tryz.underlying71
  go_enter Tryz.func141, Tryz.ntmps141
  go_wp2
  go_ret
  exact ⟨rfl, rfl⟩
set_option maxRecDepth 100000 in
/-- errors.Is(x, x) -/
theorem is_same (a : Addr) (w : World) :
    Calls Tryz.prog 141 #[.iface 282 (.pointer (some a)), .iface 282 (.pointer (some a))] w fun e w' => e = .returned (.bool true) ∧ w' = w := by
  obtain ⟨i, hi, hcmp⟩ := Option.map_eq_some_iff.1 er_comp
  obtain ⟨j, hj, hjs⟩ := Option.map_eq_some_iff.1 er_size
  have h8 := @run_callFunc_extern Tryz.prog 156 _ Extern.ReflectliteType.typeOf Tryz.func156 (by kernel_rfl) (by kernel_rfl) (by kernel_rfl) (by kernel_rfl)
  have h32 := @run_callFunc_extern Tryz.prog 200 _ erCmp Tryz.func200 (by kernel_rfl) (by kernel_rfl) (by kernel_rfl) (by kernel_rfl)
  have tT := er_typeOf
  have cT := er_comparable
  have mR := er_mComparable
  have heq := run_eql_iface_ptr_same (P := Tryz.prog) w a Tryz.underlying71 Tryz.underlying282 hi hcmp hj
  go_enter Tryz.func141, Tryz.ntmps141
  go_wp2
  refine wp_loop_rounds 1 ?_
  rw [rounds_succ]
  go_wp2
  go_ret
  exact ⟨rfl, rfl⟩
set_option maxRecDepth 100000 in
/-- errors.Is(x, y), two sentinels -/
theorem is_other (a b : Addr) (ca cb : Array Value) (ta tb : TypeId) (w : World) (hne : a ≠ b) (ha : w.heap[a.block]? = some (.cells ca ta (0, 0))) (hb : w.heap[b.block]? = some (.cells cb tb (0, 0))) :
    Calls Tryz.prog 141 #[.iface 282 (.pointer (some a)), .iface 282 (.pointer (some b))] w fun e w' => e = .returned (.bool false) ∧ w' = w := by
  obtain ⟨i, hi, hcmp⟩ := Option.map_eq_some_iff.1 er_comp
  obtain ⟨j, hj, hjs⟩ := Option.map_eq_some_iff.1 er_size
  have h8 := @run_callFunc_extern Tryz.prog 156 _ Extern.ReflectliteType.typeOf Tryz.func156 (by kernel_rfl) (by kernel_rfl) (by kernel_rfl) (by kernel_rfl)
  have h32 := @run_callFunc_extern Tryz.prog 200 _ erCmp Tryz.func200 (by kernel_rfl) (by kernel_rfl) (by kernel_rfl) (by kernel_rfl)
  have tT := er_typeOf
  have cT := er_comparable
  have mR := er_mComparable
  have nE := er_noIsE
  have uE := er_noUnwrapE
  have vE := er_noUnwrapsE
  have heq := run_eql_iface_ptr_other (P := Tryz.prog) w Tryz.underlying71 Tryz.underlying282 hi hcmp hj (by rw [hjs]; decide) hne ha hb
  go_enter Tryz.func141, Tryz.ntmps141
  go_wp2
  refine wp_loop_rounds 1 ?_
  rw [rounds_succ]
  go_wp2
  go_ret
  exact ⟨rfl, rfl⟩
set_option maxRecDepth 100000 in
/-- errors.Is(f, x), f a fault around x -/
theorem is_fault_same (pb po : Nat) (b : Addr) (w : World) (h1 : w.cell? ⟨pb, po, none⟩ = some (.iface 282 (.pointer (some b)))) :
    Calls Tryz.prog 141 #[.iface 219 (.pointer (some ⟨pb, po, none⟩)), .iface 282 (.pointer (some b))] w fun e w' => e = .returned (.bool true) ∧ w' = w := by
  obtain ⟨i, hi, hcmp⟩ := Option.map_eq_some_iff.1 er_comp
  obtain ⟨j, hj, hjs⟩ := Option.map_eq_some_iff.1 er_size
  have h8 := @run_callFunc_extern Tryz.prog 156 _ Extern.ReflectliteType.typeOf Tryz.func156 (by kernel_rfl) (by kernel_rfl) (by kernel_rfl) (by kernel_rfl)
  have h32 := @run_callFunc_extern Tryz.prog 200 _ erCmp Tryz.func200 (by kernel_rfl) (by kernel_rfl) (by kernel_rfl) (by kernel_rfl)
  have tT := er_typeOf
  have cT := er_comparable
  have mR := er_mComparable
  have nE := er_noIsE
  have uE := er_noUnwrapE
  have vE := er_noUnwrapsE
  have nW := er_noIsF
  have uW := er_hasUnwrapF
  have mU := er_mUnwrap
  have heq := run_eql_iface_ptr_same (P := Tryz.prog) w b Tryz.underlying71 Tryz.underlying282 hi hcmp hj
  have hty := run_eql_iface_types (P := Tryz.prog) 219 282 (.pointer (some ⟨pb, po, none⟩)) (.pointer (some b)) Tryz.underlying71 (by decide) w
  go_enter Tryz.func141, Tryz.ntmps141
  go_wp2
  refine wp_loop_rounds 2 ?_
  rw [rounds_succ]
  go_wp2
  rw [rounds_succ]
  go_wp2
  go_ret
  exact ⟨rfl, rfl⟩
set_option maxRecDepth 100000 in
/-- errors.Is(f, x), f a fault around another sentinel -/
theorem is_fault_other (pb po : Nat) (b a : Addr) (ca cb : Array Value) (ta tb : TypeId) (w : World) (h1 : w.cell? ⟨pb, po, none⟩ = some (.iface 282 (.pointer (some a)))) (hne : a ≠ b) (ha : w.heap[a.block]? = some (.cells ca ta (0, 0))) (hb : w.heap[b.block]? = some (.cells cb tb (0, 0))) :
    Calls Tryz.prog 141 #[.iface 219 (.pointer (some ⟨pb, po, none⟩)), .iface 282 (.pointer (some b))] w fun e w' => e = .returned (.bool false) ∧ w' = w := by
  obtain ⟨i, hi, hcmp⟩ := Option.map_eq_some_iff.1 er_comp
  obtain ⟨j, hj, hjs⟩ := Option.map_eq_some_iff.1 er_size
  have h8 := @run_callFunc_extern Tryz.prog 156 _ Extern.ReflectliteType.typeOf Tryz.func156 (by kernel_rfl) (by kernel_rfl) (by kernel_rfl) (by kernel_rfl)
  have h32 := @run_callFunc_extern Tryz.prog 200 _ erCmp Tryz.func200 (by kernel_rfl) (by kernel_rfl) (by kernel_rfl) (by kernel_rfl)
  have tT := er_typeOf
  have cT := er_comparable
  have mR := er_mComparable
  have nE := er_noIsE
  have uE := er_noUnwrapE
  have vE := er_noUnwrapsE
  have nW := er_noIsF
  have uW := er_hasUnwrapF
  have mU := er_mUnwrap
  have heq := run_eql_iface_ptr_other (P := Tryz.prog) w Tryz.underlying71 Tryz.underlying282 hi hcmp hj (by rw [hjs]; decide) hne ha hb
  have hty := run_eql_iface_types (P := Tryz.prog) 219 282 (.pointer (some ⟨pb, po, none⟩)) (.pointer (some b)) Tryz.underlying71 (by decide) w
  go_enter Tryz.func141, Tryz.ntmps141
  go_wp2
  refine wp_loop_rounds 2 ?_
  rw [rounds_succ]
  go_wp2
  rw [rounds_succ]
  go_wp2
  go_ret
  exact ⟨rfl, rfl⟩
end Go.Proofs.YtgbafjmklefoiaaGreatDoor
end
section
namespace Go.Proofs.YtgbafjmklefoiaaGreatDoor
open Go.RowKit Go.Extern.Stop Go.Stop Go.Extern
/-! errors.As: the model's entries for internal/reflectlite -/
theorem er_valueOfPP (t : Addr) (w : World) : (ReflectliteValue.unpack (.iface 221 (.pointer (some t)))).run Tryz.prog w
    = .ok (.agg #[.pointer (some ⟨21, 221, none⟩), .pointer (some ⟨w.heap.size, 0, none⟩), .int .u64 150]) (w.alloc (.cells #[.pointer (some t)] 221)) := by kernel_rfl
theorem er_typePP (a : Addr) (w : World) : (ReflectliteValue.methodAny (ReflectliteValue.valueError "reflectlite.Value.Type" 0) (fun t _ _ _ => ReflectliteType.toType t) #[.agg #[.pointer (some ⟨21, 221, none⟩), .pointer (some a), .int .u64 150]]).run Tryz.prog w
    = .ok (.iface 256 (.agg #[.pointer (some ⟨21, 221, none⟩)])) w := by kernel_rfl
theorem er_mKind (h : Value) (w : World) : (Go.method 416 256 (.agg #[h]) "Kind").run Tryz.prog w = .ok (189, h) w := by kernel_rfl
theorem er_kindPP (w : World) : ((ReflectliteType.abiMethod fun t => (fun a : Nat => Value.int IntKind.u8 (a : Int)) <$> Rtype.kind t) #[.pointer (some ⟨21, 221, none⟩)]).run Tryz.prog w = .ok (.int .u8 22) w := by kernel_rfl
theorem er_kindP (w : World) : ((ReflectliteType.abiMethod fun t => (fun a : Nat => Value.int IntKind.u8 (a : Int)) <$> Rtype.kind t) #[.pointer (some ⟨21, 219, none⟩)]).run Tryz.prog w = .ok (.int .u8 22) w := by kernel_rfl
theorem er_rlm (z : Sem Value) (f : TypeId → Addr → Nat → Nat → Sem Value) (v : Value) :
    ReflectliteValue.method z f #[v] = (do match ← ReflectliteValue.parts v with | none => z | some (t, a, fl) => f t a fl (fl % 32)) := rfl
theorem er_partsPP (a : Addr) (w : World) : (ReflectliteValue.parts (.agg #[.pointer (some ⟨21, 221, none⟩), .pointer (some a), .int .u64 150])).run Tryz.prog w = .ok (some (221, a, 150)) w := by kernel_rfl
theorem er_isNilPP (a p : Addr) (W : World) (ha : W.cell? a = some (.pointer (some p))) :
    (ReflectliteValue.method (ReflectliteValue.valueError "reflectlite.Value.IsNil" 0) ReflectliteValue.isNil #[.agg #[.pointer (some ⟨21, 221, none⟩), .pointer (some a), .int .u64 150]]).run Tryz.prog W = .ok (.bool false) W := by
  rw [er_rlm]
  simp only [Sem.run_bind, er_partsPP, Result.andThen]
  simp [ReflectliteValue.isNil, loadVar, isAgg, underlying, Tryz.underlying221, ha, Result.andThen]
theorem er_mElem (h : Value) (w : World) : (Go.method 416 256 (.agg #[h]) "Elem").run Tryz.prog w = .ok (201, .agg #[h]) w := by kernel_rfl
theorem er_mImplements (h : Value) (w : World) : (Go.method 416 256 (.agg #[h]) "Implements").run Tryz.prog w = .ok (202, .agg #[h]) w := by kernel_rfl
theorem er_mAssignable (h : Value) (w : World) : (Go.method 416 256 (.agg #[h]) "AssignableTo").run Tryz.prog w = .ok (199, .agg #[h]) w := by kernel_rfl
theorem er_elemPP (w : World) : (ReflectliteType.method ReflectliteType.elem #[.agg #[.pointer (some ⟨21, 221, none⟩)]]).run Tryz.prog w = .ok (.iface 256 (.agg #[.pointer (some ⟨21, 219, none⟩)])) w := by kernel_rfl
theorem er_implementsP (w : World) : (ReflectliteType.relation "Implements" ReflectliteType.implements_ #[.agg #[.pointer (some ⟨21, 219, none⟩)], .iface 256 (.agg #[.pointer (some ⟨21, 71, none⟩)])]).run Tryz.prog w = .ok (.bool true) w := by kernel_rfl
theorem er_typeOfP (v : Value) (w : World) : (ReflectliteType.typeOf #[.iface 219 v]).run Tryz.prog w = .ok (.iface 256 (.agg #[.pointer (some ⟨21, 219, none⟩)])) w := by kernel_rfl
theorem er_assignableP (w : World) : (ReflectliteType.relation "AssignableTo" ReflectliteType.assignableTo #[.agg #[.pointer (some ⟨21, 219, none⟩)], .iface 256 (.agg #[.pointer (some ⟨21, 219, none⟩)])]).run Tryz.prog w = .ok (.bool true) w := by kernel_rfl
theorem er_assignableE (w : World) : (ReflectliteType.relation "AssignableTo" ReflectliteType.assignableTo #[.agg #[.pointer (some ⟨21, 282, none⟩)], .iface 256 (.agg #[.pointer (some ⟨21, 219, none⟩)])]).run Tryz.prog w = .ok (.bool false) w := by kernel_rfl
theorem er_valueOfP (e : Addr) (w : World) : (ReflectliteValue.unpack (.iface 219 (.pointer (some e)))).run Tryz.prog w
    = .ok (.agg #[.pointer (some ⟨21, 219, none⟩), .pointer (some ⟨w.heap.size, 0, none⟩), .int .u64 150]) (w.alloc (.cells #[.pointer (some e)] 219)) := by kernel_rfl
theorem er_elemOfPP (w : World) : (Rtype.elem? 221).run Tryz.prog w = .ok (some 219) w := by kernel_rfl
theorem er_mkP (p : Addr) (w : World) : (ReflectliteValue.mk 219 p ReflectliteValue.flagAddr).run Tryz.prog w = .ok (.agg #[.pointer (some ⟨21, 219, none⟩), .pointer (some p), .int .u64 406]) w := by kernel_rfl
theorem er_elemVPP (a p : Addr) (W : World) (ha : W.cell? a = some (.pointer (some p))) :
    (ReflectliteValue.method (ReflectliteValue.valueError "reflectlite.Value.Elem" 0) ReflectliteValue.elem #[.agg #[.pointer (some ⟨21, 221, none⟩), .pointer (some a), .int .u64 150]]).run Tryz.prog W
      = .ok (.agg #[.pointer (some ⟨21, 219, none⟩), .pointer (some p), .int .u64 406]) W := by
  rw [er_rlm]
  simp only [Sem.run_bind, er_partsPP, Result.andThen]
  simp [ReflectliteValue.elem, loadVar, isAgg, underlying, Tryz.underlying221, ha, Result.andThen, er_elemOfPP, er_mkP]
theorem er_rls (v x : Value) : ReflectliteValue.set #[v, x] = (do
    let (some (dst, a, fl), some (src, b, _)) := (← ReflectliteValue.parts v, ← ReflectliteValue.parts x)
      | unsupported (.noEntry "extern/(internal/reflectlite.Value).Set.zeroValue")
    if fl / ReflectliteValue.flagAddr % 2 == 0 then unsupported (.noEntry "extern/(internal/reflectlite.Value).Set.unaddressable")
    let val ← loadVar src b
    if ← Rtype.directlyAssignable dst src then storeVar dst a val
    else if ← Rtype.implements dst src then
      if (← Rtype.kind src) == 20 then
        match val with
        | .nilIface => unsupported (.noEntry "extern/reflectlite: a nil value of one interface type handed on as a value of another")
        | _ => storeVar dst a val
      else storeVar dst a (.iface src val)
    else panicString ("reflectlite.Set: value of type " ++ (← Rtype.spelt src) ++ " is not assignable to type " ++ (← Rtype.spelt dst))
    pure (.tuple #[])) := rfl
theorem er_partsPa (a : Addr) (w : World) : (ReflectliteValue.parts (.agg #[.pointer (some ⟨21, 219, none⟩), .pointer (some a), .int .u64 406])).run Tryz.prog w = .ok (some (219, a, 406)) w := by kernel_rfl
theorem er_partsP (a : Addr) (w : World) : (ReflectliteValue.parts (.agg #[.pointer (some ⟨21, 219, none⟩), .pointer (some a), .int .u64 150])).run Tryz.prog w = .ok (some (219, a, 150)) w := by kernel_rfl
theorem er_direct (w : World) : (Rtype.directlyAssignable 219 219).run Tryz.prog w = .ok true w := by kernel_rfl
theorem er_setP (ta b e : Addr) (old : Value) (W : World) (hb : W.cell? b = some (.pointer (some e))) (ht : W.cell? ta = some old) (hf : W.frozen? ta = false) :
    (ReflectliteValue.set #[.agg #[.pointer (some ⟨21, 219, none⟩), .pointer (some ta), .int .u64 406], .agg #[.pointer (some ⟨21, 219, none⟩), .pointer (some b), .int .u64 150]]).run Tryz.prog W
      = .ok (.tuple #[]) (W.setCell ta (.pointer (some e))) := by
  rw [er_rls]
  simp only [Sem.run_bind, er_partsPa, er_partsP, Result.andThen]
  simp [ReflectliteValue.flagAddr, loadVar, isAgg, underlying, Tryz.underlying219, hb, Result.andThen, er_direct, storeVar, Value.cells, storeCells, Addr.add]
  rw [run_store Tryz.prog W ta _ _ (by rfl)]
  simp [ht, hf]
/-- errors.As(nil, target) -/
theorem as_nil (t : Value) (w : World) :
    Calls Tryz.prog 140 #[.nilIface, t] w fun e w' => e = .returned (.bool false) ∧ w' = w := by
  go_enter Tryz.func140, Tryz.ntmps140
  go_wp2
  go_ret
  exact ⟨rfl, rfl⟩
/-- the world behind errors.As's own boxes -/
def asWorld (t : Addr) (w : World) : World := ((w.alloc (.cells #[.pointer (some t)] 221)).alloc (.cells #[.pointer (some ⟨21, 221, none⟩), .pointer (some ⟨w.heap.size, 0, none⟩), .int .u64 150] 241)).alloc (.cells #[.pointer (some ⟨21, 221, none⟩), .pointer (some ⟨w.heap.size, 0, none⟩), .int .u64 150] 241)
set_option maxRecDepth 100000 in
set_option maxHeartbeats 4000000 in
theorem as_miss (a t : Addr) (w : World) (hg : w.cell? ⟨17, 0, none⟩ = some (.iface 256 (.agg #[.pointer (some ⟨21, 71, none⟩)]))) :
    Calls Tryz.prog 140 #[.iface 282 (.pointer (some a)), .iface 221 (.pointer (some t))] w fun ev w' => ev = .returned (.bool false) ∧ w' = asWorld t w := by
  have h6 := @run_callFunc_extern Tryz.prog 152 _ (fun args => ReflectliteValue.unpack (args.getD 0 (.tuple #[]))) Tryz.func152 (by kernel_rfl) (by kernel_rfl) (by kernel_rfl) (by kernel_rfl)
  have h7 := @run_callFunc_extern Tryz.prog 153 _ (ReflectliteValue.methodAny (ReflectliteValue.valueError "reflectlite.Value.Type" 0) (fun t _ _ _ => ReflectliteType.toType t)) Tryz.func153 (by kernel_rfl) (by kernel_rfl) (by kernel_rfl) (by kernel_rfl)
  have h8 := @run_callFunc_extern Tryz.prog 154 _ (ReflectliteValue.method (ReflectliteValue.valueError "reflectlite.Value.IsNil" 0) ReflectliteValue.isNil) Tryz.func154 (by kernel_rfl) (by kernel_rfl) (by kernel_rfl) (by kernel_rfl)
  have h27 := @run_callFunc_extern Tryz.prog 189 _ (ReflectliteType.abiMethod fun t => do pure (.int .u8 (← Rtype.kind t))) Tryz.func189 (by kernel_rfl) (by kernel_rfl) (by kernel_rfl) (by kernel_rfl)
  have h37 := @run_callFunc_extern Tryz.prog 201 _ (ReflectliteType.method ReflectliteType.elem) Tryz.func201 (by kernel_rfl) (by kernel_rfl) (by kernel_rfl) (by kernel_rfl)
  have h38 := @run_callFunc_extern Tryz.prog 202 _ (ReflectliteType.relation "Implements" ReflectliteType.implements_) Tryz.func202 (by kernel_rfl) (by kernel_rfl) (by kernel_rfl) (by kernel_rfl)
  have h10 := @run_callFunc_extern Tryz.prog 156 _ ReflectliteType.typeOf Tryz.func156 (by kernel_rfl) (by kernel_rfl) (by kernel_rfl) (by kernel_rfl)
  have h35 := @run_callFunc_extern Tryz.prog 199 _ (ReflectliteType.relation "AssignableTo" ReflectliteType.assignableTo) Tryz.func199 (by kernel_rfl) (by kernel_rfl) (by kernel_rfl) (by kernel_rfl)
  have mA := er_mAssignable
  have f6 := er_valueOfPP
  have f7 := er_typePP
  have mK := er_mKind
  have mE := er_mElem
  have mI := er_mImplements
  have k27 := er_kindPP
  have k25 := er_kindP
  have e27 := er_elemPP
  have i25 := er_implementsP
  have n8 := er_isNilPP ⟨w.heap.size, 0, none⟩ t ((w.alloc (.cells #[.pointer (some t)] 221)).alloc (.cells #[.pointer (some ⟨21, 221, none⟩), .pointer (some ⟨w.heap.size, 0, none⟩), .int .u64 150] 241)) (by simp)
  have hg2 : ((w.alloc (.cells #[.pointer (some t)] 221)).alloc (.cells #[.pointer (some ⟨21, 221, none⟩), .pointer (some ⟨w.heap.size, 0, none⟩), .int .u64 150] 241)).cell? ⟨17, 0, none⟩ = some (.iface 256 (.agg #[.pointer (some ⟨21, 71, none⟩)])) := by
    have hlt : 17 < w.heap.size := block_lt_of_cell hg
    rw [World.cell?_alloc_lt _ _ ⟨17, 0, none⟩ (by simp; omega), World.cell?_alloc_lt _ _ ⟨17, 0, none⟩ hlt]; exact hg
  have tO := er_typeOf
  have aE := er_assignableE
  have nA := er_noAsE
  have uE := er_noUnwrapE
  have vE := er_noUnwrapsE
  go_enter Tryz.func140, Tryz.ntmps140
  go_wp2
  refine wp_loop_rounds 1 ?_
  rw [rounds_succ]
  go_wp2
  go_ret
  exact ⟨rfl, rfl⟩
set_option maxRecDepth 100000 in
set_option maxHeartbeats 4000000 in
theorem as_hit (e t : Addr) (old : Value) (w : World) (hg : w.cell? ⟨17, 0, none⟩ = some (.iface 256 (.agg #[.pointer (some ⟨21, 71, none⟩)]))) (ht0 : w.cell? t = some old) (hf0 : w.frozen? t = false) :
    Calls Tryz.prog 140 #[.iface 219 (.pointer (some e)), .iface 221 (.pointer (some t))] w fun ev w' => ev = .returned (.bool true) ∧ w' = ((asWorld t w).alloc (.cells #[.pointer (some e)] 219)).setCell t (.pointer (some e)) := by
  have h6 := @run_callFunc_extern Tryz.prog 152 _ (fun args => ReflectliteValue.unpack (args.getD 0 (.tuple #[]))) Tryz.func152 (by kernel_rfl) (by kernel_rfl) (by kernel_rfl) (by kernel_rfl)
  have h7 := @run_callFunc_extern Tryz.prog 153 _ (ReflectliteValue.methodAny (ReflectliteValue.valueError "reflectlite.Value.Type" 0) (fun t _ _ _ => ReflectliteType.toType t)) Tryz.func153 (by kernel_rfl) (by kernel_rfl) (by kernel_rfl) (by kernel_rfl)
  have h8 := @run_callFunc_extern Tryz.prog 154 _ (ReflectliteValue.method (ReflectliteValue.valueError "reflectlite.Value.IsNil" 0) ReflectliteValue.isNil) Tryz.func154 (by kernel_rfl) (by kernel_rfl) (by kernel_rfl) (by kernel_rfl)
  have h27 := @run_callFunc_extern Tryz.prog 189 _ (ReflectliteType.abiMethod fun t => do pure (.int .u8 (← Rtype.kind t))) Tryz.func189 (by kernel_rfl) (by kernel_rfl) (by kernel_rfl) (by kernel_rfl)
  have h37 := @run_callFunc_extern Tryz.prog 201 _ (ReflectliteType.method ReflectliteType.elem) Tryz.func201 (by kernel_rfl) (by kernel_rfl) (by kernel_rfl) (by kernel_rfl)
  have h38 := @run_callFunc_extern Tryz.prog 202 _ (ReflectliteType.relation "Implements" ReflectliteType.implements_) Tryz.func202 (by kernel_rfl) (by kernel_rfl) (by kernel_rfl) (by kernel_rfl)
  have h10 := @run_callFunc_extern Tryz.prog 156 _ ReflectliteType.typeOf Tryz.func156 (by kernel_rfl) (by kernel_rfl) (by kernel_rfl) (by kernel_rfl)
  have h35 := @run_callFunc_extern Tryz.prog 199 _ (ReflectliteType.relation "AssignableTo" ReflectliteType.assignableTo) Tryz.func199 (by kernel_rfl) (by kernel_rfl) (by kernel_rfl) (by kernel_rfl)
  have mA := er_mAssignable
  have f6 := er_valueOfPP
  have f7 := er_typePP
  have mK := er_mKind
  have mE := er_mElem
  have mI := er_mImplements
  have k27 := er_kindPP
  have k25 := er_kindP
  have e27 := er_elemPP
  have i25 := er_implementsP
  have n8 := er_isNilPP ⟨w.heap.size, 0, none⟩ t ((w.alloc (.cells #[.pointer (some t)] 221)).alloc (.cells #[.pointer (some ⟨21, 221, none⟩), .pointer (some ⟨w.heap.size, 0, none⟩), .int .u64 150] 241)) (by simp)
  have hg2 : ((w.alloc (.cells #[.pointer (some t)] 221)).alloc (.cells #[.pointer (some ⟨21, 221, none⟩), .pointer (some ⟨w.heap.size, 0, none⟩), .int .u64 150] 241)).cell? ⟨17, 0, none⟩ = some (.iface 256 (.agg #[.pointer (some ⟨21, 71, none⟩)])) := by
    have hlt : 17 < w.heap.size := block_lt_of_cell hg
    rw [World.cell?_alloc_lt _ _ ⟨17, 0, none⟩ (by simp; omega), World.cell?_alloc_lt _ _ ⟨17, 0, none⟩ hlt]; exact hg
  have h11 := @run_callFunc_extern Tryz.prog 163 _ (ReflectliteValue.method (ReflectliteValue.valueError "reflectlite.Value.Elem" 0) ReflectliteValue.elem) Tryz.func163 (by kernel_rfl) (by kernel_rfl) (by kernel_rfl) (by kernel_rfl)
  have h12 := @run_callFunc_extern Tryz.prog 164 _ ReflectliteValue.set Tryz.func164 (by kernel_rfl) (by kernel_rfl) (by kernel_rfl) (by kernel_rfl)
  have tO := er_typeOfP
  have a25 := er_assignableP
  have v25 := er_valueOfP
  have htl := block_lt_of_cell ht0
  have el := er_elemVPP ⟨w.heap.size, 0, none⟩ t (asWorld t w) (by unfold asWorld; rw [World.cell?_alloc_lt _ _ ⟨w.heap.size, 0, none⟩ (by simp; omega)]; simp)
  have st := er_setP t ⟨w.heap.size + 1 + 1 + 1, 0, none⟩ e old ((asWorld t w).alloc (.cells #[.pointer (some e)] 219))
    (by unfold asWorld; rw [World.cell?_alloc_at _ _ _ _ (by simp)]; rfl)
    (by unfold asWorld; rw [World.cell?_alloc_lt _ _ t (by simp; omega), World.cell?_alloc_lt _ _ t (by simp; omega), World.cell?_alloc_lt _ _ t (by simp; omega), World.cell?_alloc_lt _ _ t htl]; exact ht0)
    (by unfold asWorld; rw [World.frozen?_alloc_old _ _ t (by simp; omega), World.frozen?_alloc_old _ _ t (by simp; omega), World.frozen?_alloc_old _ _ t (by simp; omega), World.frozen?_alloc_old _ _ t (Nat.ne_of_lt htl)]; exact hf0)
  unfold asWorld at el st ⊢
  go_enter Tryz.func140, Tryz.ntmps140
  go_wp2
  refine wp_loop_rounds 1 ?_
  rw [rounds_succ]
  go_wp2
  go_ret
  exact ⟨rfl, rfl⟩
end Go.Proofs.YtgbafjmklefoiaaGreatDoor
end
section
namespace Go.Proofs.YtgbafjmklefoiaaGreatDoor
open Go.RowKit
theorem er_cellAt {w : World} {g : Nat} {cs : Array Value} {T : TypeId} {fr : Nat × Nat} (h : w.heap[g]? = some (.cells cs T fr)) (j : Nat) (v : Value) (hv : cs[j]? = some v) : w.cell? ⟨g, j, none⟩ = some v := by
  simp [World.cell?, h, hv]
theorem er_cellNew (w : World) (v : Value) (t : TypeId) : (w.alloc (.cells #[v] t)).cell? ⟨w.heap.size, 0, none⟩ = some v := er_cellAt (heap_alloc_new _ _) 0 v rfl
theorem er_al {W w : World} (h : Below W.heap.size W w) (o : Obj) : Below W.heap.size W (w.alloc o) := h.alloc h.size o
/-- the blocks of the sixteen sentinels' variables -/
def eg (k : Nat) : Nat := [1, 0, 5, 2, 3, 6, 7, 8, 9, 10, 11, 12, 13, 14, 15, 16].getD k 0
/-- what a law keeps of the sentinels: each variable holds its own errorString -/
structure Errs (W : World) (A : Nat → Addr) : Prop where
  glob : ∀ k, k < 16 → W.cell? ⟨eg k, 0, none⟩ = some (.iface 282 (.pointer (some (A k))))
  block : ∀ k, k < 16 → ∃ c t, W.heap[(A k).block]? = some (.cells c t (0, 0))
  inj : ∀ i j, i < 16 → j < 16 → A i = A j → i = j
  ty : W.cell? ⟨17, 0, none⟩ = some (.iface 256 (.agg #[.pointer (some ⟨21, 71, none⟩)]))
theorem Errs.below {W W' : World} {A : Nat → Addr} (h : Errs W A) (k : Below W.heap.size W W') : Errs W' A where
  glob i hi := (k.cell (block_lt_of_cell (h.glob i hi))).trans (h.glob i hi)
  block i hi := by
    obtain ⟨c, t, hb⟩ := h.block i hi
    exact ⟨c, t, (k.block _ (Array.getElem?_eq_some_iff.1 hb).1).trans hb⟩
  inj := h.inj
  ty := (k.cell (block_lt_of_cell h.ty)).trans h.ty
/-- what the program hands out as an error: its number, its place -/
inductive ErrV (W : World) (A : Nat → Addr) : Value → Int → Option Int → Prop
  | no : ErrV W A .nilIface 0 none
  | plain (k : Nat) : k < 16 → ErrV W A (.iface 282 (.pointer (some (A k)))) ((k : Int) + 1) none
  | fault (k b o : Nat) (n : Int) : k < 16 → W.cell? ⟨b, o, none⟩ = some (.iface 282 (.pointer (some (A k)))) → W.cell? ⟨b, o + 1, none⟩ = some (.int .i64 n) →
      ErrV W A (.iface 219 (.pointer (some ⟨b, o, none⟩))) ((k : Int) + 1) (some n)
theorem ErrV.below {W W' : World} {A : Nat → Addr} {v : Value} {c : Int} {p : Option Int} (h : ErrV W A v c p) (k : Below W.heap.size W W') : ErrV W' A v c p := by
  cases h with
  | no => exact .no
  | plain i hi => exact .plain i hi
  | fault i b o n hi h1 h2 => exact .fault i b o n hi ((k.cell (block_lt_of_cell h1)).trans h1) ((k.cell (block_lt_of_cell h2)).trans h2)
theorem is_err {W : World} {A : Nat → Addr} (hE : Errs W A) {v : Value} {c : Int} {p : Option Int} (h : ErrV W A v c p) (j : Nat) (hj : j < 16) :
    Calls Tryz.prog 141 #[v, .iface 282 (.pointer (some (A j)))] W fun e w' => e = .returned (.bool (decide (c = (j : Int) + 1))) ∧ w' = W := by
  cases h with
  | no => exact (is_nil _ W).mono fun e w' ⟨h1, h2⟩ => ⟨by rw [h1, decide_eq_false (by omega)], h2⟩
  | plain k hk =>
    by_cases hjk : k = j
    · subst hjk
      exact (is_same _ W).mono fun e w' ⟨h1, h2⟩ => ⟨by rw [h1, decide_eq_true rfl], h2⟩
    · obtain ⟨ca, ta, ha⟩ := hE.block k hk
      obtain ⟨cb, tb, hb⟩ := hE.block j hj
      exact (is_other _ _ ca cb ta tb W (fun e => hjk (hE.inj _ _ hk hj e)) ha hb).mono fun e w' ⟨h1, h2⟩ => ⟨by rw [h1, decide_eq_false (by omega)], h2⟩
  | fault k b o n hk h1 h2 =>
    by_cases hjk : k = j
    · subst hjk
      exact (is_fault_same b o _ W h1).mono fun e w' ⟨h1, h2⟩ => ⟨by rw [h1, decide_eq_true rfl], h2⟩
    · obtain ⟨ca, ta, ha⟩ := hE.block k hk
      obtain ⟨cb, tb, hb⟩ := hE.block j hj
      exact (is_fault_other b o _ _ ca cb ta tb W h1 (fun e => hjk (hE.inj _ _ hk hj e)) ha hb).mono fun e w' ⟨h1, h2⟩ => ⟨by rw [h1, decide_eq_false (by omega)], h2⟩
theorem cells16 (A : Nat → Addr) (t : Nat) (ht : t < 16) : (#[.iface 282 (.pointer (some (A 0))), .iface 282 (.pointer (some (A 1))), .iface 282 (.pointer (some (A 2))), .iface 282 (.pointer (some (A 3))), .iface 282 (.pointer (some (A 4))), .iface 282 (.pointer (some (A 5))), .iface 282 (.pointer (some (A 6))), .iface 282 (.pointer (some (A 7))), .iface 282 (.pointer (some (A 8))), .iface 282 (.pointer (some (A 9))), .iface 282 (.pointer (some (A 10))), .iface 282 (.pointer (some (A 11))), .iface 282 (.pointer (some (A 12))), .iface 282 (.pointer (some (A 13))), .iface 282 (.pointer (some (A 14))), .iface 282 (.pointer (some (A 15)))] : Array Value)[t]? = some (.iface 282 (.pointer (some (A t)))) := by
  match t, ht with
  | 0, _ => rfl
  | 1, _ => rfl
  | 2, _ => rfl
  | 3, _ => rfl
  | 4, _ => rfl
  | 5, _ => rfl
  | 6, _ => rfl
  | 7, _ => rfl
  | 8, _ => rfl
  | 9, _ => rfl
  | 10, _ => rfl
  | 11, _ => rfl
  | 12, _ => rfl
  | 13, _ => rfl
  | 14, _ => rfl
  | 15, _ => rfl
  | n + 16, h => omega
set_option maxRecDepth 100000 in
set_option maxHeartbeats 4000000 in
theorem code_iface {W : World} {A : Nat → Addr} (hE : Errs W A) (u : TypeId) (x : Value) (k : Nat) (hk : k < 16) {p : Option Int} (h : ErrV W A (.iface u x) ((k : Int) + 1) p) :
    Calls Tryz.prog 130 #[.iface u x] W fun e w' => e = .returned (.int .i64 ((k : Int) + 1)) ∧ Below W.heap.size W w' := by
  have g0 : W.cell? ⟨1, 0, none⟩ = some (.iface 282 (.pointer (some (A 0)))) := hE.glob 0 (by decide)
  have g1 : W.cell? ⟨0, 0, none⟩ = some (.iface 282 (.pointer (some (A 1)))) := hE.glob 1 (by decide)
  have g2 : W.cell? ⟨5, 0, none⟩ = some (.iface 282 (.pointer (some (A 2)))) := hE.glob 2 (by decide)
  have g3 : W.cell? ⟨2, 0, none⟩ = some (.iface 282 (.pointer (some (A 3)))) := hE.glob 3 (by decide)
  have g4 : W.cell? ⟨3, 0, none⟩ = some (.iface 282 (.pointer (some (A 4)))) := hE.glob 4 (by decide)
  have g5 : W.cell? ⟨6, 0, none⟩ = some (.iface 282 (.pointer (some (A 5)))) := hE.glob 5 (by decide)
  have g6 : W.cell? ⟨7, 0, none⟩ = some (.iface 282 (.pointer (some (A 6)))) := hE.glob 6 (by decide)
  have g7 : W.cell? ⟨8, 0, none⟩ = some (.iface 282 (.pointer (some (A 7)))) := hE.glob 7 (by decide)
  have g8 : W.cell? ⟨9, 0, none⟩ = some (.iface 282 (.pointer (some (A 8)))) := hE.glob 8 (by decide)
  have g9 : W.cell? ⟨10, 0, none⟩ = some (.iface 282 (.pointer (some (A 9)))) := hE.glob 9 (by decide)
  have g10 : W.cell? ⟨11, 0, none⟩ = some (.iface 282 (.pointer (some (A 10)))) := hE.glob 10 (by decide)
  have g11 : W.cell? ⟨12, 0, none⟩ = some (.iface 282 (.pointer (some (A 11)))) := hE.glob 11 (by decide)
  have g12 : W.cell? ⟨13, 0, none⟩ = some (.iface 282 (.pointer (some (A 12)))) := hE.glob 12 (by decide)
  have g13 : W.cell? ⟨14, 0, none⟩ = some (.iface 282 (.pointer (some (A 13)))) := hE.glob 13 (by decide)
  have g14 : W.cell? ⟨15, 0, none⟩ = some (.iface 282 (.pointer (some (A 14)))) := hE.glob 14 (by decide)
  have g15 : W.cell? ⟨16, 0, none⟩ = some (.iface 282 (.pointer (some (A 15)))) := hE.glob 15 (by decide)
  have HE := Bx.mk hE; have HV := Bx.mk h
  clear hE h
  go_enter Tryz.func130, Tryz.ntmps130
  go_wp2_with fail
  have w0 := er_cellAt (heap_alloc_new W (.cells #[.iface 282 (.pointer (some (A 0))), .iface 282 (.pointer (some (A 1))), .iface 282 (.pointer (some (A 2))), .iface 282 (.pointer (some (A 3))), .iface 282 (.pointer (some (A 4))), .iface 282 (.pointer (some (A 5))), .iface 282 (.pointer (some (A 6))), .iface 282 (.pointer (some (A 7))), .iface 282 (.pointer (some (A 8))), .iface 282 (.pointer (some (A 9))), .iface 282 (.pointer (some (A 10))), .iface 282 (.pointer (some (A 11))), .iface 282 (.pointer (some (A 12))), .iface 282 (.pointer (some (A 13))), .iface 282 (.pointer (some (A 14))), .iface 282 (.pointer (some (A 15)))] 224))
  have b0 := (Below.refl W.heap.size W).alloc (Nat.le_refl _) (.cells #[.iface 282 (.pointer (some (A 0))), .iface 282 (.pointer (some (A 1))), .iface 282 (.pointer (some (A 2))), .iface 282 (.pointer (some (A 3))), .iface 282 (.pointer (some (A 4))), .iface 282 (.pointer (some (A 5))), .iface 282 (.pointer (some (A 6))), .iface 282 (.pointer (some (A 7))), .iface 282 (.pointer (some (A 8))), .iface 282 (.pointer (some (A 9))), .iface 282 (.pointer (some (A 10))), .iface 282 (.pointer (some (A 11))), .iface 282 (.pointer (some (A 12))), .iface 282 (.pointer (some (A 13))), .iface 282 (.pointer (some (A 14))), .iface 282 (.pointer (some (A 15)))] 224)
  generalize W.alloc (.cells #[.iface 282 (.pointer (some (A 0))), .iface 282 (.pointer (some (A 1))), .iface 282 (.pointer (some (A 2))), .iface 282 (.pointer (some (A 3))), .iface 282 (.pointer (some (A 4))), .iface 282 (.pointer (some (A 5))), .iface 282 (.pointer (some (A 6))), .iface 282 (.pointer (some (A 7))), .iface 282 (.pointer (some (A 8))), .iface 282 (.pointer (some (A 9))), .iface 282 (.pointer (some (A 10))), .iface 282 (.pointer (some (A 11))), .iface 282 (.pointer (some (A 12))), .iface 282 (.pointer (some (A 13))), .iface 282 (.pointer (some (A 14))), .iface 282 (.pointer (some (A 15)))] 224) = W1 at w0 b0 ⊢
  have W0 := Bx.mk w0; have B0 := Bx.mk b0; clear w0 b0 g0 g1 g2 g3 g4 g5 g6 g7 g8 g9 g10 g11 g12 g13 g14 g15
  go_loopw [4, 5] (fun n i wr => ∃ t : Nat, t ≤ 16 ∧ i = .int .i64 (t : Int) ∧ n = .int .i64 (if t ≤ k then -1 else (k : Int) + 1) ∧ wr = W1) (fun _ i _ => 16 - (intOf i).toNat)
  case atStart => exact ⟨0, by omega, rfl, by simp, rfl⟩
  case round =>
    obtain ⟨t, ht, rfl, rfl, rfl⟩ := hrel
    by_cases hlt : t < 16
    · have c0 : wr.cell? ⟨W.heap.size, t, none⟩ = some (.iface 282 (.pointer (some (A t)))) := W0.out t _ (cells16 A t hlt)
      have hc := is_err (HE.out.below B0.out) (HV.out.below B0.out) t hlt
      have HC := Bx.mk hc; clear hc
      generalize hn : (if t ≤ k then (-1 : Int) else (k : Int) + 1) = n
      have HN := Bx.mk hn; clear hn
      go_wp2_with fail
      refine HC.out.mono ?_
      rintro e w2 ⟨rfl, rfl⟩
      by_cases htk : t = k
      · subst htk
        rw [decide_eq_true rfl]
        obtain rfl : n = -1 := by have := HN.out; simp at this; exact this.symm
        go_wp2_with fail
        go_roundw
        case rel => exact ⟨t + 1, by omega, by go_num, by rw [if_neg (by omega)], trivial⟩
        case measure => simp [intOf]; omega
      · rw [decide_eq_false (by omega)]
        go_wp2_with fail
        go_roundw
        case rel => exact ⟨t + 1, by omega, by go_num, (by rw [← HN.out]; congr 1; by_cases h : t ≤ k; exact (if_pos h).trans (if_pos (by omega)).symm; exact (if_neg h).trans (if_neg (by omega)).symm), trivial⟩
        case measure => simp [intOf]; omega
    · obtain rfl : t = 16 := by omega
      have hn : (if 16 ≤ k then (-1 : Int) else (k : Int) + 1) = (k : Int) + 1 := if_neg (by omega)
      rw [hn]
      go_wp2_with fail
      go_ret
      exact ⟨rfl, B0.out⟩
/-- cartularylaw01.Code -/
theorem code_any {W : World} {A : Nat → Addr} (hE : Errs W A) {v : Value} {c : Int} {p : Option Int} (h : ErrV W A v c p) :
    Calls Tryz.prog 130 #[v] W fun e w' => e = .returned (.int .i64 c) ∧ Below W.heap.size W w' := by
  have h' := h
  cases h with
  | no =>
    clear hE h'
    go_enter Tryz.func130, Tryz.ntmps130
    go_wp2_with fail
    go_ret
    exact ⟨rfl, Below.refl _ _⟩
  | plain k hk => exact code_iface hE _ _ k hk h'
  | fault k b o n hk _ _ => exact code_iface hE _ _ k hk h'
set_option maxRecDepth 100000 in
set_option maxHeartbeats 4000000 in
/-- cartularylaw01.At -/
theorem at_any {W : World} {A : Nat → Addr} (hE : Errs W A) {v : Value} {c : Int} {p : Option Int} (h : ErrV W A v c p) :
    Calls Tryz.prog 129 #[v] W fun e w' => e = .returned (.tuple #[.int .i64 (p.getD 0), .bool p.isSome]) ∧ Below W.heap.size W w' := by
  have h0 := h
  cases h with
  | no =>
    have h1 := as_nil (.iface 221 (.pointer (some ⟨W.heap.size, 0, none⟩))) (W.alloc (.cells #[.pointer none] 219))
    have H1 := Bx.mk h1; have HE := Bx.mk hE; clear h1 hE h0
    go_enter Tryz.func129, Tryz.ntmps129
    go_wp2_with fail
    refine H1.out.mono ?_
    rintro e w2 ⟨rfl, rfl⟩
    go_wp2_with fail
    go_ret2
    exact ⟨rfl, (Below.refl _ _).alloc (Nat.le_refl _) _⟩
  | plain k hk =>
    have hb := (Below.refl W.heap.size W).alloc (Nat.le_refl _) (.cells #[.pointer none] 219)
    have h1 := as_miss (A k) ⟨W.heap.size, 0, none⟩ (W.alloc (.cells #[.pointer none] 219)) (hE.below hb).ty
    have H1 := Bx.mk h1; have HE := Bx.mk hE; clear h1 hE h0 hb
    go_enter Tryz.func129, Tryz.ntmps129
    go_wp2_with fail
    refine H1.out.mono ?_
    rintro e w2 ⟨rfl, hw2⟩
    have HW2 := Bx.mk hw2; clear hw2
    go_wp2_with fail
    go_ret2
    refine ⟨rfl, ?_⟩
    rw [HW2.out]
    unfold asWorld
    exact er_al (er_al (er_al (er_al (Below.refl _ _) _) _) _) _
  | fault k b o n hk h1 h2 =>
    have hlt := block_lt_of_cell h2
    have hb := (Below.refl W.heap.size W).alloc (Nat.le_refl _) (.cells #[.pointer none] 219)
    have ha := as_hit ⟨b, o, none⟩ ⟨W.heap.size, 0, none⟩ (.pointer none) (W.alloc (.cells #[.pointer none] 219)) (hE.below hb).ty (er_cellNew _ _ _) (by simp)
    have hk : Below W.heap.size W (((asWorld ⟨W.heap.size, 0, none⟩ (W.alloc (.cells #[.pointer none] 219))).alloc (.cells #[.pointer (some ⟨b, o, none⟩)] 219)).setCell ⟨W.heap.size, 0, none⟩ (.pointer (some ⟨b, o, none⟩))) := by
      unfold asWorld
      exact (er_al (er_al (er_al (er_al (er_al (Below.refl _ _) _) _) _) _) _).setCell (Nat.le_refl _) _
    have hc : (((asWorld ⟨W.heap.size, 0, none⟩ (W.alloc (.cells #[.pointer none] 219))).alloc (.cells #[.pointer (some ⟨b, o, none⟩)] 219)).setCell ⟨W.heap.size, 0, none⟩ (.pointer (some ⟨b, o, none⟩))).cell? ⟨W.heap.size, 0, none⟩ = some (.pointer (some ⟨b, o, none⟩)) := by
      unfold asWorld
      refine World.cell?_setCell_same _ _ _ (u := .pointer none) ?_
      rw [World.cell?_alloc_lt _ _ _ (by simp; omega), World.cell?_alloc_lt _ _ _ (by simp; omega), World.cell?_alloc_lt _ _ _ (by simp; omega), World.cell?_alloc_lt _ _ _ (by simp)]
      exact er_cellNew _ _ _
    generalize ((asWorld ⟨W.heap.size, 0, none⟩ (W.alloc (.cells #[.pointer none] 219))).alloc (.cells #[.pointer (some ⟨b, o, none⟩)] 219)).setCell ⟨W.heap.size, 0, none⟩ (.pointer (some ⟨b, o, none⟩)) = W2 at ha hk hc
    have hn : W2.cell? ⟨b, o + 1, none⟩ = some (.int .i64 n) := (hk.cell hlt).trans h2
    have H1 := Bx.mk ha; have HE := Bx.mk hE; have HK := Bx.mk hk; clear ha hE h0 hb hk h1 h2
    go_enter Tryz.func129, Tryz.ntmps129
    go_wp2_with fail
    refine H1.out.mono ?_
    rintro e w2 ⟨rfl, rfl⟩
    go_wp2_with fail
    go_ret2
    exact ⟨rfl, HK.out⟩
/-- cartularylaw01.Is -/
theorem isE_any {W : World} {A : Nat → Addr} (hE : Errs W A) {v : Value} {c : Int} {p : Option Int} (h : ErrV W A v c p) (q : Int) :
    Calls Tryz.prog 85 #[v, .int .i64 q] W fun e w' => e = .returned (.bool (decide (c = q) && (p.getD 0 == 0 || !p.isSome))) ∧ Below W.heap.size W w' := by
  have h1 := at_any hE h
  have h2 := fun w (k : Below W.heap.size W w) => code_any (hE.below k) (h.below k)
  have H1 := Bx.mk h1; have H2 := Bx.mk h2; clear h1 h2 hE h
  generalize hpn : p.getD 0 = n at *
  generalize hps : p.isSome = s at *
  have HN := Bx.mk hpn; have HS := Bx.mk hps; clear hpn hps
  go_enter Tryz.func85, Tryz.ntmps85
  go_wp2_with fail
  refine H1.out.mono ?_
  rintro e w1 ⟨rfl, hb⟩
  have HB := Bx.mk hb; clear hb
  go_wp2_with fail
  refine (H2.out _ HB.out).mono ?_
  rintro e w2 ⟨rfl, hb⟩
  have HB2 := Bx.mk hb; clear hb
  go_wp2_with fail
  all_goals go_ret
  all_goals refine ⟨?_, HB.out.trans (HB2.out.mono HB.out.size)⟩
  all_goals simp_all
end Go.Proofs.YtgbafjmklefoiaaGreatDoor
end
section
namespace Go.Proofs.YtgbafjmklefoiaaGreatDoor
set_option maxRecDepth 100000
open Go.RowKit
set_option maxHeartbeats 1600000 in
/-- cartularylaw01.IsAt -/
theorem isAt_any {W : World} {A : Nat → Addr} (hE : Errs W A) {v : Value} {c : Int} {p : Option Int} (h : ErrV W A v c p) (q at' : Int) :
    Calls Tryz.prog 86 #[v, .int .i64 q, .int .i64 at'] W fun e w' => e = .returned (.bool (if q = 0 then decide (c = 0) else decide (c = q ∧ p = some at'))) ∧ Below W.heap.size W w' := by
  by_cases hq : q = 0
  · subst hq
    rw [if_pos rfl]
    cases h with
    | no =>
      clear hE
      go_enter Tryz.func86, Tryz.ntmps86
      go_wp2_with fail
      go_ret
      exact ⟨rfl, Below.refl _ _⟩
    | plain k hk =>
      clear hE
      rw [decide_eq_false (by omega)]
      go_enter Tryz.func86, Tryz.ntmps86
      go_wp2_with fail
      go_ret
      exact ⟨rfl, Below.refl _ _⟩
    | fault k b o n hk h1 h2 =>
      clear hE h1 h2
      rw [decide_eq_false (by omega)]
      go_enter Tryz.func86, Tryz.ntmps86
      go_wp2_with fail
      go_ret
      exact ⟨rfl, Below.refl _ _⟩
  · rw [if_neg hq]
    have h1 := code_any hE h
    have h2 := fun w (k : Below W.heap.size W w) => at_any (hE.below k) (h.below k)
    have H1 := Bx.mk h1; have H2 := Bx.mk h2
    clear h1 h2 hE h
    by_cases hc : c = q
    · subst hc
      generalize hpn : p.getD 0 = n at H2
      generalize hps : p.isSome = s at H2
      have hr : decide (c = c ∧ p = some at') = (s && decide (n = at')) := by
        cases p with
        | none => simp at hps; subst hps; simp
        | some y => simp at hps hpn; subst hps hpn; simp
      rw [hr]
      clear hr hpn hps
      go_enter Tryz.func86, Tryz.ntmps86
      go_wp2_with fail
      refine H1.out.mono ?_
      rintro e w1 ⟨rfl, hb⟩
      have B1 := Bx.mk hb; clear hb
      go_wp2_with fail
      refine (H2.out w1 B1.out).mono ?_
      rintro e w2 ⟨rfl, hb⟩
      have B2 := Bx.mk (B1.out.trans (hb.mono B1.out.size)); clear hb
      cases s with
      | true =>
        go_wp2_with fail
        go_ret
        exact ⟨by simp; rfl, B2.out⟩
      | false =>
        go_wp2_with fail
        go_ret
        exact ⟨rfl, B2.out⟩
    · rw [decide_eq_false (fun h => hc h.1)]
      clear H2
      have hc' : (c != q) = true := by simpa using hc
      go_enter Tryz.func86, Tryz.ntmps86
      go_wp2_with fail
      refine H1.out.mono ?_
      rintro e w1 ⟨rfl, hb⟩
      have B1 := Bx.mk hb; clear hb
      go_wp2_with fail
      go_ret
      exact ⟨rfl, B1.out⟩
set_option maxHeartbeats 1600000 in
/-- cartularylaw01.Same -/
theorem same_err {W : World} {A : Nat → Addr} (hE : Errs W A) {v : Value} {c : Int} {p : Option Int} (h : ErrV W A v c p) (fc fa : Int) :
    Calls Tryz.prog 15 #[v, .agg #[.int .i64 fc, .int .i64 fa]] W fun e w' =>
      e = .returned (.bool (if fa = -1 then decide (c = fc) && (p.getD 0 == 0 || !p.isSome) else if fc = 0 then decide (c = 0) else decide (c = fc ∧ p = some fa))) ∧ Below W.heap.size W w' := by
  have kb := er_al (Below.refl W.heap.size W) (.cells #[.int .i64 fc, .int .i64 fa] 75)
  by_cases hf : fa = -1
  · subst hf
    rw [if_pos rfl]
    have h1 := isE_any (hE.below kb) (h.below kb) fc
    have H1 := Bx.mk h1; have KB := Bx.mk kb; clear h1 hE h kb
    go_enter Tryz.func15, Tryz.ntmps15
    go_wp2_with fail
    refine H1.out.mono ?_
    rintro e w1 ⟨rfl, hb⟩
    have B1 := Bx.mk (KB.out.trans (hb.mono KB.out.size)); clear hb
    go_wp2_with fail
    go_ret
    exact ⟨by simp, B1.out⟩
  · rw [if_neg hf]
    have h1 := isAt_any (hE.below kb) (h.below kb) fc fa
    have hf' : (fa == -1) = false := by simpa using hf
    generalize (if fc = 0 then decide (c = 0) else decide (c = fc ∧ p = some fa)) = r at h1 ⊢
    have H1 := Bx.mk h1; have KB := Bx.mk kb; clear h1 hE h kb
    go_enter Tryz.func15, Tryz.ntmps15
    go_wp2_with fail
    refine H1.out.mono ?_
    rintro e w1 ⟨rfl, hb⟩
    have B1 := Bx.mk (KB.out.trans (hb.mono KB.out.size)); clear hb
    go_wp2_with fail
    go_ret
    exact ⟨rfl, B1.out⟩
end Go.Proofs.YtgbafjmklefoiaaGreatDoor
end
