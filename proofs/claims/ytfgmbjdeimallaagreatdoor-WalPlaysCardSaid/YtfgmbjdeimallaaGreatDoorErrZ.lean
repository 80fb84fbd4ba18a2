/- The contracts of errors.As at a target of type *api.Class and of errors.Is at a target that is an api.Class, for errors that wrap a class once in an api.Within; out of them the contract of consistoryhelp.Class. Turned from the worked proof ToyasAs. -/
import Derived.Test.YtfgmbjdeimallaaGreatDoorProg
import Derived.WalkKit
import Derived.LaidEql
import Derived.Stop.Asserts
import Derived.Lib.Hide
import Derived.RowKitTokens
namespace Go.Proofs.YtfgmbjdeimallaaGreatDoor
open Go.RowKit Go.Extern.Stop Go.Stop Go.Extern

theorem Tryz.valueOfPC (t : Addr) (w : World) : (ReflectliteValue.unpack (.iface 94 (.pointer (some t)))).run Tryz.prog w
    = .ok (.agg #[.pointer (some ⟨1, 94, none⟩), .pointer (some ⟨w.heap.size, 0, none⟩), .int .u64 150]) (w.alloc (.cells #[.pointer (some t)] 94)) := by kernel_rfl
theorem Tryz.typePC (a : Addr) (w : World) : (ReflectliteValue.methodAny (ReflectliteValue.valueError "reflectlite.Value.Type" 0) (fun t _ _ _ => ReflectliteType.toType t) #[.agg #[.pointer (some ⟨1, 94, none⟩), .pointer (some a), .int .u64 150]]).run Tryz.prog w
    = .ok (.iface 140 (.agg #[.pointer (some ⟨1, 94, none⟩)])) w := by kernel_rfl
theorem Tryz.methodKind (h : Value) (w : World) : (Go.method 323 140 (.agg #[h]) "Kind").run Tryz.prog w = .ok (128, h) w := by kernel_rfl
theorem Tryz.kindPC (w : World) : ((ReflectliteType.abiMethod fun t => (fun a : Nat => Value.int IntKind.u8 (a : Int)) <$> Rtype.kind t) #[.pointer (some ⟨1, 94, none⟩)]).run Tryz.prog w = .ok (.int .u8 22) w := by kernel_rfl
theorem Tryz.kindC (w : World) : ((ReflectliteType.abiMethod fun t => (fun a : Nat => Value.int IntKind.u8 (a : Int)) <$> Rtype.kind t) #[.pointer (some ⟨1, 75, none⟩)]).run Tryz.prog w = .ok (.int .u8 2) w := by kernel_rfl
theorem rlm (z : Sem Value) (f : TypeId → Addr → Nat → Nat → Sem Value) (v : Value) :
    ReflectliteValue.method z f #[v] = (do match ← ReflectliteValue.parts v with | none => z | some (t, a, fl) => f t a fl (fl % 32)) := rfl
theorem Tryz.partsPC (a : Addr) (w : World) : (ReflectliteValue.parts (.agg #[.pointer (some ⟨1, 94, none⟩), .pointer (some a), .int .u64 150])).run Tryz.prog w = .ok (some (94, a, 150)) w := by kernel_rfl
theorem Tryz.isNilPC (a p : Addr) (W : World) (ha : W.cell? a = some (.pointer (some p))) :
    (ReflectliteValue.method (ReflectliteValue.valueError "reflectlite.Value.IsNil" 0) ReflectliteValue.isNil #[.agg #[.pointer (some ⟨1, 94, none⟩), .pointer (some a), .int .u64 150]]).run Tryz.prog W = .ok (.bool false) W := by
  rw [rlm]
  simp only [Sem.run_bind, Tryz.partsPC, Result.andThen]
  simp [ReflectliteValue.isNil, loadVar, isAgg, underlying, Tryz.underlying94, ha, Result.andThen]
theorem Tryz.methodElem (h : Value) (w : World) : (Go.method 323 140 (.agg #[h]) "Elem").run Tryz.prog w = .ok (143, .agg #[h]) w := by kernel_rfl
theorem Tryz.methodImplements (h : Value) (w : World) : (Go.method 323 140 (.agg #[h]) "Implements").run Tryz.prog w = .ok (144, .agg #[h]) w := by kernel_rfl
theorem Tryz.methodAssignableTo (h : Value) (w : World) : (Go.method 323 140 (.agg #[h]) "AssignableTo").run Tryz.prog w = .ok (141, .agg #[h]) w := by kernel_rfl
theorem Tryz.methodComparable (h : Value) (w : World) : (Go.method 323 140 (.agg #[h]) "Comparable").run Tryz.prog w = .ok (142, .agg #[h]) w := by kernel_rfl
theorem Tryz.elemPC (w : World) : (ReflectliteType.method ReflectliteType.elem #[.agg #[.pointer (some ⟨1, 94, none⟩)]]).run Tryz.prog w = .ok (.iface 140 (.agg #[.pointer (some ⟨1, 75, none⟩)])) w := by kernel_rfl
theorem Tryz.implementsC (w : World) : (ReflectliteType.relation "Implements" ReflectliteType.implements_ #[.agg #[.pointer (some ⟨1, 75, none⟩)], .iface 140 (.agg #[.pointer (some ⟨1, 38, none⟩)])]).run Tryz.prog w = .ok (.bool true) w := by kernel_rfl
theorem Tryz.typeOfC (v : Value) (w : World) : (ReflectliteType.typeOf #[.iface 75 v]).run Tryz.prog w = .ok (.iface 140 (.agg #[.pointer (some ⟨1, 75, none⟩)])) w := by kernel_rfl
theorem Tryz.typeOfW (v : Value) (w : World) : (ReflectliteType.typeOf #[.iface 95 v]).run Tryz.prog w = .ok (.iface 140 (.agg #[.pointer (some ⟨1, 95, none⟩)])) w := by kernel_rfl
theorem Tryz.assignableC (w : World) : (ReflectliteType.relation "AssignableTo" ReflectliteType.assignableTo #[.agg #[.pointer (some ⟨1, 75, none⟩)], .iface 140 (.agg #[.pointer (some ⟨1, 75, none⟩)])]).run Tryz.prog w = .ok (.bool true) w := by kernel_rfl
theorem Tryz.assignableW (w : World) : (ReflectliteType.relation "AssignableTo" ReflectliteType.assignableTo #[.agg #[.pointer (some ⟨1, 95, none⟩)], .iface 140 (.agg #[.pointer (some ⟨1, 75, none⟩)])]).run Tryz.prog w = .ok (.bool false) w := by kernel_rfl
theorem Tryz.comparableC (w : World) : ((ReflectliteType.method fun t => do Rtype.noPackHeld "Comparable" t; (fun a : TypeInfo => Value.bool a.comparable) <$> typeInfo t) #[.agg #[.pointer (some ⟨1, 75, none⟩)]]).run Tryz.prog w = .ok (.bool true) w := by kernel_rfl
theorem Tryz.valueOfC (n : Int) (w : World) : (ReflectliteValue.unpack (.iface 75 (.int .i64 n))).run Tryz.prog w
    = .ok (.agg #[.pointer (some ⟨1, 75, none⟩), .pointer (some ⟨w.heap.size, 0, none⟩), .int .u64 130]) (w.alloc (.cells #[.int .i64 n] 75)) := by kernel_rfl
theorem Tryz.elemOfPC (w : World) : (Rtype.elem? 94).run Tryz.prog w = .ok (some 75) w := by kernel_rfl
theorem Tryz.mkC (p : Addr) (w : World) : (ReflectliteValue.mk 75 p ReflectliteValue.flagAddr).run Tryz.prog w = .ok (.agg #[.pointer (some ⟨1, 75, none⟩), .pointer (some p), .int .u64 386]) w := by kernel_rfl
theorem Tryz.elemVPC (a p : Addr) (W : World) (ha : W.cell? a = some (.pointer (some p))) :
    (ReflectliteValue.method (ReflectliteValue.valueError "reflectlite.Value.Elem" 0) ReflectliteValue.elem #[.agg #[.pointer (some ⟨1, 94, none⟩), .pointer (some a), .int .u64 150]]).run Tryz.prog W
      = .ok (.agg #[.pointer (some ⟨1, 75, none⟩), .pointer (some p), .int .u64 386]) W := by
  rw [rlm]
  simp only [Sem.run_bind, Tryz.partsPC, Result.andThen]
  simp [ReflectliteValue.elem, loadVar, isAgg, underlying, Tryz.underlying94, ha, Result.andThen, Tryz.elemOfPC, Tryz.mkC]
theorem Tryz.partsCa (a : Addr) (w : World) : (ReflectliteValue.parts (.agg #[.pointer (some ⟨1, 75, none⟩), .pointer (some a), .int .u64 386])).run Tryz.prog w = .ok (some (75, a, 386)) w := by kernel_rfl
theorem Tryz.partsC (a : Addr) (w : World) : (ReflectliteValue.parts (.agg #[.pointer (some ⟨1, 75, none⟩), .pointer (some a), .int .u64 130])).run Tryz.prog w = .ok (some (75, a, 130)) w := by kernel_rfl
theorem Tryz.directC (w : World) : (Rtype.directlyAssignable 75 75).run Tryz.prog w = .ok true w := by kernel_rfl
theorem Tryz.sizeC (w : World) : (sizeOf 75).run Tryz.prog w = .ok 1 w := by kernel_rfl
end Go.Proofs.YtfgmbjdeimallaaGreatDoor
/- errors.As at a target *api.Class for an api.Within around a class; errors.Is of it at a class; consistoryhelp.Class. -/
namespace Go.Proofs.YtfgmbjdeimallaaGreatDoor
open Go.RowKit Go.Extern.Stop Go.Stop Go.Extern

theorem rls (v x : Value) : ReflectliteValue.set #[v, x] = (do
    let (some (dst, a, fl), some (src, b, _)) := (← ReflectliteValue.parts v, ← ReflectliteValue.parts x)
      | unsupported (.noEntry "extern/(internal/reflectlite.Value).Set.zeroValue")
    if fl / ReflectliteValue.flagAddr % 2 == 0 then unsupported (.noEntry "extern/(internal/reflectlite.Value).Set.unaddressable")
    let val ← loadVar src b
    if ← Rtype.directlyAssignable dst src then storeVar dst a val
    else if ← Rtype.implements dst src then
      if (← Rtype.kind src) == 20 then
        match val with
        | .nilIface => unsupported (.noEntry "extern/reflectlite: a nil value of one interface type handed on as a value of another")
        | _ => storeVar dst a val
      else storeVar dst a (.iface src val)
    else panicString ("reflectlite.Set: value of type " ++ (← Rtype.spelt src) ++ " is not assignable to type " ++ (← Rtype.spelt dst))
    pure (.tuple #[])) := rfl
theorem Tryz.setC (ta b : Addr) (c : Int) (old : Value) (W : World) (hb : W.cell? b = some (.int .i64 c)) (ht : W.cell? ta = some old) (hf : W.frozen? ta = false) :
    (ReflectliteValue.set #[.agg #[.pointer (some ⟨1, 75, none⟩), .pointer (some ta), .int .u64 386], .agg #[.pointer (some ⟨1, 75, none⟩), .pointer (some b), .int .u64 130]]).run Tryz.prog W
      = .ok (.tuple #[]) (W.setCell ta (.int .i64 c)) := by
  rw [rls]
  simp only [Sem.run_bind, Tryz.partsCa, Tryz.partsC, Result.andThen]
  simp [ReflectliteValue.flagAddr, loadVar, isAgg, underlying, Tryz.underlying75, hb, Result.andThen, Tryz.directC, storeVar, Value.cells, storeCells, Addr.add]
  rw [run_store Tryz.prog W ta _ _ (by rfl)]
  simp [ht, hf]

theorem Tryz.noAsW (v : Value) (xT : TypeId) (w : World) : (Instr.typeAssert (.iface 95 v) xT 161 true).run Tryz.prog w = .ok (.tuple #[.nilIface, .bool false]) w :=
  run_typeAssert_lacksB Tryz.underlying161 (by kernel_rfl) (by kernel_rfl) v xT w
theorem Tryz.noIsW (v : Value) (xT : TypeId) (w : World) : (Instr.typeAssert (.iface 95 v) xT 142 true).run Tryz.prog w = .ok (.tuple #[.nilIface, .bool false]) w :=
  run_typeAssert_lacksB Tryz.underlying142 (by kernel_rfl) (by kernel_rfl) v xT w
theorem Tryz.unwrapW (v : Value) (xT : TypeId) (w : World) : (Instr.typeAssert (.iface 95 v) xT 144 true).run Tryz.prog w = .ok (.tuple #[.iface 95 v, .bool true]) w :=
  run_typeAssert_hasB Tryz.underlying144 (by kernel_rfl) v xT w
theorem Tryz.methodUnwrapW (g : Nat) (w : World) : (Go.method 323 95 (.pointer (some ⟨g, 0, none⟩)) "Unwrap").run Tryz.prog w = .ok (136, .pointer (some ⟨g, 0, none⟩)) w := by kernel_rfl

theorem unwrap_within (g : Nat) (v1 : Value) (w : World) (h1 : w.cell? ⟨g, 1, none⟩ = some (.iface 75 v1)) :
    Calls Tryz.prog 136 #[.pointer (some ⟨g, 0, none⟩)] w fun e w' => e = .returned (.iface 75 v1) ∧ w = w' := by
  go_enter Tryz.func136, Tryz.ntmps136
  go_wp2
  go_ret
  exact ⟨rfl, rfl⟩
end Go.Proofs.YtfgmbjdeimallaaGreatDoor
/- errors.Is of an api.Within around a class at a class. -/
namespace Go.Proofs.YtfgmbjdeimallaaGreatDoor
open Go.RowKit Go.Extern.Stop Go.Stop Go.Extern

/-- two interface values whose dynamic type is one integer type: '==' goes by the numbers -/
theorem eqIface_int {P : Program} {ti tn : TypeId} {ms : Array (String × TypeId)} {i : TypeInfo} {k : IntKind} (a b : Int) (d : Nat) (w : World)
    (hi : P.underlying ti = some (.interface ms)) (hn : P.underlying tn = some (.int k)) (hf : P.info? tn = some i) (hc : i.comparable = true) :
    (Op.equalIn (d + 2) ti (.iface tn (.int k a)) (.iface tn (.int k b))).run P w = .ok (a == b) w := by
  simp [Op.equalIn, run_underlying hi, run_underlying hn, typeInfo, hf, hc]
theorem Tryz.infoC : (Tryz.prog.info? 75).map (·.comparable) = some true := by kernel_rfl
theorem Tryz.eqCC (a b : Int) (w : World) : (binOp .eql 38 (.iface 75 (.int .i64 a)) (.iface 75 (.int .i64 b))).run Tryz.prog w = .ok (.bool (a == b)) w := by
  obtain ⟨i, hi, hc⟩ := Option.map_eq_some_iff.1 Tryz.infoC
  simp only [binOp]
  simp [Op.equal, Op.maxDepth, eqIface_int a b 9998 w Tryz.underlying38 Tryz.underlying75 hi hc]

set_option maxRecDepth 100000 in
set_option maxHeartbeats 4000000 in
theorem is_within (g : Nat) (c : Int) (w : World)
    (h1 : w.cell? ⟨g, 1, none⟩ = some (.iface 75 (.int .i64 c))) :
    Calls Tryz.prog 28 #[.iface 95 (.pointer (some ⟨g, 0, none⟩)), .iface 75 (.int .i64 c)] w fun ev w' => ev = .returned (.bool true) ∧ w = w' := by
  have h10 := @run_callFunc_extern Tryz.prog 50 _ ReflectliteType.typeOf Tryz.func50 (by kernel_rfl) (by kernel_rfl) (by kernel_rfl) (by kernel_rfl)
  have h63 := @run_callFunc_extern Tryz.prog 142 _ (ReflectliteType.method fun t => do Rtype.noPackHeld "Comparable" t; pure (.bool (← typeInfo t).comparable)) Tryz.func142 (by kernel_rfl) (by kernel_rfl) (by kernel_rfl) (by kernel_rfl)
  have tO := Tryz.typeOfC
  have mC := Tryz.methodComparable
  have cC := Tryz.comparableC
  have nI := Tryz.noIsW
  have uW := Tryz.unwrapW
  have mU := Tryz.methodUnwrapW
  have eC := Tryz.eqCC
  have eW : ∀ (v : Value) (a : Int) (w : World), (binOp .eql 38 (.iface 95 v) (.iface 75 (.int .i64 a))).run Tryz.prog w = .ok (.bool false) w :=
    fun v a w => run_eql_iface_types _ _ _ _ Tryz.underlying38 (by decide) w
  go_enter Tryz.func28, Tryz.ntmps28
  go_wp2
  refine wp_loop_rounds 2 ?_
  rw [rounds_succ]
  go_wp2
  rw [rounds_succ]
  go_wp2
  go_ret
  exact ⟨rfl, rfl⟩

theorem is_nil (k : Int) (w : World) :
    Calls Tryz.prog 28 #[.nilIface, .iface 75 (.int .i64 k)] w fun ev w' => ev = .returned (.bool false) ∧ w = w' := by
  have e0 := fun W : World => run_eql_iface_nil_left (P := Tryz.prog) W 75 (.int .i64 k) Tryz.underlying38
  go_enter Tryz.func28, Tryz.ntmps28
  go_wp2
  go_ret
  exact ⟨rfl, rfl⟩
end Go.Proofs.YtfgmbjdeimallaaGreatDoor
