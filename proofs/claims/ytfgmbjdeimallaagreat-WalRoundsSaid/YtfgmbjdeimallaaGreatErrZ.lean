/- The contracts of errors.As at a target of type *api.Class and of errors.Is at a target that is an api.Class, for errors that wrap a class once in an api.Within; out of them the contract of consistoryhelp.Class. Turned from the worked proof ToyasAs. -/
import Derived.Test.YtfgmbjdeimallaaGreatProg
import Derived.WalkKit
import Derived.LaidEql
import Derived.Stop.Asserts
import Derived.Lib.Hide
import Derived.RowKitTokens
namespace Go.Proofs.YtfgmbjdeimallaaGreat
open Go.RowKit Go.Extern.Stop Go.Stop Go.Extern

theorem Tryz.methodKind (h : Value) (w : World) : (Go.method 296 112 (.agg #[h]) "Kind").run Tryz.prog w = .ok (118, h) w := by kernel_rfl
theorem Tryz.kindC (w : World) : ((ReflectliteType.abiMethod fun t => (fun a : Nat => Value.int IntKind.u8 (a : Int)) <$> Rtype.kind t) #[.pointer (some ⟨0, 61, none⟩)]).run Tryz.prog w = .ok (.int .u8 2) w := by kernel_rfl
theorem rlm (z : Sem Value) (f : TypeId → Addr → Nat → Nat → Sem Value) (v : Value) :
    ReflectliteValue.method z f #[v] = (do match ← ReflectliteValue.parts v with | none => z | some (t, a, fl) => f t a fl (fl % 32)) := rfl
theorem Tryz.methodElem (h : Value) (w : World) : (Go.method 296 112 (.agg #[h]) "Elem").run Tryz.prog w = .ok (122, .agg #[h]) w := by kernel_rfl
theorem Tryz.methodImplements (h : Value) (w : World) : (Go.method 296 112 (.agg #[h]) "Implements").run Tryz.prog w = .ok (123, .agg #[h]) w := by kernel_rfl
theorem Tryz.methodAssignableTo (h : Value) (w : World) : (Go.method 296 112 (.agg #[h]) "AssignableTo").run Tryz.prog w = .ok (120, .agg #[h]) w := by kernel_rfl
theorem Tryz.methodComparable (h : Value) (w : World) : (Go.method 296 112 (.agg #[h]) "Comparable").run Tryz.prog w = .ok (121, .agg #[h]) w := by kernel_rfl
theorem Tryz.implementsC (w : World) : (ReflectliteType.relation "Implements" ReflectliteType.implements_ #[.agg #[.pointer (some ⟨0, 61, none⟩)], .iface 112 (.agg #[.pointer (some ⟨0, 31, none⟩)])]).run Tryz.prog w = .ok (.bool true) w := by kernel_rfl
theorem Tryz.typeOfC (v : Value) (w : World) : (ReflectliteType.typeOf #[.iface 61 v]).run Tryz.prog w = .ok (.iface 112 (.agg #[.pointer (some ⟨0, 61, none⟩)])) w := by kernel_rfl
theorem Tryz.typeOfW (v : Value) (w : World) : (ReflectliteType.typeOf #[.iface 69 v]).run Tryz.prog w = .ok (.iface 112 (.agg #[.pointer (some ⟨0, 69, none⟩)])) w := by kernel_rfl
theorem Tryz.assignableC (w : World) : (ReflectliteType.relation "AssignableTo" ReflectliteType.assignableTo #[.agg #[.pointer (some ⟨0, 61, none⟩)], .iface 112 (.agg #[.pointer (some ⟨0, 61, none⟩)])]).run Tryz.prog w = .ok (.bool true) w := by kernel_rfl
theorem Tryz.assignableW (w : World) : (ReflectliteType.relation "AssignableTo" ReflectliteType.assignableTo #[.agg #[.pointer (some ⟨0, 69, none⟩)], .iface 112 (.agg #[.pointer (some ⟨0, 61, none⟩)])]).run Tryz.prog w = .ok (.bool false) w := by kernel_rfl
theorem Tryz.comparableC (w : World) : ((ReflectliteType.method fun t => do Rtype.noPackHeld "Comparable" t; (fun a : TypeInfo => Value.bool a.comparable) <$> typeInfo t) #[.agg #[.pointer (some ⟨0, 61, none⟩)]]).run Tryz.prog w = .ok (.bool true) w := by kernel_rfl
theorem Tryz.valueOfC (n : Int) (w : World) : (ReflectliteValue.unpack (.iface 61 (.int .i64 n))).run Tryz.prog w
    = .ok (.agg #[.pointer (some ⟨0, 61, none⟩), .pointer (some ⟨w.heap.size, 0, none⟩), .int .u64 130]) (w.alloc (.cells #[.int .i64 n] 61)) := by kernel_rfl
theorem Tryz.mkC (p : Addr) (w : World) : (ReflectliteValue.mk 61 p ReflectliteValue.flagAddr).run Tryz.prog w = .ok (.agg #[.pointer (some ⟨0, 61, none⟩), .pointer (some p), .int .u64 386]) w := by kernel_rfl
theorem Tryz.partsCa (a : Addr) (w : World) : (ReflectliteValue.parts (.agg #[.pointer (some ⟨0, 61, none⟩), .pointer (some a), .int .u64 386])).run Tryz.prog w = .ok (some (61, a, 386)) w := by kernel_rfl
theorem Tryz.partsC (a : Addr) (w : World) : (ReflectliteValue.parts (.agg #[.pointer (some ⟨0, 61, none⟩), .pointer (some a), .int .u64 130])).run Tryz.prog w = .ok (some (61, a, 130)) w := by kernel_rfl
theorem Tryz.directC (w : World) : (Rtype.directlyAssignable 61 61).run Tryz.prog w = .ok true w := by kernel_rfl
theorem Tryz.sizeC (w : World) : (sizeOf 61).run Tryz.prog w = .ok 1 w := by kernel_rfl
end Go.Proofs.YtfgmbjdeimallaaGreat
/- errors.As at a target *api.Class for an api.Within around a class; errors.Is of it at a class; consistoryhelp.Class. -/
namespace Go.Proofs.YtfgmbjdeimallaaGreat
open Go.RowKit Go.Extern.Stop Go.Stop Go.Extern

theorem rls (v x : Value) : ReflectliteValue.set #[v, x] = (do
    let (some (dst, a, fl), some (src, b, _)) := (← ReflectliteValue.parts v, ← ReflectliteValue.parts x)
      | unsupported (.noEntry "extern/(internal/reflectlite.Value).Set.zeroValue")
    if fl / ReflectliteValue.flagAddr % 2 == 0 then unsupported (.noEntry "extern/(internal/reflectlite.Value).Set.unaddressable")
    let val ← loadVar src b
    if ← Rtype.directlyAssignable dst src then storeVar dst a val
    else if ← Rtype.implements dst src then
      if (← Rtype.kind src) == 20 then
        match val with
        | .nilIface => unsupported (.noEntry "extern/reflectlite: a nil value of one interface type handed on as a value of another")
        | _ => storeVar dst a val
      else storeVar dst a (.iface src val)
    else panicString ("reflectlite.Set: value of type " ++ (← Rtype.spelt src) ++ " is not assignable to type " ++ (← Rtype.spelt dst))
    pure (.tuple #[])) := rfl
theorem Tryz.setC (ta b : Addr) (c : Int) (old : Value) (W : World) (hb : W.cell? b = some (.int .i64 c)) (ht : W.cell? ta = some old) (hf : W.frozen? ta = false) :
    (ReflectliteValue.set #[.agg #[.pointer (some ⟨0, 61, none⟩), .pointer (some ta), .int .u64 386], .agg #[.pointer (some ⟨0, 61, none⟩), .pointer (some b), .int .u64 130]]).run Tryz.prog W
      = .ok (.tuple #[]) (W.setCell ta (.int .i64 c)) := by
  rw [rls]
  simp only [Sem.run_bind, Tryz.partsCa, Tryz.partsC, Result.andThen]
  simp [ReflectliteValue.flagAddr, loadVar, isAgg, underlying, Tryz.underlying61, hb, Result.andThen, Tryz.directC, storeVar, Value.cells, storeCells, Addr.add]
  rw [run_store Tryz.prog W ta _ _ (by rfl)]
  simp [ht, hf]

theorem Tryz.noIsW (v : Value) (xT : TypeId) (w : World) : (Instr.typeAssert (.iface 69 v) xT 114 true).run Tryz.prog w = .ok (.tuple #[.nilIface, .bool false]) w :=
  run_typeAssert_lacksB Tryz.underlying114 (by kernel_rfl) (by kernel_rfl) v xT w
theorem Tryz.unwrapW (v : Value) (xT : TypeId) (w : World) : (Instr.typeAssert (.iface 69 v) xT 116 true).run Tryz.prog w = .ok (.tuple #[.iface 69 v, .bool true]) w :=
  run_typeAssert_hasB Tryz.underlying116 (by kernel_rfl) v xT w
theorem Tryz.methodUnwrapW (g : Nat) (w : World) : (Go.method 296 69 (.pointer (some ⟨g, 0, none⟩)) "Unwrap").run Tryz.prog w = .ok (115, .pointer (some ⟨g, 0, none⟩)) w := by kernel_rfl

theorem unwrap_within (g : Nat) (v1 : Value) (w : World) (h1 : w.cell? ⟨g, 1, none⟩ = some (.iface 61 v1)) :
    Calls Tryz.prog 115 #[.pointer (some ⟨g, 0, none⟩)] w fun e w' => e = .returned (.iface 61 v1) ∧ w = w' := by
  go_enter Tryz.func115, Tryz.ntmps115
  go_wp2
  go_ret
  exact ⟨rfl, rfl⟩
end Go.Proofs.YtfgmbjdeimallaaGreat
/- errors.Is of an api.Within around a class at a class. -/
namespace Go.Proofs.YtfgmbjdeimallaaGreat
open Go.RowKit Go.Extern.Stop Go.Stop Go.Extern

/-- two interface values whose dynamic type is one integer type: '==' goes by the numbers -/
theorem eqIface_int {P : Program} {ti tn : TypeId} {ms : Array (String × TypeId)} {i : TypeInfo} {k : IntKind} (a b : Int) (d : Nat) (w : World)
    (hi : P.underlying ti = some (.interface ms)) (hn : P.underlying tn = some (.int k)) (hf : P.info? tn = some i) (hc : i.comparable = true) :
    (Op.equalIn (d + 2) ti (.iface tn (.int k a)) (.iface tn (.int k b))).run P w = .ok (a == b) w := by
  simp [Op.equalIn, run_underlying hi, run_underlying hn, typeInfo, hf, hc]
theorem Tryz.infoC : (Tryz.prog.info? 61).map (·.comparable) = some true := by kernel_rfl
theorem Tryz.eqCC (a b : Int) (w : World) : (binOp .eql 31 (.iface 61 (.int .i64 a)) (.iface 61 (.int .i64 b))).run Tryz.prog w = .ok (.bool (a == b)) w := by
  obtain ⟨i, hi, hc⟩ := Option.map_eq_some_iff.1 Tryz.infoC
  simp only [binOp]
  simp [Op.equal, Op.maxDepth, eqIface_int a b 9998 w Tryz.underlying31 Tryz.underlying61 hi hc]

set_option maxRecDepth 100000 in
set_option maxHeartbeats 4000000 in
theorem is_within (g : Nat) (c : Int) (w : World)
    (h1 : w.cell? ⟨g, 1, none⟩ = some (.iface 61 (.int .i64 c))) :
    Calls Tryz.prog 20 #[.iface 69 (.pointer (some ⟨g, 0, none⟩)), .iface 61 (.int .i64 c)] w fun ev w' => ev = .returned (.bool true) ∧ w = w' := by
  have h10 := @run_callFunc_extern Tryz.prog 36 _ ReflectliteType.typeOf Tryz.func36 (by kernel_rfl) (by kernel_rfl) (by kernel_rfl) (by kernel_rfl)
  have h63 := @run_callFunc_extern Tryz.prog 121 _ (ReflectliteType.method fun t => do Rtype.noPackHeld "Comparable" t; pure (.bool (← typeInfo t).comparable)) Tryz.func121 (by kernel_rfl) (by kernel_rfl) (by kernel_rfl) (by kernel_rfl)
  have tO := Tryz.typeOfC
  have mC := Tryz.methodComparable
  have cC := Tryz.comparableC
  have nI := Tryz.noIsW
  have uW := Tryz.unwrapW
  have mU := Tryz.methodUnwrapW
  have eC := Tryz.eqCC
  have eW : ∀ (v : Value) (a : Int) (w : World), (binOp .eql 31 (.iface 69 v) (.iface 61 (.int .i64 a))).run Tryz.prog w = .ok (.bool false) w :=
    fun v a w => run_eql_iface_types _ _ _ _ Tryz.underlying31 (by decide) w
  go_enter Tryz.func20, Tryz.ntmps20
  go_wp2
  refine wp_loop_rounds 2 ?_
  rw [rounds_succ]
  go_wp2
  rw [rounds_succ]
  go_wp2
  go_ret
  exact ⟨rfl, rfl⟩

theorem is_nil (k : Int) (w : World) :
    Calls Tryz.prog 20 #[.nilIface, .iface 61 (.int .i64 k)] w fun ev w' => ev = .returned (.bool false) ∧ w = w' := by
  have e0 := fun W : World => run_eql_iface_nil_left (P := Tryz.prog) W 61 (.int .i64 k) Tryz.underlying31
  go_enter Tryz.func20, Tryz.ntmps20
  go_wp2
  go_ret
  exact ⟨rfl, rfl⟩
end Go.Proofs.YtfgmbjdeimallaaGreat
