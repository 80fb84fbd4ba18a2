/- The contracts of errors.As at a target of type *api.Class and of errors.Is at a target that is an api.Class, for errors that wrap a class once in an api.Within; out of them the contract of consistoryhelp.Class. Turned from the worked proof ToyasAs. -/
import Derived.Test.YtcebbgmjbincbaaDoorProg
import Derived.WalkKit
import Derived.LaidEql
import Derived.Stop.Asserts
import Derived.Lib.Hide
import Derived.RowKitTokens
namespace Go.Proofs.YtcebbgmjbincbaaDoor
open Go.RowKit Go.Extern.Stop Go.Stop Go.Extern

theorem Tryd.valueOfPC (t : Addr) (w : World) : (ReflectliteValue.unpack (.iface 105 (.pointer (some t)))).run Tryd.prog w
    = .ok (.agg #[.pointer (some ⟨1, 105, none⟩), .pointer (some ⟨w.heap.size, 0, none⟩), .int .u64 150]) (w.alloc (.cells #[.pointer (some t)] 105)) := by kernel_rfl
theorem Tryd.typePC (a : Addr) (w : World) : (ReflectliteValue.methodAny (ReflectliteValue.valueError "reflectlite.Value.Type" 0) (fun t _ _ _ => ReflectliteType.toType t) #[.agg #[.pointer (some ⟨1, 105, none⟩), .pointer (some a), .int .u64 150]]).run Tryd.prog w
    = .ok (.iface 148 (.agg #[.pointer (some ⟨1, 105, none⟩)])) w := by kernel_rfl
theorem Tryd.methodKind (h : Value) (w : World) : (Go.method 314 148 (.agg #[h]) "Kind").run Tryd.prog w = .ok (118, h) w := by kernel_rfl
theorem Tryd.kindPC (w : World) : ((ReflectliteType.abiMethod fun t => (fun a : Nat => Value.int IntKind.u8 (a : Int)) <$> Rtype.kind t) #[.pointer (some ⟨1, 105, none⟩)]).run Tryd.prog w = .ok (.int .u8 22) w := by kernel_rfl
theorem Tryd.kindC (w : World) : ((ReflectliteType.abiMethod fun t => (fun a : Nat => Value.int IntKind.u8 (a : Int)) <$> Rtype.kind t) #[.pointer (some ⟨1, 98, none⟩)]).run Tryd.prog w = .ok (.int .u8 2) w := by kernel_rfl
theorem rlm (z : Sem Value) (f : TypeId → Addr → Nat → Nat → Sem Value) (v : Value) :
    ReflectliteValue.method z f #[v] = (do match ← ReflectliteValue.parts v with | none => z | some (t, a, fl) => f t a fl (fl % 32)) := rfl
theorem Tryd.partsPC (a : Addr) (w : World) : (ReflectliteValue.parts (.agg #[.pointer (some ⟨1, 105, none⟩), .pointer (some a), .int .u64 150])).run Tryd.prog w = .ok (some (105, a, 150)) w := by kernel_rfl
theorem Tryd.isNilPC (a p : Addr) (W : World) (ha : W.cell? a = some (.pointer (some p))) :
    (ReflectliteValue.method (ReflectliteValue.valueError "reflectlite.Value.IsNil" 0) ReflectliteValue.isNil #[.agg #[.pointer (some ⟨1, 105, none⟩), .pointer (some a), .int .u64 150]]).run Tryd.prog W = .ok (.bool false) W := by
  rw [rlm]
  simp only [Sem.run_bind, Tryd.partsPC, Result.andThen]
  simp [ReflectliteValue.isNil, loadVar, isAgg, underlying, Tryd.underlying105, ha, Result.andThen]
theorem Tryd.methodElem (h : Value) (w : World) : (Go.method 314 148 (.agg #[h]) "Elem").run Tryd.prog w = .ok (132, .agg #[h]) w := by kernel_rfl
theorem Tryd.methodImplements (h : Value) (w : World) : (Go.method 314 148 (.agg #[h]) "Implements").run Tryd.prog w = .ok (133, .agg #[h]) w := by kernel_rfl
theorem Tryd.methodAssignableTo (h : Value) (w : World) : (Go.method 314 148 (.agg #[h]) "AssignableTo").run Tryd.prog w = .ok (130, .agg #[h]) w := by kernel_rfl
theorem Tryd.methodComparable (h : Value) (w : World) : (Go.method 314 148 (.agg #[h]) "Comparable").run Tryd.prog w = .ok (131, .agg #[h]) w := by kernel_rfl
theorem Tryd.elemPC (w : World) : (ReflectliteType.method ReflectliteType.elem #[.agg #[.pointer (some ⟨1, 105, none⟩)]]).run Tryd.prog w = .ok (.iface 148 (.agg #[.pointer (some ⟨1, 98, none⟩)])) w := by kernel_rfl
theorem Tryd.implementsC (w : World) : (ReflectliteType.relation "Implements" ReflectliteType.implements_ #[.agg #[.pointer (some ⟨1, 98, none⟩)], .iface 148 (.agg #[.pointer (some ⟨1, 28, none⟩)])]).run Tryd.prog w = .ok (.bool true) w := by kernel_rfl
theorem Tryd.typeOfC (v : Value) (w : World) : (ReflectliteType.typeOf #[.iface 98 v]).run Tryd.prog w = .ok (.iface 148 (.agg #[.pointer (some ⟨1, 98, none⟩)])) w := by kernel_rfl
theorem Tryd.typeOfW (v : Value) (w : World) : (ReflectliteType.typeOf #[.iface 122 v]).run Tryd.prog w = .ok (.iface 148 (.agg #[.pointer (some ⟨1, 122, none⟩)])) w := by kernel_rfl
theorem Tryd.assignableC (w : World) : (ReflectliteType.relation "AssignableTo" ReflectliteType.assignableTo #[.agg #[.pointer (some ⟨1, 98, none⟩)], .iface 148 (.agg #[.pointer (some ⟨1, 98, none⟩)])]).run Tryd.prog w = .ok (.bool true) w := by kernel_rfl
theorem Tryd.assignableW (w : World) : (ReflectliteType.relation "AssignableTo" ReflectliteType.assignableTo #[.agg #[.pointer (some ⟨1, 122, none⟩)], .iface 148 (.agg #[.pointer (some ⟨1, 98, none⟩)])]).run Tryd.prog w = .ok (.bool false) w := by kernel_rfl
theorem Tryd.comparableC (w : World) : ((ReflectliteType.method fun t => do Rtype.noPackHeld "Comparable" t; (fun a : TypeInfo => Value.bool a.comparable) <$> typeInfo t) #[.agg #[.pointer (some ⟨1, 98, none⟩)]]).run Tryd.prog w = .ok (.bool true) w := by kernel_rfl
theorem Tryd.valueOfC (n : Int) (w : World) : (ReflectliteValue.unpack (.iface 98 (.int .i64 n))).run Tryd.prog w
    = .ok (.agg #[.pointer (some ⟨1, 98, none⟩), .pointer (some ⟨w.heap.size, 0, none⟩), .int .u64 130]) (w.alloc (.cells #[.int .i64 n] 98)) := by kernel_rfl
theorem Tryd.elemOfPC (w : World) : (Rtype.elem? 105).run Tryd.prog w = .ok (some 98) w := by kernel_rfl
theorem Tryd.mkC (p : Addr) (w : World) : (ReflectliteValue.mk 98 p ReflectliteValue.flagAddr).run Tryd.prog w = .ok (.agg #[.pointer (some ⟨1, 98, none⟩), .pointer (some p), .int .u64 386]) w := by kernel_rfl
theorem Tryd.elemVPC (a p : Addr) (W : World) (ha : W.cell? a = some (.pointer (some p))) :
    (ReflectliteValue.method (ReflectliteValue.valueError "reflectlite.Value.Elem" 0) ReflectliteValue.elem #[.agg #[.pointer (some ⟨1, 105, none⟩), .pointer (some a), .int .u64 150]]).run Tryd.prog W
      = .ok (.agg #[.pointer (some ⟨1, 98, none⟩), .pointer (some p), .int .u64 386]) W := by
  rw [rlm]
  simp only [Sem.run_bind, Tryd.partsPC, Result.andThen]
  simp [ReflectliteValue.elem, loadVar, isAgg, underlying, Tryd.underlying105, ha, Result.andThen, Tryd.elemOfPC, Tryd.mkC]
theorem Tryd.partsCa (a : Addr) (w : World) : (ReflectliteValue.parts (.agg #[.pointer (some ⟨1, 98, none⟩), .pointer (some a), .int .u64 386])).run Tryd.prog w = .ok (some (98, a, 386)) w := by kernel_rfl
theorem Tryd.partsC (a : Addr) (w : World) : (ReflectliteValue.parts (.agg #[.pointer (some ⟨1, 98, none⟩), .pointer (some a), .int .u64 130])).run Tryd.prog w = .ok (some (98, a, 130)) w := by kernel_rfl
theorem Tryd.directC (w : World) : (Rtype.directlyAssignable 98 98).run Tryd.prog w = .ok true w := by kernel_rfl
theorem Tryd.sizeC (w : World) : (sizeOf 98).run Tryd.prog w = .ok 1 w := by kernel_rfl
end Go.Proofs.YtcebbgmjbincbaaDoor
