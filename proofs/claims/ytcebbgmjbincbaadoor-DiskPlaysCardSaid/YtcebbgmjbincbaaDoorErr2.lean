/- errors.As at a target *api.Class for an api.Within around a class; errors.Is of it at a class; consistoryhelp.Class. -/
import Derived.Test.YtcebbgmjbincbaaDoorErr
namespace Go.Proofs.YtcebbgmjbincbaaDoor
open Go.RowKit Go.Extern.Stop Go.Stop Go.Extern

theorem rls (v x : Value) : ReflectliteValue.set #[v, x] = (do
    let (some (dst, a, fl), some (src, b, _)) := (← ReflectliteValue.parts v, ← ReflectliteValue.parts x)
      | unsupported (.noEntry "extern/(internal/reflectlite.Value).Set.zeroValue")
    if fl / ReflectliteValue.flagAddr % 2 == 0 then unsupported (.noEntry "extern/(internal/reflectlite.Value).Set.unaddressable")
    let val ← loadVar src b
    if ← Rtype.directlyAssignable dst src then storeVar dst a val
    else if ← Rtype.implements dst src then
      if (← Rtype.kind src) == 20 then
        match val with
        | .nilIface => unsupported (.noEntry "extern/reflectlite: a nil value of one interface type handed on as a value of another")
        | _ => storeVar dst a val
      else storeVar dst a (.iface src val)
    else panicString ("reflectlite.Set: value of type " ++ (← Rtype.spelt src) ++ " is not assignable to type " ++ (← Rtype.spelt dst))
    pure (.tuple #[])) := rfl
theorem Tryd.setC (ta b : Addr) (c : Int) (old : Value) (W : World) (hb : W.cell? b = some (.int .i64 c)) (ht : W.cell? ta = some old) (hf : W.frozen? ta = false) :
    (ReflectliteValue.set #[.agg #[.pointer (some ⟨1, 98, none⟩), .pointer (some ta), .int .u64 386], .agg #[.pointer (some ⟨1, 98, none⟩), .pointer (some b), .int .u64 130]]).run Tryd.prog W
      = .ok (.tuple #[]) (W.setCell ta (.int .i64 c)) := by
  rw [rls]
  simp only [Sem.run_bind, Tryd.partsCa, Tryd.partsC, Result.andThen]
  simp [ReflectliteValue.flagAddr, loadVar, isAgg, underlying, Tryd.underlying98, hb, Result.andThen, Tryd.directC, storeVar, Value.cells, storeCells, Addr.add]
  rw [run_store Tryd.prog W ta _ _ (by rfl)]
  simp [ht, hf]

theorem Tryd.noAsW (v : Value) (xT : TypeId) (w : World) : (Instr.typeAssert (.iface 122 v) xT 159 true).run Tryd.prog w = .ok (.tuple #[.nilIface, .bool false]) w :=
  run_typeAssert_lacksB Tryd.underlying159 (by kernel_rfl) (by kernel_rfl) v xT w
theorem Tryd.noIsW (v : Value) (xT : TypeId) (w : World) : (Instr.typeAssert (.iface 122 v) xT 150 true).run Tryd.prog w = .ok (.tuple #[.nilIface, .bool false]) w :=
  run_typeAssert_lacksB Tryd.underlying150 (by kernel_rfl) (by kernel_rfl) v xT w
theorem Tryd.unwrapW (v : Value) (xT : TypeId) (w : World) : (Instr.typeAssert (.iface 122 v) xT 153 true).run Tryd.prog w = .ok (.tuple #[.iface 122 v, .bool true]) w :=
  run_typeAssert_hasB Tryd.underlying153 (by kernel_rfl) v xT w
theorem Tryd.methodUnwrapW (g : Nat) (w : World) : (Go.method 314 122 (.pointer (some ⟨g, 0, none⟩)) "Unwrap").run Tryd.prog w = .ok (125, .pointer (some ⟨g, 0, none⟩)) w := by kernel_rfl

theorem unwrap_within (g : Nat) (v1 : Value) (w : World) (h1 : w.cell? ⟨g, 1, none⟩ = some (.iface 98 v1)) :
    Calls Tryd.prog 125 #[.pointer (some ⟨g, 0, none⟩)] w fun e w' => e = .returned (.iface 98 v1) ∧ w = w' := by
  go_enter Tryd.func125, Tryd.ntmps125
  go_wp2
  go_ret
  exact ⟨rfl, rfl⟩
end Go.Proofs.YtcebbgmjbincbaaDoor
