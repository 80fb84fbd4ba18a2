/- errors.Is of an api.Within around a class at a class. -/
import Derived.Test.YtcebbgmjbincbaaDoorErr2
namespace Go.Proofs.YtcebbgmjbincbaaDoor
open Go.RowKit Go.Extern.Stop Go.Stop Go.Extern

/-- two interface values whose dynamic type is one integer type: '==' goes by the numbers -/
theorem eqIface_int {P : Program} {ti tn : TypeId} {ms : Array (String × TypeId)} {i : TypeInfo} {k : IntKind} (a b : Int) (d : Nat) (w : World)
    (hi : P.underlying ti = some (.interface ms)) (hn : P.underlying tn = some (.int k)) (hf : P.info? tn = some i) (hc : i.comparable = true) :
    (Op.equalIn (d + 2) ti (.iface tn (.int k a)) (.iface tn (.int k b))).run P w = .ok (a == b) w := by
  simp [Op.equalIn, run_underlying hi, run_underlying hn, typeInfo, hf, hc]
theorem Tryd.infoC : (Tryd.prog.info? 98).map (·.comparable) = some true := by kernel_rfl
theorem Tryd.eqCC (a b : Int) (w : World) : (binOp .eql 28 (.iface 98 (.int .i64 a)) (.iface 98 (.int .i64 b))).run Tryd.prog w = .ok (.bool (a == b)) w := by
  obtain ⟨i, hi, hc⟩ := Option.map_eq_some_iff.1 Tryd.infoC
  simp only [binOp]
  simp [Op.equal, Op.maxDepth, eqIface_int a b 9998 w Tryd.underlying28 Tryd.underlying98 hi hc]

set_option maxRecDepth 100000 in
set_option maxHeartbeats 4000000 in
theorem is_within (g : Nat) (c : Int) (w : World)
    (h1 : w.cell? ⟨g, 1, none⟩ = some (.iface 98 (.int .i64 c))) :
    Calls Tryd.prog 47 #[.iface 122 (.pointer (some ⟨g, 0, none⟩)), .iface 98 (.int .i64 c)] w fun ev w' => ev = .returned (.bool true) ∧ w = w' := by
  have h10 := @run_callFunc_extern Tryd.prog 63 _ ReflectliteType.typeOf Tryd.func63 (by kernel_rfl) (by kernel_rfl) (by kernel_rfl) (by kernel_rfl)
  have h63 := @run_callFunc_extern Tryd.prog 131 _ (ReflectliteType.method fun t => do Rtype.noPackHeld "Comparable" t; pure (.bool (← typeInfo t).comparable)) Tryd.func131 (by kernel_rfl) (by kernel_rfl) (by kernel_rfl) (by kernel_rfl)
  have tO := Tryd.typeOfC
  have mC := Tryd.methodComparable
  have cC := Tryd.comparableC
  have nI := Tryd.noIsW
  have uW := Tryd.unwrapW
  have mU := Tryd.methodUnwrapW
  have eC := Tryd.eqCC
  have eW : ∀ (v : Value) (a : Int) (w : World), (binOp .eql 28 (.iface 122 v) (.iface 98 (.int .i64 a))).run Tryd.prog w = .ok (.bool false) w :=
    fun v a w => run_eql_iface_types _ _ _ _ Tryd.underlying28 (by decide) w
  go_enter Tryd.func47, Tryd.ntmps47
  go_wp2
  refine wp_loop_rounds 2 ?_
  rw [rounds_succ]
  go_wp2
  rw [rounds_succ]
  go_wp2
  go_ret
  exact ⟨rfl, rfl⟩

theorem is_nil (k : Int) (w : World) :
    Calls Tryd.prog 47 #[.nilIface, .iface 98 (.int .i64 k)] w fun ev w' => ev = .returned (.bool false) ∧ w = w' := by
  have e0 := fun W : World => run_eql_iface_nil_left (P := Tryd.prog) W 98 (.int .i64 k) Tryd.underlying28
  go_enter Tryd.func47, Tryd.ntmps47
  go_wp2
  go_ret
  exact ⟨rfl, rfl⟩
end Go.Proofs.YtcebbgmjbincbaaDoor
