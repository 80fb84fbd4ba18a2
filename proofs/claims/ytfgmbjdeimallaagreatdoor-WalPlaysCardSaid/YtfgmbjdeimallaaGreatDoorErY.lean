/- consistoryhelp.Class: 0 of nil; the class of an api.Within around a class. -/
import Derived.Test.YtfgmbjdeimallaaGreatDoorErr3
import Derived.Test.YtfgmbjdeimallaaGreatDoorErrZ
namespace Go.Proofs.YtfgmbjdeimallaaGreatDoor
open Go.RowKit

theorem class_nil (w : World) : Calls Tryz.prog 12 #[.nilIface] w fun e w' => e = .returned (.int .i64 0) ∧ w = w' := by
  go_enter Tryz.func12, Tryz.ntmps12
  go_wp2
  go_ret
  exact ⟨rfl, rfl⟩

set_option maxRecDepth 100000 in
set_option maxHeartbeats 1000000 in
theorem class_within (g : Nat) (c : Int) (w : World) (hg : w.cell? ⟨0, 0, none⟩ = some (.iface 140 (.agg #[.pointer (some ⟨1, 38, none⟩)])))
    (h1 : w.cell? ⟨g, 1, none⟩ = some (.iface 75 (.int .i64 c))) :
    Calls Tryz.prog 12 #[.iface 95 (.pointer (some ⟨g, 0, none⟩))] w fun e w' => e = .returned (.int .i64 c) ∧ Below w.heap.size w w' := by
  have hlt : 0 < w.heap.size := block_lt_of_cell hg
  have hgl : g < w.heap.size := block_lt_of_cell h1
  have hg1 : g < w.heap.size + 1 := by omega
  have hg2 : g < w.heap.size + 1 + 1 := by omega
  have hg3 : g < w.heap.size + 1 + 1 + 1 := by omega
  have hg4 : g < w.heap.size + 1 + 1 + 1 + 1 := by omega
  have hA := as_within g w.heap.size c (.int .i64 0) (w.alloc (.cells #[.int .i64 0] 75)) (by go_simp) (by go_simp) (by go_simp) (by go_simp)
  have HA := Lib.hid hA
  clear hA
  go_enter Tryz.func12, Tryz.ntmps12
  go_wp2_with (first
    | (go_at_call 39; refine HA.out.mono ?_; rintro e w' ⟨rfl, rfl⟩)
    | (go_at_call 28; refine (is_within g c _ ?c1).mono ?_; rotate_left; rintro e w' ⟨rfl, rfl⟩; rotate_left; go_simp))
  go_ret
  exact ⟨rfl, (((((Below.refl _ _).alloc (Nat.le_refl _) _).alloc (by simp) _).alloc (by simp; omega) _).alloc (by simp; omega) _).alloc (by simp; omega) _⟩
end Go.Proofs.YtfgmbjdeimallaaGreatDoor
/- Errors that are placed: errors.As, errors.Is, Class at an api.Placed that wraps an api.Within. -/
namespace Go.Proofs.YtfgmbjdeimallaaGreatDoor
open Go.RowKit Go.Extern.Stop Go.Stop Go.Extern

theorem Tryz.typeOfP (v : Value) (w : World) : (ReflectliteType.typeOf #[.iface 89 v]).run Tryz.prog w = .ok (.iface 140 (.agg #[.pointer (some ⟨1, 89, none⟩)])) w := by kernel_rfl
theorem Tryz.assignableP (w : World) : (ReflectliteType.relation "AssignableTo" ReflectliteType.assignableTo #[.agg #[.pointer (some ⟨1, 89, none⟩)], .iface 140 (.agg #[.pointer (some ⟨1, 75, none⟩)])]).run Tryz.prog w = .ok (.bool false) w := by kernel_rfl
theorem Tryz.noAsP (v : Value) (xT : TypeId) (w : World) : (Instr.typeAssert (.iface 89 v) xT 161 true).run Tryz.prog w = .ok (.tuple #[.nilIface, .bool false]) w :=
  run_typeAssert_lacksB Tryz.underlying161 (by kernel_rfl) (by kernel_rfl) v xT w
theorem Tryz.noIsP (v : Value) (xT : TypeId) (w : World) : (Instr.typeAssert (.iface 89 v) xT 142 true).run Tryz.prog w = .ok (.tuple #[.nilIface, .bool false]) w :=
  run_typeAssert_lacksB Tryz.underlying142 (by kernel_rfl) (by kernel_rfl) v xT w
theorem Tryz.unwrapP (v : Value) (xT : TypeId) (w : World) : (Instr.typeAssert (.iface 89 v) xT 144 true).run Tryz.prog w = .ok (.tuple #[.iface 89 v, .bool true]) w :=
  run_typeAssert_hasB Tryz.underlying144 (by kernel_rfl) v xT w
theorem Tryz.methodUnwrapP (g : Nat) (w : World) : (Go.method 323 89 (.pointer (some ⟨g, 0, none⟩)) "Unwrap").run Tryz.prog w = .ok (134, .pointer (some ⟨g, 0, none⟩)) w := by kernel_rfl

set_option maxRecDepth 100000 in
set_option maxHeartbeats 4000000 in
theorem as_placed (q g : Nat) (t : Nat) (c : Int) (old : Value) (w : World) (hg : w.cell? ⟨0, 0, none⟩ = some (.iface 140 (.agg #[.pointer (some ⟨1, 38, none⟩)])))
    (hq : w.cell? ⟨q, 1, none⟩ = some (.iface 95 (.pointer (some ⟨g, 0, none⟩)))) (h1 : w.cell? ⟨g, 1, none⟩ = some (.iface 75 (.int .i64 c))) (ht0 : w.cell? ⟨t, 0, none⟩ = some old) (hf0 : w.frozen? ⟨t, 0, none⟩ = false) :
    Calls Tryz.prog 39 #[.iface 89 (.pointer (some ⟨q, 0, none⟩)), .iface 94 (.pointer (some ⟨t, 0, none⟩))] w fun ev w' => ev = .returned (.bool true) ∧ w' = ((((w.setCell ⟨t, 0, none⟩ (.int .i64 c)).alloc (.cells #[.pointer (some ⟨t, 0, none⟩)] 94)).alloc (.cells #[.pointer (some ⟨1, 94, none⟩), .pointer (some ⟨w.heap.size, 0, none⟩), .int .u64 150] 125)).alloc (.cells #[.pointer (some ⟨1, 94, none⟩), .pointer (some ⟨w.heap.size, 0, none⟩), .int .u64 150] 125)).alloc (.cells #[.int .i64 c] 75) := by
  have h6 := @run_callFunc_extern Tryz.prog 61 _ (fun args => ReflectliteValue.unpack (args.getD 0 (.tuple #[]))) Tryz.func61 (by kernel_rfl) (by kernel_rfl) (by kernel_rfl) (by kernel_rfl)
  have h7 := @run_callFunc_extern Tryz.prog 62 _ (ReflectliteValue.methodAny (ReflectliteValue.valueError "reflectlite.Value.Type" 0) (fun t _ _ _ => ReflectliteType.toType t)) Tryz.func62 (by kernel_rfl) (by kernel_rfl) (by kernel_rfl) (by kernel_rfl)
  have h8 := @run_callFunc_extern Tryz.prog 63 _ (ReflectliteValue.method (ReflectliteValue.valueError "reflectlite.Value.IsNil" 0) ReflectliteValue.isNil) Tryz.func63 (by kernel_rfl) (by kernel_rfl) (by kernel_rfl) (by kernel_rfl)
  have h27 := @run_callFunc_extern Tryz.prog 128 _ (ReflectliteType.abiMethod fun t => do pure (.int .u8 (← Rtype.kind t))) Tryz.func128 (by kernel_rfl) (by kernel_rfl) (by kernel_rfl) (by kernel_rfl)
  have h37 := @run_callFunc_extern Tryz.prog 143 _ (ReflectliteType.method ReflectliteType.elem) Tryz.func143 (by kernel_rfl) (by kernel_rfl) (by kernel_rfl) (by kernel_rfl)
  have h38 := @run_callFunc_extern Tryz.prog 144 _ (ReflectliteType.relation "Implements" ReflectliteType.implements_) Tryz.func144 (by kernel_rfl) (by kernel_rfl) (by kernel_rfl) (by kernel_rfl)
  have h10 := @run_callFunc_extern Tryz.prog 50 _ ReflectliteType.typeOf Tryz.func50 (by kernel_rfl) (by kernel_rfl) (by kernel_rfl) (by kernel_rfl)
  have h35 := @run_callFunc_extern Tryz.prog 141 _ (ReflectliteType.relation "AssignableTo" ReflectliteType.assignableTo) Tryz.func141 (by kernel_rfl) (by kernel_rfl) (by kernel_rfl) (by kernel_rfl)
  have h11 := @run_callFunc_extern Tryz.prog 79 _ (ReflectliteValue.method (ReflectliteValue.valueError "reflectlite.Value.Elem" 0) ReflectliteValue.elem) Tryz.func79 (by kernel_rfl) (by kernel_rfl) (by kernel_rfl) (by kernel_rfl)
  have h12 := @run_callFunc_extern Tryz.prog 80 _ ReflectliteValue.set Tryz.func80 (by kernel_rfl) (by kernel_rfl) (by kernel_rfl) (by kernel_rfl)
  have tO := Tryz.typeOfC
  have tW := Tryz.typeOfW
  have mA := Tryz.methodAssignableTo
  have aC := Tryz.assignableC
  have aW := Tryz.assignableW
  have vC := Tryz.valueOfC
  have f6 := Tryz.valueOfPC
  have f7 := Tryz.typePC
  have mK := Tryz.methodKind
  have mE := Tryz.methodElem
  have mI := Tryz.methodImplements
  have kP := Tryz.kindPC
  have kC := Tryz.kindC
  have eP := Tryz.elemPC
  have iC := Tryz.implementsC
  have nA := Tryz.noAsW
  have nAP := Tryz.noAsP
  have uP := Tryz.unwrapP
  have mUP := Tryz.methodUnwrapP
  have tP := Tryz.typeOfP
  have aP := Tryz.assignableP
  have uW := Tryz.unwrapW
  have mU := Tryz.methodUnwrapW
  have hlt : 0 < w.heap.size := block_lt_of_cell hg
  have hgl : g < w.heap.size := block_lt_of_cell h1
  have htl : t < w.heap.size := block_lt_of_cell ht0
  have hql : q < w.heap.size := block_lt_of_cell hq
  have hq1 : q < w.heap.size + 1 := by omega
  have hq2 : q < w.heap.size + 1 + 1 := by omega
  have hq3 : q < w.heap.size + 1 + 1 + 1 := by omega
  have hg1 : g < w.heap.size + 1 := by omega
  have hg2 : g < w.heap.size + 1 + 1 := by omega
  have hg3 : g < w.heap.size + 1 + 1 + 1 := by omega
  have ht1 : t < w.heap.size + 1 := by omega
  have ht2 : t < w.heap.size + 1 + 1 := by omega
  have ht3 : t < w.heap.size + 1 + 1 + 1 := by omega
  have n8 := Tryz.isNilPC ⟨w.heap.size, 0, none⟩ ⟨t, 0, none⟩ ((w.alloc (.cells #[.pointer (some ⟨t, 0, none⟩)] 94)).alloc (.cells #[.pointer (some ⟨1, 94, none⟩), .pointer (some ⟨w.heap.size, 0, none⟩), .int .u64 150] 125)) (by simp)
  have el := Tryz.elemVPC ⟨w.heap.size, 0, none⟩ ⟨t, 0, none⟩ (((w.alloc (.cells #[.pointer (some ⟨t, 0, none⟩)] 94)).alloc (.cells #[.pointer (some ⟨1, 94, none⟩), .pointer (some ⟨w.heap.size, 0, none⟩), .int .u64 150] 125)).alloc (.cells #[.pointer (some ⟨1, 94, none⟩), .pointer (some ⟨w.heap.size, 0, none⟩), .int .u64 150] 125)) (by go_simp)
  have st := Tryz.setC ⟨t, 0, none⟩ ⟨w.heap.size + 1 + 1 + 1, 0, none⟩ c old ((((w.alloc (.cells #[.pointer (some ⟨t, 0, none⟩)] 94)).alloc (.cells #[.pointer (some ⟨1, 94, none⟩), .pointer (some ⟨w.heap.size, 0, none⟩), .int .u64 150] 125)).alloc (.cells #[.pointer (some ⟨1, 94, none⟩), .pointer (some ⟨w.heap.size, 0, none⟩), .int .u64 150] 125)).alloc (.cells #[.int .i64 c] 75)) (by go_simp) (by go_simp) (by go_simp)
  go_enter Tryz.func39, Tryz.ntmps39
  go_wp2
  refine wp_loop_rounds 3 ?_
  rw [rounds_succ]
  go_wp2
  rw [rounds_succ]
  go_wp2
  rw [rounds_succ]
  go_wp2
  go_ret
  exact ⟨rfl, rfl⟩

set_option maxRecDepth 100000 in
set_option maxHeartbeats 4000000 in
theorem is_placed (q g : Nat) (c : Int) (w : World)
    (hq : w.cell? ⟨q, 1, none⟩ = some (.iface 95 (.pointer (some ⟨g, 0, none⟩)))) (h1 : w.cell? ⟨g, 1, none⟩ = some (.iface 75 (.int .i64 c))) :
    Calls Tryz.prog 28 #[.iface 89 (.pointer (some ⟨q, 0, none⟩)), .iface 75 (.int .i64 c)] w fun ev w' => ev = .returned (.bool true) ∧ w = w' := by
  have h10 := @run_callFunc_extern Tryz.prog 50 _ ReflectliteType.typeOf Tryz.func50 (by kernel_rfl) (by kernel_rfl) (by kernel_rfl) (by kernel_rfl)
  have h63 := @run_callFunc_extern Tryz.prog 142 _ (ReflectliteType.method fun t => do Rtype.noPackHeld "Comparable" t; pure (.bool (← typeInfo t).comparable)) Tryz.func142 (by kernel_rfl) (by kernel_rfl) (by kernel_rfl) (by kernel_rfl)
  have tO := Tryz.typeOfC
  have mC := Tryz.methodComparable
  have cC := Tryz.comparableC
  have nI := Tryz.noIsW
  have nIP := Tryz.noIsP
  have uP := Tryz.unwrapP
  have mUP := Tryz.methodUnwrapP
  have uW := Tryz.unwrapW
  have mU := Tryz.methodUnwrapW
  have eC := Tryz.eqCC
  have eW : ∀ (v : Value) (a : Int) (w : World), (binOp .eql 38 (.iface 95 v) (.iface 75 (.int .i64 a))).run Tryz.prog w = .ok (.bool false) w :=
    fun v a w => run_eql_iface_types _ _ _ _ Tryz.underlying38 (by decide) w
  have eP : ∀ (v : Value) (a : Int) (w : World), (binOp .eql 38 (.iface 89 v) (.iface 75 (.int .i64 a))).run Tryz.prog w = .ok (.bool false) w :=
    fun v a w => run_eql_iface_types _ _ _ _ Tryz.underlying38 (by decide) w
  go_enter Tryz.func28, Tryz.ntmps28
  go_wp2
  refine wp_loop_rounds 3 ?_
  rw [rounds_succ]
  go_wp2
  rw [rounds_succ]
  go_wp2
  rw [rounds_succ]
  go_wp2
  go_ret
  exact ⟨rfl, rfl⟩


set_option maxRecDepth 100000 in
set_option maxHeartbeats 1000000 in
theorem class_placed (q g : Nat) (c : Int) (w : World) (hg : w.cell? ⟨0, 0, none⟩ = some (.iface 140 (.agg #[.pointer (some ⟨1, 38, none⟩)])))
    (hq : w.cell? ⟨q, 1, none⟩ = some (.iface 95 (.pointer (some ⟨g, 0, none⟩)))) (h1 : w.cell? ⟨g, 1, none⟩ = some (.iface 75 (.int .i64 c))) :
    Calls Tryz.prog 12 #[.iface 89 (.pointer (some ⟨q, 0, none⟩))] w fun e w' => e = .returned (.int .i64 c) ∧ Below w.heap.size w w' := by
  have hlt : 0 < w.heap.size := block_lt_of_cell hg
  have hgl : g < w.heap.size := block_lt_of_cell h1
  have hql : q < w.heap.size := block_lt_of_cell hq
  have hq1 : q < w.heap.size + 1 := by omega
  have hq2 : q < w.heap.size + 1 + 1 := by omega
  have hq3 : q < w.heap.size + 1 + 1 + 1 := by omega
  have hq4 : q < w.heap.size + 1 + 1 + 1 + 1 := by omega
  have hg1 : g < w.heap.size + 1 := by omega
  have hg2 : g < w.heap.size + 1 + 1 := by omega
  have hg3 : g < w.heap.size + 1 + 1 + 1 := by omega
  have hg4 : g < w.heap.size + 1 + 1 + 1 + 1 := by omega
  have hA := as_placed q g w.heap.size c (.int .i64 0) (w.alloc (.cells #[.int .i64 0] 75)) (by go_simp) (by go_simp) (by go_simp) (by go_simp) (by go_simp)
  have HA := Lib.hid hA
  clear hA
  go_enter Tryz.func12, Tryz.ntmps12
  go_wp2_with (first
    | (go_at_call 39; refine HA.out.mono ?_; rintro e w' ⟨rfl, rfl⟩)
    | (go_at_call 28; refine (is_placed q g c _ ?c0 ?c1).mono ?_; rotate_left; rotate_left; rintro e w' ⟨rfl, rfl⟩; rotate_left; go_simp; go_simp))
  go_ret
  exact ⟨rfl, (((((Below.refl _ _).alloc (Nat.le_refl _) _).alloc (by simp) _).alloc (by simp; omega) _).alloc (by simp; omega) _).alloc (by simp; omega) _⟩
end Go.Proofs.YtfgmbjdeimallaaGreatDoor
