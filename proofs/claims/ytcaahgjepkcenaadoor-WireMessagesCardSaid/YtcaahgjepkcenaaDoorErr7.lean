/- Errors.As, Is and Class of an error placed twice. -/
import Derived.Test.YtcaahgjepkcenaaDoorErr6
namespace Go.Proofs.YtcaahgjepkcenaaDoor
open Go.RowKit Go.Extern.Stop Go.Stop Go.Extern

set_option maxRecDepth 100000 in
set_option maxHeartbeats 4000000 in
theorem as_placed2 (p q g : Nat) (t : Nat) (c : Int) (old : Value) (w : World) (hg : w.cell? ⟨0, 0, none⟩ = some (.iface 153 (.agg #[.pointer (some ⟨2, 27, none⟩)])))
    (hp : w.cell? ⟨p, 1, none⟩ = some (.iface 102 (.pointer (some ⟨q, 0, none⟩)))) (hq : w.cell? ⟨q, 1, none⟩ = some (.iface 106 (.pointer (some ⟨g, 0, none⟩)))) (h1 : w.cell? ⟨g, 1, none⟩ = some (.iface 80 (.int .i64 c))) (ht0 : w.cell? ⟨t, 0, none⟩ = some old) (hf0 : w.frozen? ⟨t, 0, none⟩ = false) :
    Calls Tryd.prog 49 #[.iface 102 (.pointer (some ⟨p, 0, none⟩)), .iface 99 (.pointer (some ⟨t, 0, none⟩))] w fun ev w' => ev = .returned (.bool true) ∧ w' = ((((w.setCell ⟨t, 0, none⟩ (.int .i64 c)).alloc (.cells #[.pointer (some ⟨t, 0, none⟩)] 99)).alloc (.cells #[.pointer (some ⟨2, 99, none⟩), .pointer (some ⟨w.heap.size, 0, none⟩), .int .u64 150] 133)).alloc (.cells #[.pointer (some ⟨2, 99, none⟩), .pointer (some ⟨w.heap.size, 0, none⟩), .int .u64 150] 133)).alloc (.cells #[.int .i64 c] 80) := by
  have h6 := @run_callFunc_extern Tryd.prog 74 _ (fun args => ReflectliteValue.unpack (args.getD 0 (.tuple #[]))) Tryd.func74 (by kernel_rfl) (by kernel_rfl) (by kernel_rfl) (by kernel_rfl)
  have h7 := @run_callFunc_extern Tryd.prog 75 _ (ReflectliteValue.methodAny (ReflectliteValue.valueError "reflectlite.Value.Type" 0) (fun t _ _ _ => ReflectliteType.toType t)) Tryd.func75 (by kernel_rfl) (by kernel_rfl) (by kernel_rfl) (by kernel_rfl)
  have h8 := @run_callFunc_extern Tryd.prog 76 _ (ReflectliteValue.method (ReflectliteValue.valueError "reflectlite.Value.IsNil" 0) ReflectliteValue.isNil) Tryd.func76 (by kernel_rfl) (by kernel_rfl) (by kernel_rfl) (by kernel_rfl)
  have h27 := @run_callFunc_extern Tryd.prog 108 _ (ReflectliteType.abiMethod fun t => do pure (.int .u8 (← Rtype.kind t))) Tryd.func108 (by kernel_rfl) (by kernel_rfl) (by kernel_rfl) (by kernel_rfl)
  have h37 := @run_callFunc_extern Tryd.prog 122 _ (ReflectliteType.method ReflectliteType.elem) Tryd.func122 (by kernel_rfl) (by kernel_rfl) (by kernel_rfl) (by kernel_rfl)
  have h38 := @run_callFunc_extern Tryd.prog 123 _ (ReflectliteType.relation "Implements" ReflectliteType.implements_) Tryd.func123 (by kernel_rfl) (by kernel_rfl) (by kernel_rfl) (by kernel_rfl)
  have h10 := @run_callFunc_extern Tryd.prog 78 _ ReflectliteType.typeOf Tryd.func78 (by kernel_rfl) (by kernel_rfl) (by kernel_rfl) (by kernel_rfl)
  have h35 := @run_callFunc_extern Tryd.prog 120 _ (ReflectliteType.relation "AssignableTo" ReflectliteType.assignableTo) Tryd.func120 (by kernel_rfl) (by kernel_rfl) (by kernel_rfl) (by kernel_rfl)
  have h11 := @run_callFunc_extern Tryd.prog 87 _ (ReflectliteValue.method (ReflectliteValue.valueError "reflectlite.Value.Elem" 0) ReflectliteValue.elem) Tryd.func87 (by kernel_rfl) (by kernel_rfl) (by kernel_rfl) (by kernel_rfl)
  have h12 := @run_callFunc_extern Tryd.prog 88 _ ReflectliteValue.set Tryd.func88 (by kernel_rfl) (by kernel_rfl) (by kernel_rfl) (by kernel_rfl)
  have tO := Tryd.typeOfC
  have tW := Tryd.typeOfW
  have mA := Tryd.methodAssignableTo
  have aC := Tryd.assignableC
  have aW := Tryd.assignableW
  have vC := Tryd.valueOfC
  have f6 := Tryd.valueOfPC
  have f7 := Tryd.typePC
  have mK := Tryd.methodKind
  have mE := Tryd.methodElem
  have mI := Tryd.methodImplements
  have kP := Tryd.kindPC
  have kC := Tryd.kindC
  have eP := Tryd.elemPC
  have iC := Tryd.implementsC
  have nA := Tryd.noAsW
  have nAP := Tryd.noAsP
  have uP := Tryd.unwrapP
  have mUP := Tryd.methodUnwrapP
  have tP := Tryd.typeOfP
  have aP := Tryd.assignableP
  have uW := Tryd.unwrapW
  have mU := Tryd.methodUnwrapW
  have hlt : 0 < w.heap.size := block_lt_of_cell hg
  have hgl : g < w.heap.size := block_lt_of_cell h1
  have htl : t < w.heap.size := block_lt_of_cell ht0
  have hql : q < w.heap.size := block_lt_of_cell hq
  have hpl : p < w.heap.size := block_lt_of_cell hp
  have hp1 : p < w.heap.size + 1 := by omega
  have hp2 : p < w.heap.size + 1 + 1 := by omega
  have hp3 : p < w.heap.size + 1 + 1 + 1 := by omega
  have hp4 : p < w.heap.size + 1 + 1 + 1 + 1 := by omega
  have hq1 : q < w.heap.size + 1 := by omega
  have hq2 : q < w.heap.size + 1 + 1 := by omega
  have hq3 : q < w.heap.size + 1 + 1 + 1 := by omega
  have hg1 : g < w.heap.size + 1 := by omega
  have hg2 : g < w.heap.size + 1 + 1 := by omega
  have hg3 : g < w.heap.size + 1 + 1 + 1 := by omega
  have ht1 : t < w.heap.size + 1 := by omega
  have ht2 : t < w.heap.size + 1 + 1 := by omega
  have ht3 : t < w.heap.size + 1 + 1 + 1 := by omega
  have n8 := Tryd.isNilPC ⟨w.heap.size, 0, none⟩ ⟨t, 0, none⟩ ((w.alloc (.cells #[.pointer (some ⟨t, 0, none⟩)] 99)).alloc (.cells #[.pointer (some ⟨2, 99, none⟩), .pointer (some ⟨w.heap.size, 0, none⟩), .int .u64 150] 133)) (by simp)
  have el := Tryd.elemVPC ⟨w.heap.size, 0, none⟩ ⟨t, 0, none⟩ (((w.alloc (.cells #[.pointer (some ⟨t, 0, none⟩)] 99)).alloc (.cells #[.pointer (some ⟨2, 99, none⟩), .pointer (some ⟨w.heap.size, 0, none⟩), .int .u64 150] 133)).alloc (.cells #[.pointer (some ⟨2, 99, none⟩), .pointer (some ⟨w.heap.size, 0, none⟩), .int .u64 150] 133)) (by go_simp)
  have st := Tryd.setC ⟨t, 0, none⟩ ⟨w.heap.size + 1 + 1 + 1, 0, none⟩ c old ((((w.alloc (.cells #[.pointer (some ⟨t, 0, none⟩)] 99)).alloc (.cells #[.pointer (some ⟨2, 99, none⟩), .pointer (some ⟨w.heap.size, 0, none⟩), .int .u64 150] 133)).alloc (.cells #[.pointer (some ⟨2, 99, none⟩), .pointer (some ⟨w.heap.size, 0, none⟩), .int .u64 150] 133)).alloc (.cells #[.int .i64 c] 80)) (by go_simp) (by go_simp) (by go_simp)
  go_enter Tryd.func49, Tryd.ntmps49
  go_wp2
  refine wp_loop_rounds 4 ?_
  rw [rounds_succ]
  go_wp2
  rw [rounds_succ]
  go_wp2
  rw [rounds_succ]
  go_wp2
  rw [rounds_succ]
  go_wp2
  go_ret
  exact ⟨rfl, rfl⟩

set_option maxRecDepth 100000 in
set_option maxHeartbeats 4000000 in
theorem is_placed2 (p q g : Nat) (c : Int) (w : World)
    (hp : w.cell? ⟨p, 1, none⟩ = some (.iface 102 (.pointer (some ⟨q, 0, none⟩)))) (hq : w.cell? ⟨q, 1, none⟩ = some (.iface 106 (.pointer (some ⟨g, 0, none⟩)))) (h1 : w.cell? ⟨g, 1, none⟩ = some (.iface 80 (.int .i64 c))) :
    Calls Tryd.prog 50 #[.iface 102 (.pointer (some ⟨p, 0, none⟩)), .iface 80 (.int .i64 c)] w fun ev w' => ev = .returned (.bool true) ∧ w = w' := by
  have h10 := @run_callFunc_extern Tryd.prog 78 _ ReflectliteType.typeOf Tryd.func78 (by kernel_rfl) (by kernel_rfl) (by kernel_rfl) (by kernel_rfl)
  have h63 := @run_callFunc_extern Tryd.prog 121 _ (ReflectliteType.method fun t => do Rtype.noPackHeld "Comparable" t; pure (.bool (← typeInfo t).comparable)) Tryd.func121 (by kernel_rfl) (by kernel_rfl) (by kernel_rfl) (by kernel_rfl)
  have tO := Tryd.typeOfC
  have mC := Tryd.methodComparable
  have cC := Tryd.comparableC
  have nI := Tryd.noIsW
  have nIP := Tryd.noIsP
  have uP := Tryd.unwrapP
  have mUP := Tryd.methodUnwrapP
  have uW := Tryd.unwrapW
  have mU := Tryd.methodUnwrapW
  have eC := Tryd.eqCC
  have eW : ∀ (v : Value) (a : Int) (w : World), (binOp .eql 27 (.iface 106 v) (.iface 80 (.int .i64 a))).run Tryd.prog w = .ok (.bool false) w :=
    fun v a w => run_eql_iface_types _ _ _ _ Tryd.underlying27 (by decide) w
  have eP : ∀ (v : Value) (a : Int) (w : World), (binOp .eql 27 (.iface 102 v) (.iface 80 (.int .i64 a))).run Tryd.prog w = .ok (.bool false) w :=
    fun v a w => run_eql_iface_types _ _ _ _ Tryd.underlying27 (by decide) w
  go_enter Tryd.func50, Tryd.ntmps50
  go_wp2
  refine wp_loop_rounds 4 ?_
  rw [rounds_succ]
  go_wp2
  rw [rounds_succ]
  go_wp2
  rw [rounds_succ]
  go_wp2
  rw [rounds_succ]
  go_wp2
  go_ret
  exact ⟨rfl, rfl⟩


set_option maxRecDepth 100000 in
set_option maxHeartbeats 1000000 in
theorem class_placed2 (p q g : Nat) (c : Int) (w : World) (hg : w.cell? ⟨0, 0, none⟩ = some (.iface 153 (.agg #[.pointer (some ⟨2, 27, none⟩)])))
    (hp : w.cell? ⟨p, 1, none⟩ = some (.iface 102 (.pointer (some ⟨q, 0, none⟩)))) (hq : w.cell? ⟨q, 1, none⟩ = some (.iface 106 (.pointer (some ⟨g, 0, none⟩)))) (h1 : w.cell? ⟨g, 1, none⟩ = some (.iface 80 (.int .i64 c))) :
    Calls Tryd.prog 21 #[.iface 102 (.pointer (some ⟨p, 0, none⟩))] w fun e w' => e = .returned (.int .i64 c) ∧ Below w.heap.size w w' := by
  have hlt : 0 < w.heap.size := block_lt_of_cell hg
  have hgl : g < w.heap.size := block_lt_of_cell h1
  have hql : q < w.heap.size := block_lt_of_cell hq
  have hpl : p < w.heap.size := block_lt_of_cell hp
  have hp1 : p < w.heap.size + 1 := by omega
  have hp2 : p < w.heap.size + 1 + 1 := by omega
  have hp3 : p < w.heap.size + 1 + 1 + 1 := by omega
  have hp4 : p < w.heap.size + 1 + 1 + 1 + 1 := by omega
  have hq1 : q < w.heap.size + 1 := by omega
  have hq2 : q < w.heap.size + 1 + 1 := by omega
  have hq3 : q < w.heap.size + 1 + 1 + 1 := by omega
  have hq4 : q < w.heap.size + 1 + 1 + 1 + 1 := by omega
  have hg1 : g < w.heap.size + 1 := by omega
  have hg2 : g < w.heap.size + 1 + 1 := by omega
  have hg3 : g < w.heap.size + 1 + 1 + 1 := by omega
  have hg4 : g < w.heap.size + 1 + 1 + 1 + 1 := by omega
  have hA := as_placed2 p q g w.heap.size c (.int .i64 0) (w.alloc (.cells #[.int .i64 0] 80)) (by go_simp) (by go_simp) (by go_simp) (by go_simp) (by go_simp) (by go_simp)
  have HA := Lib.hid hA
  clear hA
  go_enter Tryd.func21, Tryd.ntmps21
  go_wp2_with (first
    | (go_at_call 49; refine HA.out.mono ?_; rintro e w' ⟨rfl, rfl⟩)
    | (go_at_call 50; refine (is_placed2 p q g c _ ?c0 ?c1 ?c2).mono ?_; rotate_left; rotate_left; rotate_left; rintro e w' ⟨rfl, rfl⟩; rotate_left; go_simp; go_simp; go_simp))
  go_ret
  exact ⟨rfl, (((((Below.refl _ _).alloc (Nat.le_refl _) _).alloc (by simp) _).alloc (by simp; omega) _).alloc (by simp; omega) _).alloc (by simp; omega) _⟩
end Go.Proofs.YtcaahgjepkcenaaDoor
