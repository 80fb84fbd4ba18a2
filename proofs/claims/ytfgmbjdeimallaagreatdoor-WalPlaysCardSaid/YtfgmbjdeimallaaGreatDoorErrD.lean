/- errors.Is, errors.As, Class at a class that stands alone; errors.Is at any class; the disk's errors. -/
import Derived.Test.YtfgmbjdeimallaaGreatDoorErrs

namespace Go.Proofs.YtfgmbjdeimallaaGreatDoor
open Go.RowKit Go.Extern.Stop Go.Stop Go.Extern

theorem Tryz.noIsC (v : Value) (xT : TypeId) (w : World) : (Instr.typeAssert (.iface 75 v) xT 142 true).run Tryz.prog w = .ok (.tuple #[.nilIface, .bool false]) w :=
  run_typeAssert_lacksB Tryz.underlying142 (by kernel_rfl) (by kernel_rfl) v xT w
theorem Tryz.noUnC (v : Value) (xT : TypeId) (w : World) : (Instr.typeAssert (.iface 75 v) xT 144 true).run Tryz.prog w = .ok (.tuple #[.nilIface, .bool false]) w :=
  run_typeAssert_lacksB Tryz.underlying144 (by kernel_rfl) (by kernel_rfl) v xT w
theorem Tryz.noUsC (v : Value) (xT : TypeId) (w : World) : (Instr.typeAssert (.iface 75 v) xT 145 true).run Tryz.prog w = .ok (.tuple #[.nilIface, .bool false]) w :=
  run_typeAssert_lacksB Tryz.underlying145 (by kernel_rfl) (by kernel_rfl) v xT w

set_option maxRecDepth 100000 in
set_option maxHeartbeats 4000000 in
theorem as_class (t : Nat) (c : Int) (old : Value) (w : World) (hg : w.cell? ⟨0, 0, none⟩ = some (.iface 140 (.agg #[.pointer (some ⟨1, 38, none⟩)])))
    (ht0 : w.cell? ⟨t, 0, none⟩ = some old) (hf0 : w.frozen? ⟨t, 0, none⟩ = false) :
    Calls Tryz.prog 39 #[.iface 75 (.int .i64 c), .iface 94 (.pointer (some ⟨t, 0, none⟩))] w fun ev w' => ev = .returned (.bool true) ∧ w' = ((((w.setCell ⟨t, 0, none⟩ (.int .i64 c)).alloc (.cells #[.pointer (some ⟨t, 0, none⟩)] 94)).alloc (.cells #[.pointer (some ⟨1, 94, none⟩), .pointer (some ⟨w.heap.size, 0, none⟩), .int .u64 150] 125)).alloc (.cells #[.pointer (some ⟨1, 94, none⟩), .pointer (some ⟨w.heap.size, 0, none⟩), .int .u64 150] 125)).alloc (.cells #[.int .i64 c] 75) := by
  have h6 := @run_callFunc_extern Tryz.prog 61 _ (fun args => ReflectliteValue.unpack (args.getD 0 (.tuple #[]))) Tryz.func61 (by kernel_rfl) (by kernel_rfl) (by kernel_rfl) (by kernel_rfl)
  have h7 := @run_callFunc_extern Tryz.prog 62 _ (ReflectliteValue.methodAny (ReflectliteValue.valueError "reflectlite.Value.Type" 0) (fun t _ _ _ => ReflectliteType.toType t)) Tryz.func62 (by kernel_rfl) (by kernel_rfl) (by kernel_rfl) (by kernel_rfl)
  have h8 := @run_callFunc_extern Tryz.prog 63 _ (ReflectliteValue.method (ReflectliteValue.valueError "reflectlite.Value.IsNil" 0) ReflectliteValue.isNil) Tryz.func63 (by kernel_rfl) (by kernel_rfl) (by kernel_rfl) (by kernel_rfl)
  have h27 := @run_callFunc_extern Tryz.prog 128 _ (ReflectliteType.abiMethod fun t => do pure (.int .u8 (← Rtype.kind t))) Tryz.func128 (by kernel_rfl) (by kernel_rfl) (by kernel_rfl) (by kernel_rfl)
  have h37 := @run_callFunc_extern Tryz.prog 143 _ (ReflectliteType.method ReflectliteType.elem) Tryz.func143 (by kernel_rfl) (by kernel_rfl) (by kernel_rfl) (by kernel_rfl)
  have h38 := @run_callFunc_extern Tryz.prog 144 _ (ReflectliteType.relation "Implements" ReflectliteType.implements_) Tryz.func144 (by kernel_rfl) (by kernel_rfl) (by kernel_rfl) (by kernel_rfl)
  have h10 := @run_callFunc_extern Tryz.prog 50 _ ReflectliteType.typeOf Tryz.func50 (by kernel_rfl) (by kernel_rfl) (by kernel_rfl) (by kernel_rfl)
  have h35 := @run_callFunc_extern Tryz.prog 141 _ (ReflectliteType.relation "AssignableTo" ReflectliteType.assignableTo) Tryz.func141 (by kernel_rfl) (by kernel_rfl) (by kernel_rfl) (by kernel_rfl)
  have h11 := @run_callFunc_extern Tryz.prog 79 _ (ReflectliteValue.method (ReflectliteValue.valueError "reflectlite.Value.Elem" 0) ReflectliteValue.elem) Tryz.func79 (by kernel_rfl) (by kernel_rfl) (by kernel_rfl) (by kernel_rfl)
  have h12 := @run_callFunc_extern Tryz.prog 80 _ ReflectliteValue.set Tryz.func80 (by kernel_rfl) (by kernel_rfl) (by kernel_rfl) (by kernel_rfl)
  have tO := Tryz.typeOfC
  have mA := Tryz.methodAssignableTo
  have aC := Tryz.assignableC
  have vC := Tryz.valueOfC
  have f6 := Tryz.valueOfPC
  have f7 := Tryz.typePC
  have mK := Tryz.methodKind
  have mE := Tryz.methodElem
  have mI := Tryz.methodImplements
  have kP := Tryz.kindPC
  have kC := Tryz.kindC
  have eP := Tryz.elemPC
  have iC := Tryz.implementsC
  have hlt : 0 < w.heap.size := block_lt_of_cell hg
  have htl : t < w.heap.size := block_lt_of_cell ht0
  have ht1 : t < w.heap.size + 1 := by omega
  have ht2 : t < w.heap.size + 1 + 1 := by omega
  have ht3 : t < w.heap.size + 1 + 1 + 1 := by omega
  have n8 := Tryz.isNilPC ⟨w.heap.size, 0, none⟩ ⟨t, 0, none⟩ ((w.alloc (.cells #[.pointer (some ⟨t, 0, none⟩)] 94)).alloc (.cells #[.pointer (some ⟨1, 94, none⟩), .pointer (some ⟨w.heap.size, 0, none⟩), .int .u64 150] 125)) (by simp)
  have el := Tryz.elemVPC ⟨w.heap.size, 0, none⟩ ⟨t, 0, none⟩ (((w.alloc (.cells #[.pointer (some ⟨t, 0, none⟩)] 94)).alloc (.cells #[.pointer (some ⟨1, 94, none⟩), .pointer (some ⟨w.heap.size, 0, none⟩), .int .u64 150] 125)).alloc (.cells #[.pointer (some ⟨1, 94, none⟩), .pointer (some ⟨w.heap.size, 0, none⟩), .int .u64 150] 125)) (by go_simp)
  have st := Tryz.setC ⟨t, 0, none⟩ ⟨w.heap.size + 1 + 1 + 1, 0, none⟩ c old ((((w.alloc (.cells #[.pointer (some ⟨t, 0, none⟩)] 94)).alloc (.cells #[.pointer (some ⟨1, 94, none⟩), .pointer (some ⟨w.heap.size, 0, none⟩), .int .u64 150] 125)).alloc (.cells #[.pointer (some ⟨1, 94, none⟩), .pointer (some ⟨w.heap.size, 0, none⟩), .int .u64 150] 125)).alloc (.cells #[.int .i64 c] 75)) (by go_simp) (by go_simp) (by go_simp)
  go_enter Tryz.func39, Tryz.ntmps39
  go_wp2
  refine wp_loop_rounds 1 ?_
  rw [rounds_succ]
  go_wp2
  go_ret
  exact ⟨rfl, rfl⟩

set_option maxRecDepth 100000 in
set_option maxHeartbeats 4000000 in
theorem is_class (a c : Int) (w : World) :
    Calls Tryz.prog 28 #[.iface 75 (.int .i64 a), .iface 75 (.int .i64 c)] w fun ev w' => ev = .returned (.bool (decide (a = c))) ∧ w' = w := by
  have h10 := @run_callFunc_extern Tryz.prog 50 _ ReflectliteType.typeOf Tryz.func50 (by kernel_rfl) (by kernel_rfl) (by kernel_rfl) (by kernel_rfl)
  have h63 := @run_callFunc_extern Tryz.prog 142 _ (ReflectliteType.method fun t => do Rtype.noPackHeld "Comparable" t; pure (.bool (← typeInfo t).comparable)) Tryz.func142 (by kernel_rfl) (by kernel_rfl) (by kernel_rfl) (by kernel_rfl)
  have tO := Tryz.typeOfC
  have mC := Tryz.methodComparable
  have cC := Tryz.comparableC
  have nI := Tryz.noIsC
  have nU := Tryz.noUnC
  have nS := Tryz.noUsC
  have eC := Tryz.eqCC
  by_cases h : a = c
  · subst h
    go_enter Tryz.func28, Tryz.ntmps28
    go_wp2
    refine wp_loop_rounds 1 ?_
    rw [rounds_succ]
    go_wp2
    go_ret
    exact ⟨by simp, rfl⟩
  · have hb : (a == c) = false := by simpa using h
    rw [decide_eq_false h]
    go_enter Tryz.func28, Tryz.ntmps28
    go_wp2
    refine wp_loop_rounds 1 ?_
    rw [rounds_succ]
    go_wp2
    go_ret
    exact ⟨rfl, rfl⟩

set_option maxRecDepth 100000 in
set_option maxHeartbeats 4000000 in
theorem is_withinD (g : Nat) (a c : Int) (w : World) (h1 : w.cell? ⟨g, 1, none⟩ = some (.iface 75 (.int .i64 a))) :
    Calls Tryz.prog 28 #[.iface 95 (.pointer (some ⟨g, 0, none⟩)), .iface 75 (.int .i64 c)] w fun ev w' => ev = .returned (.bool (decide (a = c))) ∧ w' = w := by
  by_cases h : a = c
  · subst h
    exact (is_within g a w h1).mono fun e w' he => ⟨by rw [he.1]; simp, he.2.symm⟩
  have hb : (a == c) = false := by simpa using h
  rw [decide_eq_false h]
  have h10 := @run_callFunc_extern Tryz.prog 50 _ ReflectliteType.typeOf Tryz.func50 (by kernel_rfl) (by kernel_rfl) (by kernel_rfl) (by kernel_rfl)
  have h63 := @run_callFunc_extern Tryz.prog 142 _ (ReflectliteType.method fun t => do Rtype.noPackHeld "Comparable" t; pure (.bool (← typeInfo t).comparable)) Tryz.func142 (by kernel_rfl) (by kernel_rfl) (by kernel_rfl) (by kernel_rfl)
  have tO := Tryz.typeOfC
  have mC := Tryz.methodComparable
  have cC := Tryz.comparableC
  have nI := Tryz.noIsW
  have uW := Tryz.unwrapW
  have mU := Tryz.methodUnwrapW
  have nIC := Tryz.noIsC
  have nU := Tryz.noUnC
  have nS := Tryz.noUsC
  have eC := Tryz.eqCC
  have eW : ∀ (v : Value) (a : Int) (w : World), (binOp .eql 38 (.iface 95 v) (.iface 75 (.int .i64 a))).run Tryz.prog w = .ok (.bool false) w :=
    fun v a w => run_eql_iface_types _ _ _ _ Tryz.underlying38 (by decide) w
  go_enter Tryz.func28, Tryz.ntmps28
  go_wp2
  refine wp_loop_rounds 2 ?_
  rw [rounds_succ]
  go_wp2
  rw [rounds_succ]
  go_wp2
  go_ret
  exact ⟨rfl, rfl⟩

set_option maxRecDepth 100000 in
set_option maxHeartbeats 1000000 in
theorem class_class (c : Int) (w : World) (hg : (w).cell? ⟨0, 0, none⟩ = some (.iface 140 (.agg #[.pointer (some ⟨1, 38, none⟩)]))) :
    Calls Tryz.prog 12 #[.iface 75 (.int .i64 c)] w fun e w' => e = .returned (.int .i64 c) ∧ Below w.heap.size w w' := by
  have hlt : 0 < w.heap.size := block_lt_of_cell hg
  have hA := as_class w.heap.size c (.int .i64 0) (w.alloc (.cells #[.int .i64 0] 75)) (by go_simp) (by go_simp) (by go_simp)
  have HA := Lib.hid hA
  clear hA
  go_enter Tryz.func12, Tryz.ntmps12
  go_wp2_with (first
    | (go_at_call 39; refine HA.out.mono ?_; rintro e w' ⟨rfl, rfl⟩)
    | (go_at_call 28; refine (is_class c c _).mono ?_; simp only [decide_true]; rintro e w' ⟨rfl, rfl⟩))
  go_ret
  exact ⟨rfl, (((((Below.refl _ _).alloc (Nat.le_refl _) _).alloc (by simp) _).alloc (by simp; omega) _).alloc (by simp; omega) _).alloc (by simp; omega) _⟩

/-- how a disk's call ends -/
inductive DRes
  | ok
  | down
  | bad (p : List UInt8) (c : Int)
def DRes.cls : DRes → Int
  | .ok => 0
  | .down => 32
  | .bad _ c => c
/-- the error value that tells it -/
def DE (w : World) (ev : Value) : DRes → Prop
  | .ok => ev = .nilIface
  | .down => ev = .iface 75 (.int .i64 32)
  | .bad p c => ∃ g, ev = .iface 95 (.pointer (some ⟨g, 0, none⟩)) ∧ Blk w g 97 #[.string ⟨p.toArray⟩, .iface 75 (.int .i64 c)]
theorem DE.keep {w w' : World} {ev : Value} {r : DRes} {L : List Nat} (h : DE w ev r) (hk : Keeps L w w') (hL : ∀ g cs, Blk w g 97 cs → g ∉ L) : DE w' ev r := by
  cases r with
  | ok => exact h
  | down => exact h
  | bad p c =>
    obtain ⟨g, h1, h2⟩ := h
    exact ⟨g, h1, h2.keep hk (hL g _ h2)⟩
theorem DE.keep0 {w w' : World} {ev : Value} {r : DRes} (h : DE w ev r) (hk : Keeps [] w w') : DE w' ev r := h.keep hk (by simp)
theorem class_de {w : World} {ev : Value} {r : DRes} (hg : (w).cell? ⟨0, 0, none⟩ = some (.iface 140 (.agg #[.pointer (some ⟨1, 38, none⟩)]))) (h : DE w ev r) :
    Calls Tryz.prog 12 #[ev] w fun e w' => e = .returned (.int .i64 r.cls) ∧ Keeps [] w w' := by
  cases r with
  | ok => rw [show ev = .nilIface from h]; exact (class_nil w).mono fun e w' h => ⟨h.1, h.2 ▸ Keeps.refl _ _⟩
  | down => rw [show ev = _ from h]; exact (class_class 32 w hg).mono fun e w' h => ⟨h.1, Keeps.of_below h.2⟩
  | bad p c =>
    obtain ⟨g, rfl, h2⟩ := h
    exact (class_within g c w hg (h2.cell 1)).mono fun e w' h => ⟨h.1, Keeps.of_below h.2⟩
theorem is_de {w : World} {ev : Value} {r : DRes} (h : DE w ev r) (c : Int) (hc : c ≠ 0) :
    Calls Tryz.prog 28 #[ev, .iface 75 (.int .i64 c)] w fun e w' => e = .returned (.bool (decide (r.cls = c))) ∧ w' = w := by
  cases r with
  | ok => rw [show ev = .nilIface from h]; exact (is_nil c w).mono fun e w' h => ⟨by rw [h.1, decide_eq_false]; exact fun e => hc e.symm, h.2.symm⟩
  | down => rw [show ev = _ from h]; exact is_class 32 c w
  | bad p a =>
    obtain ⟨g, rfl, h2⟩ := h
    exact is_withinD g a c w (h2.cell 1)
end Go.Proofs.YtfgmbjdeimallaaGreatDoor
