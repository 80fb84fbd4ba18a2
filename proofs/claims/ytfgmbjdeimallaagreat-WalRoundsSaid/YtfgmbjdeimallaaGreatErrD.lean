/- errors.Is, errors.As, Class at a class that stands alone; errors.Is at any class; the disk's errors. -/
import Derived.Test.YtfgmbjdeimallaaGreatErrs
import Derived.Test.YtfgmbjdeimallaaGreatErrZ

namespace Go.Proofs.YtfgmbjdeimallaaGreat
open Go.RowKit Go.Extern.Stop Go.Stop Go.Extern

theorem Tryz.noIsC (v : Value) (xT : TypeId) (w : World) : (Instr.typeAssert (.iface 61 v) xT 114 true).run Tryz.prog w = .ok (.tuple #[.nilIface, .bool false]) w :=
  run_typeAssert_lacksB Tryz.underlying114 (by kernel_rfl) (by kernel_rfl) v xT w
theorem Tryz.noUnC (v : Value) (xT : TypeId) (w : World) : (Instr.typeAssert (.iface 61 v) xT 116 true).run Tryz.prog w = .ok (.tuple #[.nilIface, .bool false]) w :=
  run_typeAssert_lacksB Tryz.underlying116 (by kernel_rfl) (by kernel_rfl) v xT w
theorem Tryz.noUsC (v : Value) (xT : TypeId) (w : World) : (Instr.typeAssert (.iface 61 v) xT 117 true).run Tryz.prog w = .ok (.tuple #[.nilIface, .bool false]) w :=
  run_typeAssert_lacksB Tryz.underlying117 (by kernel_rfl) (by kernel_rfl) v xT w

set_option maxRecDepth 100000 in
set_option maxHeartbeats 4000000 in
theorem is_class (a c : Int) (w : World) :
    Calls Tryz.prog 20 #[.iface 61 (.int .i64 a), .iface 61 (.int .i64 c)] w fun ev w' => ev = .returned (.bool (decide (a = c))) ∧ w' = w := by
  have h10 := @run_callFunc_extern Tryz.prog 36 _ ReflectliteType.typeOf Tryz.func36 (by kernel_rfl) (by kernel_rfl) (by kernel_rfl) (by kernel_rfl)
  have h63 := @run_callFunc_extern Tryz.prog 121 _ (ReflectliteType.method fun t => do Rtype.noPackHeld "Comparable" t; pure (.bool (← typeInfo t).comparable)) Tryz.func121 (by kernel_rfl) (by kernel_rfl) (by kernel_rfl) (by kernel_rfl)
  have tO := Tryz.typeOfC
  have mC := Tryz.methodComparable
  have cC := Tryz.comparableC
  have nI := Tryz.noIsC
  have nU := Tryz.noUnC
  have nS := Tryz.noUsC
  have eC := Tryz.eqCC
  by_cases h : a = c
  · subst h
    go_enter Tryz.func20, Tryz.ntmps20
    go_wp2
    refine wp_loop_rounds 1 ?_
    rw [rounds_succ]
    go_wp2
    go_ret
    exact ⟨by simp, rfl⟩
  · have hb : (a == c) = false := by simpa using h
    rw [decide_eq_false h]
    go_enter Tryz.func20, Tryz.ntmps20
    go_wp2
    refine wp_loop_rounds 1 ?_
    rw [rounds_succ]
    go_wp2
    go_ret
    exact ⟨rfl, rfl⟩

set_option maxRecDepth 100000 in
set_option maxHeartbeats 4000000 in
theorem is_withinD (g : Nat) (a c : Int) (w : World) (h1 : w.cell? ⟨g, 1, none⟩ = some (.iface 61 (.int .i64 a))) :
    Calls Tryz.prog 20 #[.iface 69 (.pointer (some ⟨g, 0, none⟩)), .iface 61 (.int .i64 c)] w fun ev w' => ev = .returned (.bool (decide (a = c))) ∧ w' = w := by
  by_cases h : a = c
  · subst h
    exact (is_within g a w h1).mono fun e w' he => ⟨by rw [he.1]; simp, he.2.symm⟩
  have hb : (a == c) = false := by simpa using h
  rw [decide_eq_false h]
  have h10 := @run_callFunc_extern Tryz.prog 36 _ ReflectliteType.typeOf Tryz.func36 (by kernel_rfl) (by kernel_rfl) (by kernel_rfl) (by kernel_rfl)
  have h63 := @run_callFunc_extern Tryz.prog 121 _ (ReflectliteType.method fun t => do Rtype.noPackHeld "Comparable" t; pure (.bool (← typeInfo t).comparable)) Tryz.func121 (by kernel_rfl) (by kernel_rfl) (by kernel_rfl) (by kernel_rfl)
  have tO := Tryz.typeOfC
  have mC := Tryz.methodComparable
  have cC := Tryz.comparableC
  have nI := Tryz.noIsW
  have uW := Tryz.unwrapW
  have mU := Tryz.methodUnwrapW
  have nIC := Tryz.noIsC
  have nU := Tryz.noUnC
  have nS := Tryz.noUsC
  have eC := Tryz.eqCC
  have eW : ∀ (v : Value) (a : Int) (w : World), (binOp .eql 31 (.iface 69 v) (.iface 61 (.int .i64 a))).run Tryz.prog w = .ok (.bool false) w :=
    fun v a w => run_eql_iface_types _ _ _ _ Tryz.underlying31 (by decide) w
  go_enter Tryz.func20, Tryz.ntmps20
  go_wp2
  refine wp_loop_rounds 2 ?_
  rw [rounds_succ]
  go_wp2
  rw [rounds_succ]
  go_wp2
  go_ret
  exact ⟨rfl, rfl⟩

/-- how a disk's call ends -/
inductive DRes
  | ok
  | down
  | bad (p : List UInt8) (c : Int)
def DRes.cls : DRes → Int
  | .ok => 0
  | .down => 32
  | .bad _ c => c
/-- the error value that tells it -/
def DE (w : World) (ev : Value) : DRes → Prop
  | .ok => ev = .nilIface
  | .down => ev = .iface 61 (.int .i64 32)
  | .bad p c => ∃ g, ev = .iface 69 (.pointer (some ⟨g, 0, none⟩)) ∧ Blk w g 71 #[.string ⟨p.toArray⟩, .iface 61 (.int .i64 c)]
theorem DE.keep {w w' : World} {ev : Value} {r : DRes} {L : List Nat} (h : DE w ev r) (hk : Keeps L w w') (hL : ∀ g cs, Blk w g 71 cs → g ∉ L) : DE w' ev r := by
  cases r with
  | ok => exact h
  | down => exact h
  | bad p c =>
    obtain ⟨g, h1, h2⟩ := h
    exact ⟨g, h1, h2.keep hk (hL g _ h2)⟩
theorem DE.keep0 {w w' : World} {ev : Value} {r : DRes} (h : DE w ev r) (hk : Keeps [] w w') : DE w' ev r := h.keep hk (by simp)
theorem is_de {w : World} {ev : Value} {r : DRes} (h : DE w ev r) (c : Int) (hc : c ≠ 0) :
    Calls Tryz.prog 20 #[ev, .iface 61 (.int .i64 c)] w fun e w' => e = .returned (.bool (decide (r.cls = c))) ∧ w' = w := by
  cases r with
  | ok => rw [show ev = .nilIface from h]; exact (is_nil c w).mono fun e w' h => ⟨by rw [h.1, decide_eq_false]; exact fun e => hc e.symm, h.2.symm⟩
  | down => rw [show ev = _ from h]; exact is_class 32 c w
  | bad p a =>
    obtain ⟨g, rfl, h2⟩ := h
    exact is_withinD g a c w (h2.cell 1)
end Go.Proofs.YtfgmbjdeimallaaGreat
