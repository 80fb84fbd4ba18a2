/- consistoryhelp.Class: 0 of nil; the class of an api.Within around a class. -/
import Derived.Test.YtcebbgmjbincbaaDoorErr3
import Derived.Test.YtcebbgmjbincbaaDoorErr4
namespace Go.Proofs.YtcebbgmjbincbaaDoor
open Go.RowKit

theorem class_nil (w : World) : Calls Tryd.prog 13 #[.nilIface] w fun e w' => e = .returned (.int .i64 0) ∧ w = w' := by
  go_enter Tryd.func13, Tryd.ntmps13
  go_wp2
  go_ret
  exact ⟨rfl, rfl⟩

set_option maxRecDepth 100000 in
set_option maxHeartbeats 1000000 in
theorem class_within (g : Nat) (c : Int) (w : World) (hg : w.cell? ⟨0, 0, none⟩ = some (.iface 148 (.agg #[.pointer (some ⟨1, 28, none⟩)])))
    (h1 : w.cell? ⟨g, 1, none⟩ = some (.iface 98 (.int .i64 c))) :
    Calls Tryd.prog 13 #[.iface 122 (.pointer (some ⟨g, 0, none⟩))] w fun e w' => e = .returned (.int .i64 c) ∧ Below w.heap.size w w' := by
  have hlt : 0 < w.heap.size := block_lt_of_cell hg
  have hgl : g < w.heap.size := block_lt_of_cell h1
  have hg1 : g < w.heap.size + 1 := by omega
  have hg2 : g < w.heap.size + 1 + 1 := by omega
  have hg3 : g < w.heap.size + 1 + 1 + 1 := by omega
  have hg4 : g < w.heap.size + 1 + 1 + 1 + 1 := by omega
  have hA := as_within g w.heap.size c (.int .i64 0) (w.alloc (.cells #[.int .i64 0] 98)) (by go_simp) (by go_simp) (by go_simp) (by go_simp)
  have HA := Lib.hid hA
  clear hA
  go_enter Tryd.func13, Tryd.ntmps13
  go_wp2_with (first
    | (go_at_call 51; refine HA.out.mono ?_; rintro e w' ⟨rfl, rfl⟩)
    | (go_at_call 47; refine (is_within g c _ ?c1).mono ?_; rotate_left; rintro e w' ⟨rfl, rfl⟩; rotate_left; go_simp))
  go_ret
  exact ⟨rfl, (((((Below.refl _ _).alloc (Nat.le_refl _) _).alloc (by simp) _).alloc (by simp; omega) _).alloc (by simp; omega) _).alloc (by simp; omega) _⟩
end Go.Proofs.YtcebbgmjbincbaaDoor
