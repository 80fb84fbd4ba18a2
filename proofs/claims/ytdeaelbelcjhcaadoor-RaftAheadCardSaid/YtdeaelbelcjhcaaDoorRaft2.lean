/- A node of raft: ready; others, feedsAll of a node that is alone. -/
import Derived.Test.YtdeaelbelcjhcaaDoorRaft1
import Derived.Test.YtdeaelbelcjhcaaDoorLaws

namespace Go.Proofs.YtdeaelbelcjhcaaDoor
open Go.RowKit

theorem Tryd.sizeRE : (Tryd.prog.info? 36).map (·.size) = some 6 := by kernel_rfl

/-- what a step hands on -/
def Rf.out (r : Rf) : Array Value := #[.slice r.ms.1 r.ms.2.1 r.ms.2.2, .int .u64 r.tm, .int .i64 r.vt, .int .u64 r.fr, .slice r.dn.1 r.dn.2.1 r.dn.2.2, .slice r.ins.1 r.ins.2.1 r.ins.2.2]
/-- and what it leaves -/
def Rf.bare (r : Rf) : Rf := { r with ms := (none, 0, 0), ht := 0, hv := 0, fr := 0, dn := (none, 0, 0), ins := (none, 0, 0) }

set_option maxRecDepth 100000 in
set_option maxHeartbeats 4000000 in
theorem rready (b : Nat) (r : Rf) (w : World) (hB : Blk w b 63 r.cells) :
    Calls Tryd.prog 21 #[.pointer (some ⟨b, 0, none⟩)] w fun e w' => e = .returned (.agg r.out) ∧ Blk w' b 63 r.bare.cells ∧ Keeps [b] w w' := by
  have hc := hB.cell
  simp only [Rf.cells] at hc
  have hl := hB.lt
  have hf := hB.free
  go_enter Tryd.func21, Tryd.ntmps21
  go_wp2
  exact bodyPost_ret (results_c rfl rfl ((Blk.fresh_at _ _ _ (by simp)).alloc _) Tryd.underlying36 rfl Tryd.sizeRE) rfl
    ⟨rfl, (((((((((hB.put 15 _).put 16 _).put 17 _).put 18 _).put 19 _).put 20 _).alloc _).alloc _).eq (by simp [Rf.cells, Rf.bare])),
      ((((((((Keeps.refl [b] w).set (by simp) _).set (by simp) _).set (by simp) _).set (by simp) _).set (by simp) _).set (by simp) _).alloc _).alloc _⟩

set_option maxRecDepth 100000 in
set_option maxHeartbeats 4000000 in
theorem rothers1 (b : Nat) (r : Rf) (w : World) (hB : Blk w b 63 r.cells) (h0 : r.id = 0) (h1 : r.n = 1) :
    Calls Tryd.prog 39 #[.pointer (some ⟨b, 0, none⟩)] w fun e w' => e = .returned (.slice none 0 0) ∧ w' = w := by
  have hc := hB.cell
  simp only [Rf.cells, h0, h1] at hc
  have hl := hB.lt
  go_enter Tryd.func39, Tryd.ntmps39
  go_wp2
  refine wp_loop_rounds 2 ?_
  rw [rounds_succ]
  go_wp2
  rw [rounds_succ]
  go_wp2
  go_ret
  exact ⟨rfl, rfl⟩

set_option maxRecDepth 100000 in
set_option maxHeartbeats 4000000 in
theorem rfeedsAll1 (b : Nat) (r : Rf) (w : World) (hB : Blk w b 63 r.cells) (h0 : r.id = 0) (h1 : r.n = 1) :
    Calls Tryd.prog 19 #[.pointer (some ⟨b, 0, none⟩)] w fun e w' => e = .returned (.tuple #[]) ∧ w' = w := by
  have hl := hB.lt
  go_enter Tryd.func19, Tryd.ntmps19
  go_wp2_with fail
  refine (rothers1 b r w hB h0 h1).mono ?_
  rintro e w' ⟨rfl, rfl⟩
  go_wp2
  refine wp_loop_rounds 1 ?_
  rw [rounds_succ]
  go_wp2
  go_end0
  exact ⟨rfl, rfl⟩
end Go.Proofs.YtdeaelbelcjhcaaDoor
