/- The log's methods, one contract each: Base, last, fault, Term, Last. -/
import Derived.Test.YtdeaelbelcjhcaaDoorLogM

namespace Go.Proofs.YtdeaelbelcjhcaaDoor
open Go.RowKit

theorem lbase (b : Nat) (g : Lg) (w : World) (h : LogAt w b g) :
    Calls Tryd.prog 16 #[.pointer (some ⟨b, 0, none⟩)] w fun e w' => e = .returned (.tuple #[.int .u64 g.base, .int .u64 g.tm]) ∧ Keeps [] w w' := by
  obtain ⟨ao, c, hB, hS, _⟩ := h
  have hc := hB.cell
  have hl := hB.lt
  go_enter Tryd.func16, Tryd.ntmps16
  go_wp2
  go_quiet (fail)
  go_wp2
  go_ret2
  exact ⟨rfl, (Keeps.refl [] w).drewN _⟩

theorem llast (b : Nat) (g : Lg) (w : World) (h : LogAt w b g) (h0 : 0 ≤ g.base) (h1 : g.last < 4611686018427387904) :
    Calls Tryd.prog 48 #[.pointer (some ⟨b, 0, none⟩)] w fun e w' => e = .returned (.int .u64 g.last) ∧ Keeps [] w w' := by
  obtain ⟨ao, c, hB, hS, _⟩ := h
  have hc := hB.cell
  have hl := hB.lt
  unfold Lg.last at *
  have k1 : IntKind.u64.wrap (g.es.length : Int) = g.es.length := IntWalk.u64_in _ (by omega)
  have k2 : IntKind.u64.wrap (g.base + (g.es.length : Int)) = g.base + g.es.length := IntWalk.u64_in _ (by omega)
  go_enter Tryd.func48, Tryd.ntmps48
  go_wp2
  go_quiet (fail)
  go_wp2
  go_ret
  exact ⟨rfl, (Keeps.refl [] w).drewN _⟩

theorem lfault (p : ByteArray) (c : Int) (w : World) :
    Calls Tryd.prog 49 #[.string p, .int .i64 c] w fun e w' => ∃ g, e = .returned (.iface 86 (.pointer (some ⟨g, 0, none⟩))) ∧ g = w.heap.size ∧ Blk w' g 88 #[.string p, .iface 41 (.int .i64 c)] ∧ Keeps [] w w' := by
  go_enter Tryd.func49, Tryd.ntmps49
  go_wp2
  go_ret
  exact ⟨_, rfl, rfl, Blk.fresh _ _ _, (Keeps.refl [] w).alloc _⟩
end Go.Proofs.YtdeaelbelcjhcaaDoor
