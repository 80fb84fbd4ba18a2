/- The log's methods, one contract each: Base, last, fault, Term, Last. -/
import Derived.Test.YtbegjhfkfmhidaaLogM

namespace Go.Proofs.Ytbegjhfkfmhidaa
open Go.RowKit

theorem lbase (b : Nat) (g : Lg) (w : World) (h : LogAt w b g) :
    Calls Try.prog 19 #[.pointer (some ⟨b, 0, none⟩)] w fun e w' => e = .returned (.tuple #[.int .u64 g.base, .int .u64 g.tm]) ∧ Keeps [] w w' := by
  obtain ⟨ao, c, hB, hS, _⟩ := h
  have hc := hB.cell
  have hl := hB.lt
  go_enter Try.func19, Try.ntmps19
  go_wp2
  go_quiet (fail)
  go_wp2
  go_ret2
  exact ⟨rfl, (Keeps.refl [] w).drewN _⟩

theorem llast (b : Nat) (g : Lg) (w : World) (h : LogAt w b g) (h0 : 0 ≤ g.base) (h1 : g.last < 4611686018427387904) :
    Calls Try.prog 43 #[.pointer (some ⟨b, 0, none⟩)] w fun e w' => e = .returned (.int .u64 g.last) ∧ Keeps [] w w' := by
  obtain ⟨ao, c, hB, hS, _⟩ := h
  have hc := hB.cell
  have hl := hB.lt
  unfold Lg.last at *
  have k1 : IntKind.u64.wrap (g.es.length : Int) = g.es.length := IntWalk.u64_in _ (by omega)
  have k2 : IntKind.u64.wrap (g.base + (g.es.length : Int)) = g.base + g.es.length := IntWalk.u64_in _ (by omega)
  go_enter Try.func43, Try.ntmps43
  go_wp2
  go_quiet (fail)
  go_wp2
  go_ret
  exact ⟨rfl, (Keeps.refl [] w).drewN _⟩

theorem lfault (p : ByteArray) (c : Int) (w : World) :
    Calls Try.prog 47 #[.string p, .int .i64 c] w fun e w' => ∃ g, e = .returned (.iface 89 (.pointer (some ⟨g, 0, none⟩))) ∧ g = w.heap.size ∧ Blk w' g 91 #[.string p, .iface 52 (.int .i64 c)] ∧ Keeps [] w w' := by
  go_enter Try.func47, Try.ntmps47
  go_wp2
  go_ret
  exact ⟨_, rfl, rfl, Blk.fresh _ _ _, (Keeps.refl [] w).alloc _⟩
end Go.Proofs.Ytbegjhfkfmhidaa
