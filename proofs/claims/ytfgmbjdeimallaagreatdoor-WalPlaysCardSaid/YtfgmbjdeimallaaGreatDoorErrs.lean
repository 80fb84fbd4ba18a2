/- Errors of parts, as values: nil, or a part's error of a class. -/
import Derived.Test.YtfgmbjdeimallaaGreatDoorBase
import Derived.Test.YtfgmbjdeimallaaGreatDoorErY

namespace Go.Proofs.YtfgmbjdeimallaaGreatDoor
open Go.RowKit

/-- in world w the error value is nil (class 0) or a part's error of that class -/
def ErrIs (w : World) (ev : Value) (f : Int) : Prop := (ev = .nilIface ∧ f = 0) ∨ ∃ g p, ev = .iface 95 (.pointer (some ⟨g, 0, none⟩)) ∧ Blk w g 97 #[.string p, .iface 75 (.int .i64 f)]

theorem ErrIs.keep {w w' : World} {ev : Value} {f : Int} (h : ErrIs w ev f) (hk : Keeps [] w w') : ErrIs w' ev f := by
  rcases h with h | ⟨g, p, h1, h2⟩
  · exact .inl h
  · exact .inr ⟨g, p, h1, h2.keep hk (by simp)⟩

/-- an error stays where a block of another type turns -/
theorem ErrIs.keepR {w w' : World} {ev : Value} {f : Int} {r : Nat} {t : TypeId} {cs : Array Value} (h : ErrIs w ev f) (hR : Blk w r t cs) (ht : 97 ≠ t) (hk : Keeps [r] w w') : ErrIs w' ev f := by
  rcases h with h | ⟨g, p, h1, h2⟩
  · exact .inl h
  · exact .inr ⟨g, p, h1, h2.keep hk (by simpa using h2.ne hR ht)⟩

theorem class_any (ev : Value) (f : Int) (w : World) (hg : (w).cell? ⟨0, 0, none⟩ = some (.iface 140 (.agg #[.pointer (some ⟨1, 38, none⟩)]))) (h : ErrIs w ev f) :
    Calls Tryz.prog 12 #[ev] w fun e w' => e = .returned (.int .i64 f) ∧ Keeps [] w w' := by
  rcases h with ⟨rfl, rfl⟩ | ⟨g, p, rfl, h2⟩
  · exact (class_nil w).mono fun e w' h => ⟨h.1, h.2 ▸ Keeps.refl _ _⟩
  · exact (class_within g f w hg (h2.cell 1)).mono fun e w' h => ⟨h.1, Keeps.of_below h.2⟩
end Go.Proofs.YtfgmbjdeimallaaGreatDoor
