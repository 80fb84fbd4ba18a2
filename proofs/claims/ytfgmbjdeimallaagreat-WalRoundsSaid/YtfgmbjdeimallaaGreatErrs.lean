/- Errors of parts, as values: nil, or a part's error of a class. -/
import Derived.Test.YtfgmbjdeimallaaGreatBase

namespace Go.Proofs.YtfgmbjdeimallaaGreat
open Go.RowKit

/-- in world w the error value is nil (class 0) or a part's error of that class -/
def ErrIs (w : World) (ev : Value) (f : Int) : Prop := (ev = .nilIface ∧ f = 0) ∨ ∃ g p, ev = .iface 69 (.pointer (some ⟨g, 0, none⟩)) ∧ Blk w g 71 #[.string p, .iface 61 (.int .i64 f)]

theorem ErrIs.keep {w w' : World} {ev : Value} {f : Int} (h : ErrIs w ev f) (hk : Keeps [] w w') : ErrIs w' ev f := by
  rcases h with h | ⟨g, p, h1, h2⟩
  · exact .inl h
  · exact .inr ⟨g, p, h1, h2.keep hk (by simp)⟩

/-- an error stays where a block of another type turns -/
theorem ErrIs.keepR {w w' : World} {ev : Value} {f : Int} {r : Nat} {t : TypeId} {cs : Array Value} (h : ErrIs w ev f) (hR : Blk w r t cs) (ht : 71 ≠ t) (hk : Keeps [r] w w') : ErrIs w' ev f := by
  rcases h with h | ⟨g, p, h1, h2⟩
  · exact .inl h
  · exact .inr ⟨g, p, h1, h2.keep hk (by simpa using h2.ne hR ht)⟩

end Go.Proofs.YtfgmbjdeimallaaGreat
