/- The document's rows: plain, Is, PutRow. -/
import Derived.Test.YtfgmbjdeimallaaGreatDoorWfZ
import Derived.Test.YtfgmbjdeimallaaGreatDoorWx
import Derived.Test.YtfgmbjdeimallaaGreatDoorWe
import Derived.Test.YtfgmbjdeimallaaGreatDoorErY

namespace Go.Proofs.YtfgmbjdeimallaaGreatDoor
open Go.RowKit Go.Lib

end Go.Proofs.YtfgmbjdeimallaaGreatDoor
/- WireWrites: classes of placed errors, Few, and the walk. -/

namespace Go.Proofs.YtfgmbjdeimallaaGreatDoor
open Go.RowKit Go.Lib

theorem classP_any {ev : Value} {f : Nat} {w : World} (hg : (w).cell? ⟨0, 0, none⟩ = some (.iface 140 (.agg #[.pointer (some ⟨1, 38, none⟩)]))) (h : ErrP w ev f) :
    Calls Tryz.prog 12 #[ev] w fun e w' => e = .returned (.int .i64 f) ∧ Keeps [] w w' := by
  cases h with
  | base h => exact class_any ev f w hg h.is
  | placed he hB h h0 =>
    subst he
    rcases h with ⟨_, h1⟩ | ⟨_, g, p, rfl, hG⟩
    · exact absurd h1 h0
    · exact (class_placed _ g f w hg (hB.cell 1) (hG.cell 1)).mono fun e w' h => ⟨h.1, Keeps.of_below h.2⟩

def few (l : List Va) (m : Int) : Bool := l.all (fun v => decide (v.text.size ≤ 100)) && decide ((l.length : Int) ≤ m)

end Go.Proofs.YtfgmbjdeimallaaGreatDoor
