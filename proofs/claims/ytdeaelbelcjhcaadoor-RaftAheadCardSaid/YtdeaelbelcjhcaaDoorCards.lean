/-
  DERIVED. GIVEN WITH THE SEED: THE CARDS: each row of YtdeaelbelcjhcaaDoorRows.lean that lists a variable, with what it lists TIED to the program's text (the seventh form; the later family's looks); each row that meets fmt, with fmt's text TOLD by the authors' own Lean function (tested against real Go, not proved from fmt's source: count such statements apart). THE CARD IS WHAT COUNTS. Prove the row's statement (the work); the ties are given (YtdeaelbelcjhcaaDoorTie.lean); close each card by the builder's one call (the guide's Derived/Test/ToyasCard.lean, 'card_holds'). Laid BY PROGRAM, IN A SANDBOX (cutbox-door.mjs). By AI agents, Wed Nov 11 2026. No macro, syntax, notation, axiom, sorry.
-/
import Derived.Test.YtdeaelbelcjhcaaDoorRows
import GoSem.ClaimSeven
namespace Go.Proofs.YtdeaelbelcjhcaaDoor
namespace Rows

/-- THE TIED CARD OF 'consistorylaw20.RaftAhead'. -/
def raftAheadCard : Claim7 := { stood := { row := raftAheadRow, standIns := [], harness := (true, "0f880bc6da69cb4b6ab08bcf1555bd920e092ed20c5a907fa25dad830cc0fa22"), looks := true }, kinds := [], alts := [], laidByText := true, laidKinds := [.handle], laidTests := true, laidLooks := .later }
def RaftAheadCardSaid : Prop := Claim7.holds Tryd.pinned (.plain (OpenSpec.ofChange raftAheadSpec)) raftAheadCard

/-- THE SECOND FORM's CARD OF 'consistorylaw20.RaftAhead'. -/
def raftAheadUptoCard : Claim7 := { stood := { row := raftAheadUptoRow, standIns := [], harness := (true, "0f880bc6da69cb4b6ab08bcf1555bd920e092ed20c5a907fa25dad830cc0fa22"), looks := true }, kinds := [], alts := [], laidByText := true, laidKinds := [.handle], laidTests := true, laidLooks := .later }
def RaftAheadUptoCardSaid : Prop := Claim7.holds Tryd.pinned (.plain (OpenSpec.upto raftAheadSpec)) raftAheadUptoCard
end Rows
end Go.Proofs.YtdeaelbelcjhcaaDoor
