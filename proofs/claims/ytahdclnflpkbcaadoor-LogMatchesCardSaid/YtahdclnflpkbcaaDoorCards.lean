/-
  DERIVED. GIVEN WITH THE SEED: THE CARDS: each row of YtahdclnflpkbcaaDoorRows.lean that lists a variable, with what it lists TIED to the program's text (the seventh form; the later family's looks); each row that meets fmt, with fmt's text TOLD by the authors' own Lean function (tested against real Go, not proved from fmt's source: count such statements apart). THE CARD IS WHAT COUNTS. Prove the row's statement (the work); the ties are given (YtahdclnflpkbcaaDoorTie.lean); close each card by the builder's one call (the guide's Derived/Test/ToyasCard.lean, 'card_holds'). Laid BY PROGRAM, IN A SANDBOX (cutbox-door.mjs). By AI agents, Wed Nov 11 2026. No macro, syntax, notation, axiom, sorry.
-/
import Derived.Test.YtahdclnflpkbcaaDoorRows
import GoSem.ClaimSeven
namespace Go.Proofs.YtahdclnflpkbcaaDoor
namespace Rows

/-- THE TIED CARD OF 'consistorylaw19.LogMatches'. -/
def logMatchesCard : Claim7 := { stood := { row := logMatchesRow, standIns := [], harness := (true, "7a474dda61c55541ab07bdb20c411c82b6a0479546b122a5bd0e41c0609e79de"), looks := true }, kinds := [], alts := [], laidByText := true, laidKinds := [.handle], laidTests := true, laidLooks := .later }
def LogMatchesCardSaid : Prop := Claim7.holds Tryd.pinned (.plain (OpenSpec.ofChange logMatchesSpec)) logMatchesCard

/-- THE TIED CARD OF 'consistorylaw19.LogHints'. -/
def logHintsCard : Claim7 := { stood := { row := logHintsRow, standIns := [], harness := (true, "7a474dda61c55541ab07bdb20c411c82b6a0479546b122a5bd0e41c0609e79de"), looks := true }, kinds := [], alts := [], laidByText := true, laidKinds := [.handle], laidTests := true, laidLooks := .later }
def LogHintsCardSaid : Prop := Claim7.holds Tryd.pinned (.plain (OpenSpec.ofChange logHintsSpec)) logHintsCard

/-- THE TIED CARD OF 'consistorylaw20.RaftAhead'. -/
def raftAheadCard : Claim7 := { stood := { row := raftAheadRow, standIns := [], harness := (true, "7a474dda61c55541ab07bdb20c411c82b6a0479546b122a5bd0e41c0609e79de"), looks := true }, kinds := [], alts := [], laidByText := true, laidKinds := [.handle], laidTests := true, laidLooks := .later }
def RaftAheadCardSaid : Prop := Claim7.holds Tryd.pinned (.plain (OpenSpec.ofChange raftAheadSpec)) raftAheadCard

/-- THE SECOND FORM's CARD OF 'consistorylaw19.LogMatches'. -/
def logMatchesUptoCard : Claim7 := { stood := { row := logMatchesUptoRow, standIns := [], harness := (true, "7a474dda61c55541ab07bdb20c411c82b6a0479546b122a5bd0e41c0609e79de"), looks := true }, kinds := [], alts := [], laidByText := true, laidKinds := [.handle], laidTests := true, laidLooks := .later }
def LogMatchesUptoCardSaid : Prop := Claim7.holds Tryd.pinned (.plain (OpenSpec.upto logMatchesSpec)) logMatchesUptoCard

/-- THE SECOND FORM's CARD OF 'consistorylaw19.LogHints'. -/
def logHintsUptoCard : Claim7 := { stood := { row := logHintsUptoRow, standIns := [], harness := (true, "7a474dda61c55541ab07bdb20c411c82b6a0479546b122a5bd0e41c0609e79de"), looks := true }, kinds := [], alts := [], laidByText := true, laidKinds := [.handle], laidTests := true, laidLooks := .later }
def LogHintsUptoCardSaid : Prop := Claim7.holds Tryd.pinned (.plain (OpenSpec.upto logHintsSpec)) logHintsUptoCard

/-- THE SECOND FORM's CARD OF 'consistorylaw20.RaftAhead'. -/
def raftAheadUptoCard : Claim7 := { stood := { row := raftAheadUptoRow, standIns := [], harness := (true, "7a474dda61c55541ab07bdb20c411c82b6a0479546b122a5bd0e41c0609e79de"), looks := true }, kinds := [], alts := [], laidByText := true, laidKinds := [.handle], laidTests := true, laidLooks := .later }
def RaftAheadUptoCardSaid : Prop := Claim7.holds Tryd.pinned (.plain (OpenSpec.upto raftAheadSpec)) raftAheadUptoCard
end Rows
end Go.Proofs.YtahdclnflpkbcaaDoor
