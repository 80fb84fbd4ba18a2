/-
  DERIVED. GIVEN WITH THE SEED: THE CARDS: each row of YtpkjcdmeabjifaaDoorRows.lean that lists a variable, with what it lists TIED to the program's text (the seventh form; the later family's looks); each row that meets fmt, with fmt's text TOLD by the authors' own Lean function (tested against real Go, not proved from fmt's source: count such statements apart). THE CARD IS WHAT COUNTS. Prove the row's statement (the work); the ties are given (YtpkjcdmeabjifaaDoorTie.lean); close each card by the builder's one call (the guide's Derived/Test/ToyasCard.lean, 'card_holds'). Laid BY PROGRAM, IN A SANDBOX (cutbox-door.mjs). By AI agents, Wed Nov 11 2026. No macro, syntax, notation, axiom, sorry.
-/
import Derived.Test.YtpkjcdmeabjifaaDoorRows
import GoSem.ClaimSeven
namespace Go.Proofs.YtpkjcdmeabjifaaDoor
namespace Rows

/-- THE TIED CARD OF 'consistorylaw22.ClientHints'. -/
def clientHintsCard : Claim7 := { stood := { row := clientHintsRow, standIns := [], harness := (true, "e70f170c8bf706ffbeba72f5a0c611cb07013e75a30dc55c45ff82c77877f619"), looks := true }, kinds := [], alts := [], laidByText := true, laidKinds := [.handle], laidTests := true, laidLooks := .later }
def ClientHintsCardSaid : Prop := Claim7.holds Tryd.pinned (.plain (OpenSpec.ofChange clientHintsSpec)) clientHintsCard

/-- THE TIED CARD OF 'consistorylaw22.ClientRounds'. -/
def clientRoundsCard : Claim7 := { stood := { row := clientRoundsRow, standIns := [], harness := (true, "e70f170c8bf706ffbeba72f5a0c611cb07013e75a30dc55c45ff82c77877f619"), looks := true }, kinds := [], alts := [], laidByText := true, laidKinds := [.handle], laidTests := true, laidLooks := .later }
def ClientRoundsCardSaid : Prop := Claim7.holds Tryd.pinned (.plain (OpenSpec.ofChange clientRoundsSpec)) clientRoundsCard

/-- THE TIED CARD OF 'consistorylaw22.ClientPlays'. -/
def clientPlaysCard : Claim7 := { stood := { row := clientPlaysRow, standIns := [], harness := (true, "e70f170c8bf706ffbeba72f5a0c611cb07013e75a30dc55c45ff82c77877f619"), looks := true }, kinds := [], alts := [], laidByText := true, laidKinds := [.handle], laidTests := true, laidLooks := .later }
def ClientPlaysCardSaid : Prop := Claim7.holds Tryd.pinned (.plain (OpenSpec.ofChange clientPlaysSpec)) clientPlaysCard

/-- THE SECOND FORM's CARD OF 'consistorylaw22.ClientHints'. -/
def clientHintsUptoCard : Claim7 := { stood := { row := clientHintsUptoRow, standIns := [], harness := (true, "e70f170c8bf706ffbeba72f5a0c611cb07013e75a30dc55c45ff82c77877f619"), looks := true }, kinds := [], alts := [], laidByText := true, laidKinds := [.handle], laidTests := true, laidLooks := .later }
def ClientHintsUptoCardSaid : Prop := Claim7.holds Tryd.pinned (.plain (OpenSpec.upto clientHintsSpec)) clientHintsUptoCard

/-- THE SECOND FORM's CARD OF 'consistorylaw22.ClientRounds'. -/
def clientRoundsUptoCard : Claim7 := { stood := { row := clientRoundsUptoRow, standIns := [], harness := (true, "e70f170c8bf706ffbeba72f5a0c611cb07013e75a30dc55c45ff82c77877f619"), looks := true }, kinds := [], alts := [], laidByText := true, laidKinds := [.handle], laidTests := true, laidLooks := .later }
def ClientRoundsUptoCardSaid : Prop := Claim7.holds Tryd.pinned (.plain (OpenSpec.upto clientRoundsSpec)) clientRoundsUptoCard

/-- THE SECOND FORM's CARD OF 'consistorylaw22.ClientPlays'. -/
def clientPlaysUptoCard : Claim7 := { stood := { row := clientPlaysUptoRow, standIns := [], harness := (true, "e70f170c8bf706ffbeba72f5a0c611cb07013e75a30dc55c45ff82c77877f619"), looks := true }, kinds := [], alts := [], laidByText := true, laidKinds := [.handle], laidTests := true, laidLooks := .later }
def ClientPlaysUptoCardSaid : Prop := Claim7.holds Tryd.pinned (.plain (OpenSpec.upto clientPlaysSpec)) clientPlaysUptoCard
end Rows
end Go.Proofs.YtpkjcdmeabjifaaDoor
