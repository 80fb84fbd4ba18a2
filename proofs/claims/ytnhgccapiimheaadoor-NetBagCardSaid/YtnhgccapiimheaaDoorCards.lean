/-
  DERIVED. GIVEN WITH THE SEED: THE CARDS: each row of YtnhgccapiimheaaDoorRows.lean that lists a variable, with what it lists TIED to the program's text (the seventh form; the later family's looks); each row that meets fmt, with fmt's text TOLD by the authors' own Lean function (tested against real Go, not proved from fmt's source: count such statements apart). THE CARD IS WHAT COUNTS. Prove the row's statement (the work); the ties are given (YtnhgccapiimheaaDoorTie.lean); close each card by the builder's one call (the guide's Derived/Test/ToyasCard.lean, 'card_holds'). Laid BY PROGRAM, IN A SANDBOX (cutbox-door.mjs). By AI agents, Wed Nov 11 2026. No macro, syntax, notation, axiom, sorry.
-/
import Derived.Test.YtnhgccapiimheaaDoorRows
import GoSem.ClaimSeven
namespace Go.Proofs.YtnhgccapiimheaaDoor
namespace Rows

/-- THE TIED CARD OF 'consistorylaw5.NetFull'. -/
def netFullCard : Claim7 := { stood := { row := netFullRow, standIns := [], harness := (true, "6ae5c0cf89cfa53d4c887b5503dd7ffa95ec33d135c0112f729a8ee51bdfda1d"), looks := true }, kinds := [], alts := [], laidByText := true, laidKinds := [.handle], laidTests := true, laidLooks := .later }
def NetFullCardSaid : Prop := Claim7.holds Tryd.pinned (.plain (OpenSpec.ofChange netFullSpec)) netFullCard

/-- THE TIED CARD OF 'consistorylaw5.NetBag'. -/
def netBagCard : Claim7 := { stood := { row := netBagRow, standIns := [], harness := (true, "6ae5c0cf89cfa53d4c887b5503dd7ffa95ec33d135c0112f729a8ee51bdfda1d"), looks := true }, kinds := [], alts := [], laidByText := true, laidKinds := [.handle], laidTests := true, laidLooks := .later }
def NetBagCardSaid : Prop := Claim7.holds Tryd.pinned (.plain (OpenSpec.ofChange netBagSpec)) netBagCard

/-- THE TIED CARD OF 'consistorylaw5.NetPlays'. -/
def netPlaysCard : Claim7 := { stood := { row := netPlaysRow, standIns := [], harness := (true, "6ae5c0cf89cfa53d4c887b5503dd7ffa95ec33d135c0112f729a8ee51bdfda1d"), looks := true }, kinds := [], alts := [], laidByText := true, laidKinds := [.handle], laidTests := true, laidLooks := .later }
def NetPlaysCardSaid : Prop := Claim7.holds Tryd.pinned (.plain (OpenSpec.ofChange netPlaysSpec)) netPlaysCard

/-- THE SECOND FORM's CARD OF 'consistorylaw5.NetFull'. -/
def netFullUptoCard : Claim7 := { stood := { row := netFullUptoRow, standIns := [], harness := (true, "6ae5c0cf89cfa53d4c887b5503dd7ffa95ec33d135c0112f729a8ee51bdfda1d"), looks := true }, kinds := [], alts := [], laidByText := true, laidKinds := [.handle], laidTests := true, laidLooks := .later }
def NetFullUptoCardSaid : Prop := Claim7.holds Tryd.pinned (.plain (OpenSpec.upto netFullSpec)) netFullUptoCard

/-- THE SECOND FORM's CARD OF 'consistorylaw5.NetBag'. -/
def netBagUptoCard : Claim7 := { stood := { row := netBagUptoRow, standIns := [], harness := (true, "6ae5c0cf89cfa53d4c887b5503dd7ffa95ec33d135c0112f729a8ee51bdfda1d"), looks := true }, kinds := [], alts := [], laidByText := true, laidKinds := [.handle], laidTests := true, laidLooks := .later }
def NetBagUptoCardSaid : Prop := Claim7.holds Tryd.pinned (.plain (OpenSpec.upto netBagSpec)) netBagUptoCard

/-- THE SECOND FORM's CARD OF 'consistorylaw5.NetPlays'. -/
def netPlaysUptoCard : Claim7 := { stood := { row := netPlaysUptoRow, standIns := [], harness := (true, "6ae5c0cf89cfa53d4c887b5503dd7ffa95ec33d135c0112f729a8ee51bdfda1d"), looks := true }, kinds := [], alts := [], laidByText := true, laidKinds := [.handle], laidTests := true, laidLooks := .later }
def NetPlaysUptoCardSaid : Prop := Claim7.holds Tryd.pinned (.plain (OpenSpec.upto netPlaysSpec)) netPlaysUptoCard
end Rows
end Go.Proofs.YtnhgccapiimheaaDoor
