/-
  DERIVED. GIVEN WITH THE SEED: THE CARDS: each row of YtcebbgmjbincbaaDoorRows.lean that lists a variable, with what it lists TIED to the program's text (the seventh form; the later family's looks); each row that meets fmt, with fmt's text TOLD by the authors' own Lean function (tested against real Go, not proved from fmt's source: count such statements apart). THE CARD IS WHAT COUNTS. Prove the row's statement (the work); the ties are given (YtcebbgmjbincbaaDoorTie.lean); close each card by the builder's one call (the guide's Derived/Test/ToyasCard.lean, 'card_holds'). Laid BY PROGRAM, IN A SANDBOX (cutbox-door.mjs). By AI agents, Wed Nov 11 2026. No macro, syntax, notation, axiom, sorry.
-/
import Derived.Test.YtcebbgmjbincbaaDoorRows
import GoSem.ClaimSeven
namespace Go.Proofs.YtcebbgmjbincbaaDoor
namespace Rows

/-- THE TIED CARD OF 'consistorylaw2.DiskSure'. -/
def diskSureCard : Claim7 := { stood := { row := diskSureRow, standIns := [], harness := (true, "4d590681e891d5e46908e38d9fb9d5694beefb0af66ee10239193a130649f282"), looks := true }, kinds := [], alts := [], laidByText := true, laidKinds := [.handle], laidTests := true, laidLooks := .later }
def DiskSureCardSaid : Prop := Claim7.holds Tryd.pinned (.plain (OpenSpec.ofChange diskSureSpec)) diskSureCard

/-- THE TIED CARD OF 'consistorylaw2.DiskHalts'. -/
def diskHaltsCard : Claim7 := { stood := { row := diskHaltsRow, standIns := [], harness := (true, "4d590681e891d5e46908e38d9fb9d5694beefb0af66ee10239193a130649f282"), looks := true }, kinds := [], alts := [], laidByText := true, laidKinds := [.handle], laidTests := true, laidLooks := .later }
def DiskHaltsCardSaid : Prop := Claim7.holds Tryd.pinned (.plain (OpenSpec.ofChange diskHaltsSpec)) diskHaltsCard

/-- THE TIED CARD OF 'consistorylaw2.DiskPlays'. -/
def diskPlaysCard : Claim7 := { stood := { row := diskPlaysRow, standIns := [], harness := (true, "4d590681e891d5e46908e38d9fb9d5694beefb0af66ee10239193a130649f282"), looks := true }, kinds := [], alts := [], laidByText := true, laidKinds := [.handle], laidTests := true, laidLooks := .later }
def DiskPlaysCardSaid : Prop := Claim7.holds Tryd.pinned (.plain (OpenSpec.ofChange diskPlaysSpec)) diskPlaysCard

/-- THE TIED CARD OF 'consistorylaw4.SnapChunks'. -/
def snapChunksCard : Claim7 := { stood := { row := snapChunksRow, standIns := [], harness := (true, "4d590681e891d5e46908e38d9fb9d5694beefb0af66ee10239193a130649f282"), looks := true }, kinds := [], alts := [], laidByText := true, laidKinds := [.handle], laidTests := true, laidLooks := .later }
def SnapChunksCardSaid : Prop := Claim7.holds Tryd.pinned (.plain (OpenSpec.ofChange snapChunksSpec)) snapChunksCard

/-- THE TIED CARD OF 'consistorylaw4.SnapRounds'. -/
def snapRoundsCard : Claim7 := { stood := { row := snapRoundsRow, standIns := [], harness := (true, "4d590681e891d5e46908e38d9fb9d5694beefb0af66ee10239193a130649f282"), looks := true }, kinds := [], alts := [], laidByText := true, laidKinds := [.handle], laidTests := true, laidLooks := .later }
def SnapRoundsCardSaid : Prop := Claim7.holds Tryd.pinned (.plain (OpenSpec.ofChange snapRoundsSpec)) snapRoundsCard

/-- THE TIED CARD OF 'consistorylaw4.SnapPlays'. -/
def snapPlaysCard : Claim7 := { stood := { row := snapPlaysRow, standIns := [], harness := (true, "4d590681e891d5e46908e38d9fb9d5694beefb0af66ee10239193a130649f282"), looks := true }, kinds := [], alts := [], laidByText := true, laidKinds := [.handle], laidTests := true, laidLooks := .later }
def SnapPlaysCardSaid : Prop := Claim7.holds Tryd.pinned (.plain (OpenSpec.ofChange snapPlaysSpec)) snapPlaysCard

/-- THE SECOND FORM's CARD OF 'consistorylaw2.DiskSure'. -/
def diskSureUptoCard : Claim7 := { stood := { row := diskSureUptoRow, standIns := [], harness := (true, "4d590681e891d5e46908e38d9fb9d5694beefb0af66ee10239193a130649f282"), looks := true }, kinds := [], alts := [], laidByText := true, laidKinds := [.handle], laidTests := true, laidLooks := .later }
def DiskSureUptoCardSaid : Prop := Claim7.holds Tryd.pinned (.plain (OpenSpec.upto diskSureSpec)) diskSureUptoCard

/-- THE SECOND FORM's CARD OF 'consistorylaw2.DiskHalts'. -/
def diskHaltsUptoCard : Claim7 := { stood := { row := diskHaltsUptoRow, standIns := [], harness := (true, "4d590681e891d5e46908e38d9fb9d5694beefb0af66ee10239193a130649f282"), looks := true }, kinds := [], alts := [], laidByText := true, laidKinds := [.handle], laidTests := true, laidLooks := .later }
def DiskHaltsUptoCardSaid : Prop := Claim7.holds Tryd.pinned (.plain (OpenSpec.upto diskHaltsSpec)) diskHaltsUptoCard

/-- THE SECOND FORM's CARD OF 'consistorylaw2.DiskPlays'. -/
def diskPlaysUptoCard : Claim7 := { stood := { row := diskPlaysUptoRow, standIns := [], harness := (true, "4d590681e891d5e46908e38d9fb9d5694beefb0af66ee10239193a130649f282"), looks := true }, kinds := [], alts := [], laidByText := true, laidKinds := [.handle], laidTests := true, laidLooks := .later }
def DiskPlaysUptoCardSaid : Prop := Claim7.holds Tryd.pinned (.plain (OpenSpec.upto diskPlaysSpec)) diskPlaysUptoCard

/-- THE SECOND FORM's CARD OF 'consistorylaw4.SnapChunks'. -/
def snapChunksUptoCard : Claim7 := { stood := { row := snapChunksUptoRow, standIns := [], harness := (true, "4d590681e891d5e46908e38d9fb9d5694beefb0af66ee10239193a130649f282"), looks := true }, kinds := [], alts := [], laidByText := true, laidKinds := [.handle], laidTests := true, laidLooks := .later }
def SnapChunksUptoCardSaid : Prop := Claim7.holds Tryd.pinned (.plain (OpenSpec.upto snapChunksSpec)) snapChunksUptoCard

/-- THE SECOND FORM's CARD OF 'consistorylaw4.SnapRounds'. -/
def snapRoundsUptoCard : Claim7 := { stood := { row := snapRoundsUptoRow, standIns := [], harness := (true, "4d590681e891d5e46908e38d9fb9d5694beefb0af66ee10239193a130649f282"), looks := true }, kinds := [], alts := [], laidByText := true, laidKinds := [.handle], laidTests := true, laidLooks := .later }
def SnapRoundsUptoCardSaid : Prop := Claim7.holds Tryd.pinned (.plain (OpenSpec.upto snapRoundsSpec)) snapRoundsUptoCard

/-- THE SECOND FORM's CARD OF 'consistorylaw4.SnapPlays'. -/
def snapPlaysUptoCard : Claim7 := { stood := { row := snapPlaysUptoRow, standIns := [], harness := (true, "4d590681e891d5e46908e38d9fb9d5694beefb0af66ee10239193a130649f282"), looks := true }, kinds := [], alts := [], laidByText := true, laidKinds := [.handle], laidTests := true, laidLooks := .later }
def SnapPlaysUptoCardSaid : Prop := Claim7.holds Tryd.pinned (.plain (OpenSpec.upto snapPlaysSpec)) snapPlaysUptoCard
end Rows
end Go.Proofs.YtcebbgmjbincbaaDoor
