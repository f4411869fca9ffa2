/-
  DERIVED. GIVEN WITH THE SEED: THE CARDS: each row of YtmmlikpakbbfpaaGreatDoorRows.lean that lists a variable, with what it lists TIED to the program's text (the seventh form; the later family's looks); each row that meets fmt, with fmt's text TOLD by the authors' own Lean function (tested against real Go, not proved from fmt's source: count such statements apart). THE CARD IS WHAT COUNTS. Prove the row's statement (the work); the ties are given (YtmmlikpakbbfpaaGreatDoorTie.lean); close each card by the builder's one call (the guide's Derived/Test/ToyasCard.lean, 'card_holds'). Laid BY PROGRAM, IN A SANDBOX (cutbox-door.mjs). By AI agents, Wed Nov 11 2026. No macro, syntax, notation, axiom, sorry.
-/
import Derived.Test.YtmmlikpakbbfpaaGreatDoorRows
import GoSem.ClaimSeven
namespace Go.Proofs.YtmmlikpakbbfpaaGreatDoor
namespace Rows

/-- THE TIED CARD OF 'palfreylaw08.LineTaken'. -/
def lineTakenCard : Claim7 := { stood := { row := lineTakenRow, standIns := [], harness := (true, "7cc214585943dac715b26fd969fa554b7dda6284b2eeb2f44e15041154aa5109"), looks := true }, kinds := [], alts := [], goes := true, laidByText := true, laidKinds := [.handle], laidTests := true, laidLooks := .later }
def LineTakenCardSaid : Prop := Claim7.holds Tryz.pinned (.plain (OpenSpec.ofChange lineTakenSpec)) lineTakenCard

/-- THE TIED CARD OF 'palfreylaw08.LineCrowd'. -/
def lineCrowdCard : Claim7 := { stood := { row := lineCrowdRow, standIns := [], harness := (true, "7cc214585943dac715b26fd969fa554b7dda6284b2eeb2f44e15041154aa5109"), looks := true }, kinds := [], alts := [], goes := true, laidByText := true, laidKinds := [.handle], laidTests := true, laidLooks := .later }
def LineCrowdCardSaid : Prop := Claim7.holds Tryz.pinned (.plain (OpenSpec.ofChange lineCrowdSpec)) lineCrowdCard

/-- THE TIED CARD OF 'palfreylaw08.LineYard'. -/
def lineYardCard : Claim7 := { stood := { row := lineYardRow, standIns := [], harness := (true, "7cc214585943dac715b26fd969fa554b7dda6284b2eeb2f44e15041154aa5109"), looks := true }, kinds := [], alts := [], goes := true, laidByText := true, laidKinds := [.handle], laidTests := true, laidLooks := .later }
def LineYardCardSaid : Prop := Claim7.holds Tryz.pinned (.plain (OpenSpec.ofChange lineYardSpec)) lineYardCard

/-- THE TIED CARD OF 'palfreylaw08.LineAdd'. -/
def lineAddCard : Claim7 := { stood := { row := lineAddRow, standIns := [], harness := (true, "7cc214585943dac715b26fd969fa554b7dda6284b2eeb2f44e15041154aa5109"), looks := true }, kinds := [], alts := [], goes := true, laidByText := true, laidKinds := [.handle], laidTests := true, laidLooks := .later }
def LineAddCardSaid : Prop := Claim7.holds Tryz.pinned (.plain (OpenSpec.ofChange lineAddSpec)) lineAddCard

/-- THE TIED CARD OF 'palfreylaw08.LineKnown'. -/
def lineKnownCard : Claim7 := { stood := { row := lineKnownRow, standIns := [], harness := (true, "7cc214585943dac715b26fd969fa554b7dda6284b2eeb2f44e15041154aa5109"), looks := true }, kinds := [], alts := [], goes := true, laidByText := true, laidKinds := [.handle], laidTests := true, laidLooks := .later }
def LineKnownCardSaid : Prop := Claim7.holds Tryz.pinned (.plain (OpenSpec.ofChange lineKnownSpec)) lineKnownCard

/-- THE SECOND FORM's CARD OF 'palfreylaw08.LineTaken'. -/
def lineTakenUptoCard : Claim7 := { stood := { row := lineTakenUptoRow, standIns := [], harness := (true, "7cc214585943dac715b26fd969fa554b7dda6284b2eeb2f44e15041154aa5109"), looks := true }, kinds := [], alts := [], goes := true, laidByText := true, laidKinds := [.handle], laidTests := true, laidLooks := .later }
def LineTakenUptoCardSaid : Prop := Claim7.holds Tryz.pinned (.plain (OpenSpec.upto lineTakenSpec)) lineTakenUptoCard

/-- THE SECOND FORM's CARD OF 'palfreylaw08.LineCrowd'. -/
def lineCrowdUptoCard : Claim7 := { stood := { row := lineCrowdUptoRow, standIns := [], harness := (true, "7cc214585943dac715b26fd969fa554b7dda6284b2eeb2f44e15041154aa5109"), looks := true }, kinds := [], alts := [], goes := true, laidByText := true, laidKinds := [.handle], laidTests := true, laidLooks := .later }
def LineCrowdUptoCardSaid : Prop := Claim7.holds Tryz.pinned (.plain (OpenSpec.upto lineCrowdSpec)) lineCrowdUptoCard

/-- THE SECOND FORM's CARD OF 'palfreylaw08.LineYard'. -/
def lineYardUptoCard : Claim7 := { stood := { row := lineYardUptoRow, standIns := [], harness := (true, "7cc214585943dac715b26fd969fa554b7dda6284b2eeb2f44e15041154aa5109"), looks := true }, kinds := [], alts := [], goes := true, laidByText := true, laidKinds := [.handle], laidTests := true, laidLooks := .later }
def LineYardUptoCardSaid : Prop := Claim7.holds Tryz.pinned (.plain (OpenSpec.upto lineYardSpec)) lineYardUptoCard

/-- THE SECOND FORM's CARD OF 'palfreylaw08.LineAdd'. -/
def lineAddUptoCard : Claim7 := { stood := { row := lineAddUptoRow, standIns := [], harness := (true, "7cc214585943dac715b26fd969fa554b7dda6284b2eeb2f44e15041154aa5109"), looks := true }, kinds := [], alts := [], goes := true, laidByText := true, laidKinds := [.handle], laidTests := true, laidLooks := .later }
def LineAddUptoCardSaid : Prop := Claim7.holds Tryz.pinned (.plain (OpenSpec.upto lineAddSpec)) lineAddUptoCard

/-- THE SECOND FORM's CARD OF 'palfreylaw08.LineKnown'. -/
def lineKnownUptoCard : Claim7 := { stood := { row := lineKnownUptoRow, standIns := [], harness := (true, "7cc214585943dac715b26fd969fa554b7dda6284b2eeb2f44e15041154aa5109"), looks := true }, kinds := [], alts := [], goes := true, laidByText := true, laidKinds := [.handle], laidTests := true, laidLooks := .later }
def LineKnownUptoCardSaid : Prop := Claim7.holds Tryz.pinned (.plain (OpenSpec.upto lineKnownSpec)) lineKnownUptoCard
end Rows
end Go.Proofs.YtmmlikpakbbfpaaGreatDoor
