/-
  DERIVED. GIVEN WITH THE SEED: THE CARDS: each row of YtbnhnigfemfgpaaGreatDoorRows.lean that lists a variable, with what it lists TIED to the program's text (the seventh form; the later family's looks); each row that meets fmt, with fmt's text TOLD by the authors' own Lean function (tested against real Go, not proved from fmt's source: count such statements apart). THE CARD IS WHAT COUNTS. Prove the row's statement (the work); the ties are given (YtbnhnigfemfgpaaGreatDoorTie.lean); close each card by the builder's one call (the guide's Derived/Test/ToyasCard.lean, 'card_holds'). Laid BY PROGRAM, IN A SANDBOX (cutbox-door.mjs). By AI agents, Wed Nov 11 2026. No macro, syntax, notation, axiom, sorry.
-/
import Derived.Test.YtbnhnigfemfgpaaGreatDoorRows
import GoSem.ClaimSeven
namespace Go.Proofs.YtbnhnigfemfgpaaGreatDoor
namespace Rows

/-- THE TIED CARD OF 'palfreylaw08.LinePlace'. -/
def linePlaceCard : Claim7 := { stood := { row := linePlaceRow, standIns := [], harness := (true, "87d90cf7f4f70d2def104348cd002e1c081280a28c8ff77fccf8396bee54013a"), looks := true }, kinds := [], alts := [], goes := true, laidByText := true, laidKinds := [.handle], laidTests := true, laidLooks := .later }
def LinePlaceCardSaid : Prop := Claim7.holds Tryz.pinned (.plain (OpenSpec.ofChange linePlaceSpec)) linePlaceCard

/-- THE TIED CARD OF 'palfreylaw08.LineCrowd'. -/
def lineCrowdCard : Claim7 := { stood := { row := lineCrowdRow, standIns := [], harness := (true, "87d90cf7f4f70d2def104348cd002e1c081280a28c8ff77fccf8396bee54013a"), looks := true }, kinds := [], alts := [], goes := true, laidByText := true, laidKinds := [.handle], laidTests := true, laidLooks := .later }
def LineCrowdCardSaid : Prop := Claim7.holds Tryz.pinned (.plain (OpenSpec.ofChange lineCrowdSpec)) lineCrowdCard

/-- THE TIED CARD OF 'palfreylaw08.LineAll'. -/
def lineAllCard : Claim7 := { stood := { row := lineAllRow, standIns := [], harness := (true, "87d90cf7f4f70d2def104348cd002e1c081280a28c8ff77fccf8396bee54013a"), looks := true }, kinds := [], alts := [], goes := true, laidByText := true, laidKinds := [.handle], laidTests := true, laidLooks := .later }
def LineAllCardSaid : Prop := Claim7.holds Tryz.pinned (.plain (OpenSpec.ofChange lineAllSpec)) lineAllCard

/-- THE SECOND FORM's CARD OF 'palfreylaw08.LinePlace'. -/
def linePlaceUptoCard : Claim7 := { stood := { row := linePlaceUptoRow, standIns := [], harness := (true, "87d90cf7f4f70d2def104348cd002e1c081280a28c8ff77fccf8396bee54013a"), looks := true }, kinds := [], alts := [], goes := true, laidByText := true, laidKinds := [.handle], laidTests := true, laidLooks := .later }
def LinePlaceUptoCardSaid : Prop := Claim7.holds Tryz.pinned (.plain (OpenSpec.upto linePlaceSpec)) linePlaceUptoCard

/-- THE SECOND FORM's CARD OF 'palfreylaw08.LineCrowd'. -/
def lineCrowdUptoCard : Claim7 := { stood := { row := lineCrowdUptoRow, standIns := [], harness := (true, "87d90cf7f4f70d2def104348cd002e1c081280a28c8ff77fccf8396bee54013a"), looks := true }, kinds := [], alts := [], goes := true, laidByText := true, laidKinds := [.handle], laidTests := true, laidLooks := .later }
def LineCrowdUptoCardSaid : Prop := Claim7.holds Tryz.pinned (.plain (OpenSpec.upto lineCrowdSpec)) lineCrowdUptoCard

/-- THE SECOND FORM's CARD OF 'palfreylaw08.LineAll'. -/
def lineAllUptoCard : Claim7 := { stood := { row := lineAllUptoRow, standIns := [], harness := (true, "87d90cf7f4f70d2def104348cd002e1c081280a28c8ff77fccf8396bee54013a"), looks := true }, kinds := [], alts := [], goes := true, laidByText := true, laidKinds := [.handle], laidTests := true, laidLooks := .later }
def LineAllUptoCardSaid : Prop := Claim7.holds Tryz.pinned (.plain (OpenSpec.upto lineAllSpec)) lineAllUptoCard
end Rows
end Go.Proofs.YtbnhnigfemfgpaaGreatDoor
