/-
  DERIVED. GIVEN WITH THE SEED: THE CARDS: each row of YtndbdhbkakipmaaGreatDoorRows.lean that lists a variable, with what it lists TIED to the program's text (the seventh form; the later family's looks); each row that meets fmt, with fmt's text TOLD by the authors' own Lean function (tested against real Go, not proved from fmt's source: count such statements apart). THE CARD IS WHAT COUNTS. Prove the row's statement (the work); the ties are given (YtndbdhbkakipmaaGreatDoorTie.lean); close each card by the builder's one call (the guide's Derived/Test/ToyasCard.lean, 'card_holds'). Laid BY PROGRAM, IN A SANDBOX (cutbox-door.mjs). By AI agents, Wed Nov 11 2026. No macro, syntax, notation, axiom, sorry.
-/
import Derived.Test.YtndbdhbkakipmaaGreatDoorRows
import GoSem.ClaimSeven
namespace Go.Proofs.YtndbdhbkakipmaaGreatDoor
namespace Rows

/-- THE TIED CARD OF 'palfreylaw03.BargainSures'. -/
def bargainSuresCard : Claim7 := { stood := { row := bargainSuresRow, standIns := [], harness := (true, "99970bfd50b600704f9af58b1a5c0b745c0ca5df79d97467286b25bc70c77204"), looks := true }, kinds := [], alts := [], goes := true, laidByText := true, laidKinds := [.handle], laidTests := true, laidLooks := .later }
def BargainSuresCardSaid : Prop := Claim7.holds Tryz.pinned (.plain (OpenSpec.ofChange bargainSuresSpec)) bargainSuresCard

/-- THE TIED CARD OF 'palfreylaw03.BargainPennies'. -/
def bargainPenniesCard : Claim7 := { stood := { row := bargainPenniesRow, standIns := [], harness := (true, "99970bfd50b600704f9af58b1a5c0b745c0ca5df79d97467286b25bc70c77204"), looks := true }, kinds := [], alts := [], goes := true, laidByText := true, laidKinds := [.handle], laidTests := true, laidLooks := .later }
def BargainPenniesCardSaid : Prop := Claim7.holds Tryz.pinned (.plain (OpenSpec.ofChange bargainPenniesSpec)) bargainPenniesCard

/-- THE TIED CARD OF 'palfreylaw03.BargainPrices'. -/
def bargainPricesCard : Claim7 := { stood := { row := bargainPricesRow, standIns := [], harness := (true, "99970bfd50b600704f9af58b1a5c0b745c0ca5df79d97467286b25bc70c77204"), looks := true }, kinds := [], alts := [], goes := true, laidByText := true, laidKinds := [.handle], laidTests := true, laidLooks := .later }
def BargainPricesCardSaid : Prop := Claim7.holds Tryz.pinned (.plain (OpenSpec.ofChange bargainPricesSpec)) bargainPricesCard

/-- THE TIED CARD OF 'palfreylaw03.BargainChecks'. -/
def bargainChecksCard : Claim7 := { stood := { row := bargainChecksRow, standIns := [], harness := (true, "99970bfd50b600704f9af58b1a5c0b745c0ca5df79d97467286b25bc70c77204"), looks := true }, kinds := [], alts := [], goes := true, laidByText := true, laidKinds := [.handle], laidTests := true, laidLooks := .later }
def BargainChecksCardSaid : Prop := Claim7.holds Tryz.pinned (.plain (OpenSpec.ofChange bargainChecksSpec)) bargainChecksCard

/-- THE TIED CARD OF 'palfreylaw03.BargainMoves'. -/
def bargainMovesCard : Claim7 := { stood := { row := bargainMovesRow, standIns := [], harness := (true, "99970bfd50b600704f9af58b1a5c0b745c0ca5df79d97467286b25bc70c77204"), looks := true }, kinds := [], alts := [], goes := true, laidByText := true, laidKinds := [.handle], laidTests := true, laidLooks := .later }
def BargainMovesCardSaid : Prop := Claim7.holds Tryz.pinned (.plain (OpenSpec.ofChange bargainMovesSpec)) bargainMovesCard

/-- THE TIED CARD OF 'palfreylaw03.BargainOutcomes'. -/
def bargainOutcomesCard : Claim7 := { stood := { row := bargainOutcomesRow, standIns := [], harness := (true, "99970bfd50b600704f9af58b1a5c0b745c0ca5df79d97467286b25bc70c77204"), looks := true }, kinds := [], alts := [], goes := true, laidByText := true, laidKinds := [.handle], laidTests := true, laidLooks := .later }
def BargainOutcomesCardSaid : Prop := Claim7.holds Tryz.pinned (.plain (OpenSpec.ofChange bargainOutcomesSpec)) bargainOutcomesCard

/-- THE SECOND FORM's CARD OF 'palfreylaw03.BargainSures'. -/
def bargainSuresUptoCard : Claim7 := { stood := { row := bargainSuresUptoRow, standIns := [], harness := (true, "99970bfd50b600704f9af58b1a5c0b745c0ca5df79d97467286b25bc70c77204"), looks := true }, kinds := [], alts := [], goes := true, laidByText := true, laidKinds := [.handle], laidTests := true, laidLooks := .later }
def BargainSuresUptoCardSaid : Prop := Claim7.holds Tryz.pinned (.plain (OpenSpec.upto bargainSuresSpec)) bargainSuresUptoCard

/-- THE SECOND FORM's CARD OF 'palfreylaw03.BargainPennies'. -/
def bargainPenniesUptoCard : Claim7 := { stood := { row := bargainPenniesUptoRow, standIns := [], harness := (true, "99970bfd50b600704f9af58b1a5c0b745c0ca5df79d97467286b25bc70c77204"), looks := true }, kinds := [], alts := [], goes := true, laidByText := true, laidKinds := [.handle], laidTests := true, laidLooks := .later }
def BargainPenniesUptoCardSaid : Prop := Claim7.holds Tryz.pinned (.plain (OpenSpec.upto bargainPenniesSpec)) bargainPenniesUptoCard

/-- THE SECOND FORM's CARD OF 'palfreylaw03.BargainPrices'. -/
def bargainPricesUptoCard : Claim7 := { stood := { row := bargainPricesUptoRow, standIns := [], harness := (true, "99970bfd50b600704f9af58b1a5c0b745c0ca5df79d97467286b25bc70c77204"), looks := true }, kinds := [], alts := [], goes := true, laidByText := true, laidKinds := [.handle], laidTests := true, laidLooks := .later }
def BargainPricesUptoCardSaid : Prop := Claim7.holds Tryz.pinned (.plain (OpenSpec.upto bargainPricesSpec)) bargainPricesUptoCard

/-- THE SECOND FORM's CARD OF 'palfreylaw03.BargainChecks'. -/
def bargainChecksUptoCard : Claim7 := { stood := { row := bargainChecksUptoRow, standIns := [], harness := (true, "99970bfd50b600704f9af58b1a5c0b745c0ca5df79d97467286b25bc70c77204"), looks := true }, kinds := [], alts := [], goes := true, laidByText := true, laidKinds := [.handle], laidTests := true, laidLooks := .later }
def BargainChecksUptoCardSaid : Prop := Claim7.holds Tryz.pinned (.plain (OpenSpec.upto bargainChecksSpec)) bargainChecksUptoCard

/-- THE SECOND FORM's CARD OF 'palfreylaw03.BargainMoves'. -/
def bargainMovesUptoCard : Claim7 := { stood := { row := bargainMovesUptoRow, standIns := [], harness := (true, "99970bfd50b600704f9af58b1a5c0b745c0ca5df79d97467286b25bc70c77204"), looks := true }, kinds := [], alts := [], goes := true, laidByText := true, laidKinds := [.handle], laidTests := true, laidLooks := .later }
def BargainMovesUptoCardSaid : Prop := Claim7.holds Tryz.pinned (.plain (OpenSpec.upto bargainMovesSpec)) bargainMovesUptoCard

/-- THE SECOND FORM's CARD OF 'palfreylaw03.BargainOutcomes'. -/
def bargainOutcomesUptoCard : Claim7 := { stood := { row := bargainOutcomesUptoRow, standIns := [], harness := (true, "99970bfd50b600704f9af58b1a5c0b745c0ca5df79d97467286b25bc70c77204"), looks := true }, kinds := [], alts := [], goes := true, laidByText := true, laidKinds := [.handle], laidTests := true, laidLooks := .later }
def BargainOutcomesUptoCardSaid : Prop := Claim7.holds Tryz.pinned (.plain (OpenSpec.upto bargainOutcomesSpec)) bargainOutcomesUptoCard
end Rows
end Go.Proofs.YtndbdhbkakipmaaGreatDoor
