/-
  DERIVED. GIVEN WITH THE SEED: THE CARDS: each row of YtbeepbgjoikopaaGreatDoorRows.lean that lists a variable, with what it lists TIED to the program's text (the seventh form; the later family's looks); each row that meets fmt, with fmt's text TOLD by the authors' own Lean function (tested against real Go, not proved from fmt's source: count such statements apart). THE CARD IS WHAT COUNTS. Prove the row's statement (the work); the ties are given (YtbeepbgjoikopaaGreatDoorTie.lean); close each card by the builder's one call (the guide's Derived/Test/ToyasCard.lean, 'card_holds'). Laid BY PROGRAM, IN A SANDBOX (cutbox-door.mjs). By AI agents, Wed Nov 11 2026. No macro, syntax, notation, axiom, sorry.
-/
import Derived.Test.YtbeepbgjoikopaaGreatDoorRows
import GoSem.ClaimSeven
namespace Go.Proofs.YtbeepbgjoikopaaGreatDoor
namespace Rows

/-- THE TIED CARD OF 'palfreylaw03.BargainSures'. -/
def bargainSuresCard : Claim7 := { stood := { row := bargainSuresRow, standIns := [], harness := (true, "6b4d4d811846d9f4a274ad6993edd4d5a5fa5c1a09a6b95a016451fad522a4ab"), looks := true }, kinds := [], alts := [], goes := true, laidByText := true, laidKinds := [.handle], laidTests := true, laidLooks := .later }
def BargainSuresCardSaid : Prop := Claim7.holds Tryz.pinned (.plain (OpenSpec.ofChange bargainSuresSpec)) bargainSuresCard

/-- THE TIED CARD OF 'palfreylaw03.BargainPennies'. -/
def bargainPenniesCard : Claim7 := { stood := { row := bargainPenniesRow, standIns := [], harness := (true, "6b4d4d811846d9f4a274ad6993edd4d5a5fa5c1a09a6b95a016451fad522a4ab"), looks := true }, kinds := [], alts := [], goes := true, laidByText := true, laidKinds := [.handle], laidTests := true, laidLooks := .later }
def BargainPenniesCardSaid : Prop := Claim7.holds Tryz.pinned (.plain (OpenSpec.ofChange bargainPenniesSpec)) bargainPenniesCard

/-- THE TIED CARD OF 'palfreylaw03.BargainLeft'. -/
def bargainLeftCard : Claim7 := { stood := { row := bargainLeftRow, standIns := [], harness := (true, "6b4d4d811846d9f4a274ad6993edd4d5a5fa5c1a09a6b95a016451fad522a4ab"), looks := true }, kinds := [], alts := [], goes := true, laidByText := true, laidKinds := [.handle], laidTests := true, laidLooks := .later }
def BargainLeftCardSaid : Prop := Claim7.holds Tryz.pinned (.plain (OpenSpec.ofChange bargainLeftSpec)) bargainLeftCard

/-- THE TIED CARD OF 'palfreylaw03.BargainWithin'. -/
def bargainWithinCard : Claim7 := { stood := { row := bargainWithinRow, standIns := [], harness := (true, "6b4d4d811846d9f4a274ad6993edd4d5a5fa5c1a09a6b95a016451fad522a4ab"), looks := true }, kinds := [], alts := [], goes := true, laidByText := true, laidKinds := [.handle], laidTests := true, laidLooks := .later }
def BargainWithinCardSaid : Prop := Claim7.holds Tryz.pinned (.plain (OpenSpec.ofChange bargainWithinSpec)) bargainWithinCard

/-- THE TIED CARD OF 'palfreylaw03.BargainSure'. -/
def bargainSureCard : Claim7 := { stood := { row := bargainSureRow, standIns := [], harness := (true, "6b4d4d811846d9f4a274ad6993edd4d5a5fa5c1a09a6b95a016451fad522a4ab"), looks := true }, kinds := [], alts := [], goes := true, laidByText := true, laidKinds := [.handle], laidTests := true, laidLooks := .later }
def BargainSureCardSaid : Prop := Claim7.holds Tryz.pinned (.plain (OpenSpec.ofChange bargainSureSpec)) bargainSureCard

/-- THE TIED CARD OF 'palfreylaw03.BargainHigher'. -/
def bargainHigherCard : Claim7 := { stood := { row := bargainHigherRow, standIns := [], harness := (true, "6b4d4d811846d9f4a274ad6993edd4d5a5fa5c1a09a6b95a016451fad522a4ab"), looks := true }, kinds := [], alts := [], goes := true, laidByText := true, laidKinds := [.handle], laidTests := true, laidLooks := .later }
def BargainHigherCardSaid : Prop := Claim7.holds Tryz.pinned (.plain (OpenSpec.ofChange bargainHigherSpec)) bargainHigherCard

/-- THE TIED CARD OF 'palfreylaw03.BargainReach'. -/
def bargainReachCard : Claim7 := { stood := { row := bargainReachRow, standIns := [], harness := (true, "6b4d4d811846d9f4a274ad6993edd4d5a5fa5c1a09a6b95a016451fad522a4ab"), looks := true }, kinds := [], alts := [], goes := true, laidByText := true, laidKinds := [.handle], laidTests := true, laidLooks := .later }
def BargainReachCardSaid : Prop := Claim7.holds Tryz.pinned (.plain (OpenSpec.ofChange bargainReachSpec)) bargainReachCard

/-- THE TIED CARD OF 'palfreylaw03.BargainNarrowed'. -/
def bargainNarrowedCard : Claim7 := { stood := { row := bargainNarrowedRow, standIns := [], harness := (true, "6b4d4d811846d9f4a274ad6993edd4d5a5fa5c1a09a6b95a016451fad522a4ab"), looks := true }, kinds := [], alts := [], goes := true, laidByText := true, laidKinds := [.handle], laidTests := true, laidLooks := .later }
def BargainNarrowedCardSaid : Prop := Claim7.holds Tryz.pinned (.plain (OpenSpec.ofChange bargainNarrowedSpec)) bargainNarrowedCard

/-- THE TIED CARD OF 'palfreylaw03.BargainPrices'. -/
def bargainPricesCard : Claim7 := { stood := { row := bargainPricesRow, standIns := [], harness := (true, "6b4d4d811846d9f4a274ad6993edd4d5a5fa5c1a09a6b95a016451fad522a4ab"), looks := true }, kinds := [], alts := [], goes := true, laidByText := true, laidKinds := [.handle], laidTests := true, laidLooks := .later }
def BargainPricesCardSaid : Prop := Claim7.holds Tryz.pinned (.plain (OpenSpec.ofChange bargainPricesSpec)) bargainPricesCard

/-- THE TIED CARD OF 'palfreylaw03.BargainBest'. -/
def bargainBestCard : Claim7 := { stood := { row := bargainBestRow, standIns := [], harness := (true, "6b4d4d811846d9f4a274ad6993edd4d5a5fa5c1a09a6b95a016451fad522a4ab"), looks := true }, kinds := [], alts := [], goes := true, laidByText := true, laidKinds := [.handle], laidTests := true, laidLooks := .later }
def BargainBestCardSaid : Prop := Claim7.holds Tryz.pinned (.plain (OpenSpec.ofChange bargainBestSpec)) bargainBestCard

/-- THE TIED CARD OF 'palfreylaw03.BargainChecks'. -/
def bargainChecksCard : Claim7 := { stood := { row := bargainChecksRow, standIns := [], harness := (true, "6b4d4d811846d9f4a274ad6993edd4d5a5fa5c1a09a6b95a016451fad522a4ab"), looks := true }, kinds := [], alts := [], goes := true, laidByText := true, laidKinds := [.handle], laidTests := true, laidLooks := .later }
def BargainChecksCardSaid : Prop := Claim7.holds Tryz.pinned (.plain (OpenSpec.ofChange bargainChecksSpec)) bargainChecksCard

/-- THE TIED CARD OF 'palfreylaw03.BargainEnds'. -/
def bargainEndsCard : Claim7 := { stood := { row := bargainEndsRow, standIns := [], harness := (true, "6b4d4d811846d9f4a274ad6993edd4d5a5fa5c1a09a6b95a016451fad522a4ab"), looks := true }, kinds := [], alts := [], goes := true, laidByText := true, laidKinds := [.handle], laidTests := true, laidLooks := .later }
def BargainEndsCardSaid : Prop := Claim7.holds Tryz.pinned (.plain (OpenSpec.ofChange bargainEndsSpec)) bargainEndsCard

/-- THE TIED CARD OF 'palfreylaw03.BargainNamed'. -/
def bargainNamedCard : Claim7 := { stood := { row := bargainNamedRow, standIns := [], harness := (true, "6b4d4d811846d9f4a274ad6993edd4d5a5fa5c1a09a6b95a016451fad522a4ab"), looks := true }, kinds := [], alts := [], goes := true, laidByText := true, laidKinds := [.handle], laidTests := true, laidLooks := .later }
def BargainNamedCardSaid : Prop := Claim7.holds Tryz.pinned (.plain (OpenSpec.ofChange bargainNamedSpec)) bargainNamedCard

/-- THE TIED CARD OF 'palfreylaw03.BargainPenny'. -/
def bargainPennyCard : Claim7 := { stood := { row := bargainPennyRow, standIns := [], harness := (true, "6b4d4d811846d9f4a274ad6993edd4d5a5fa5c1a09a6b95a016451fad522a4ab"), looks := true }, kinds := [], alts := [], goes := true, laidByText := true, laidKinds := [.handle], laidTests := true, laidLooks := .later }
def BargainPennyCardSaid : Prop := Claim7.holds Tryz.pinned (.plain (OpenSpec.ofChange bargainPennySpec)) bargainPennyCard

/-- THE TIED CARD OF 'palfreylaw03.BargainHalf'. -/
def bargainHalfCard : Claim7 := { stood := { row := bargainHalfRow, standIns := [], harness := (true, "6b4d4d811846d9f4a274ad6993edd4d5a5fa5c1a09a6b95a016451fad522a4ab"), looks := true }, kinds := [], alts := [], goes := true, laidByText := true, laidKinds := [.handle], laidTests := true, laidLooks := .later }
def BargainHalfCardSaid : Prop := Claim7.holds Tryz.pinned (.plain (OpenSpec.ofChange bargainHalfSpec)) bargainHalfCard

/-- THE TIED CARD OF 'palfreylaw03.BargainMoves'. -/
def bargainMovesCard : Claim7 := { stood := { row := bargainMovesRow, standIns := [], harness := (true, "6b4d4d811846d9f4a274ad6993edd4d5a5fa5c1a09a6b95a016451fad522a4ab"), looks := true }, kinds := [], alts := [], goes := true, laidByText := true, laidKinds := [.handle], laidTests := true, laidLooks := .later }
def BargainMovesCardSaid : Prop := Claim7.holds Tryz.pinned (.plain (OpenSpec.ofChange bargainMovesSpec)) bargainMovesCard

/-- THE TIED CARD OF 'palfreylaw03.BargainOutcomes'. -/
def bargainOutcomesCard : Claim7 := { stood := { row := bargainOutcomesRow, standIns := [], harness := (true, "6b4d4d811846d9f4a274ad6993edd4d5a5fa5c1a09a6b95a016451fad522a4ab"), looks := true }, kinds := [], alts := [], goes := true, laidByText := true, laidKinds := [.handle], laidTests := true, laidLooks := .later }
def BargainOutcomesCardSaid : Prop := Claim7.holds Tryz.pinned (.plain (OpenSpec.ofChange bargainOutcomesSpec)) bargainOutcomesCard

/-- THE TIED CARD OF 'palfreylaw03.BargainAlone'. -/
def bargainAloneCard : Claim7 := { stood := { row := bargainAloneRow, standIns := [], harness := (true, "6b4d4d811846d9f4a274ad6993edd4d5a5fa5c1a09a6b95a016451fad522a4ab"), looks := true }, kinds := [], alts := [], goes := true, laidByText := true, laidKinds := [.handle], laidTests := true, laidLooks := .later }
def BargainAloneCardSaid : Prop := Claim7.holds Tryz.pinned (.plain (OpenSpec.ofChange bargainAloneSpec)) bargainAloneCard

/-- THE TIED CARD OF 'palfreylaw03.BargainTurned'. -/
def bargainTurnedCard : Claim7 := { stood := { row := bargainTurnedRow, standIns := [], harness := (true, "6b4d4d811846d9f4a274ad6993edd4d5a5fa5c1a09a6b95a016451fad522a4ab"), looks := true }, kinds := [], alts := [], goes := true, laidByText := true, laidKinds := [.handle], laidTests := true, laidLooks := .later }
def BargainTurnedCardSaid : Prop := Claim7.holds Tryz.pinned (.plain (OpenSpec.ofChange bargainTurnedSpec)) bargainTurnedCard

/-- THE TIED CARD OF 'palfreylaw03.BargainKnown'. -/
def bargainKnownCard : Claim7 := { stood := { row := bargainKnownRow, standIns := [], harness := (true, "6b4d4d811846d9f4a274ad6993edd4d5a5fa5c1a09a6b95a016451fad522a4ab"), looks := true }, kinds := [], alts := [], goes := true, laidByText := true, laidKinds := [.handle], laidTests := true, laidLooks := .later }
def BargainKnownCardSaid : Prop := Claim7.holds Tryz.pinned (.plain (OpenSpec.ofChange bargainKnownSpec)) bargainKnownCard

/-- THE SECOND FORM's CARD OF 'palfreylaw03.BargainSures'. -/
def bargainSuresUptoCard : Claim7 := { stood := { row := bargainSuresUptoRow, standIns := [], harness := (true, "6b4d4d811846d9f4a274ad6993edd4d5a5fa5c1a09a6b95a016451fad522a4ab"), looks := true }, kinds := [], alts := [], goes := true, laidByText := true, laidKinds := [.handle], laidTests := true, laidLooks := .later }
def BargainSuresUptoCardSaid : Prop := Claim7.holds Tryz.pinned (.plain (OpenSpec.upto bargainSuresSpec)) bargainSuresUptoCard

/-- THE SECOND FORM's CARD OF 'palfreylaw03.BargainPennies'. -/
def bargainPenniesUptoCard : Claim7 := { stood := { row := bargainPenniesUptoRow, standIns := [], harness := (true, "6b4d4d811846d9f4a274ad6993edd4d5a5fa5c1a09a6b95a016451fad522a4ab"), looks := true }, kinds := [], alts := [], goes := true, laidByText := true, laidKinds := [.handle], laidTests := true, laidLooks := .later }
def BargainPenniesUptoCardSaid : Prop := Claim7.holds Tryz.pinned (.plain (OpenSpec.upto bargainPenniesSpec)) bargainPenniesUptoCard

/-- THE SECOND FORM's CARD OF 'palfreylaw03.BargainLeft'. -/
def bargainLeftUptoCard : Claim7 := { stood := { row := bargainLeftUptoRow, standIns := [], harness := (true, "6b4d4d811846d9f4a274ad6993edd4d5a5fa5c1a09a6b95a016451fad522a4ab"), looks := true }, kinds := [], alts := [], goes := true, laidByText := true, laidKinds := [.handle], laidTests := true, laidLooks := .later }
def BargainLeftUptoCardSaid : Prop := Claim7.holds Tryz.pinned (.plain (OpenSpec.upto bargainLeftSpec)) bargainLeftUptoCard

/-- THE SECOND FORM's CARD OF 'palfreylaw03.BargainWithin'. -/
def bargainWithinUptoCard : Claim7 := { stood := { row := bargainWithinUptoRow, standIns := [], harness := (true, "6b4d4d811846d9f4a274ad6993edd4d5a5fa5c1a09a6b95a016451fad522a4ab"), looks := true }, kinds := [], alts := [], goes := true, laidByText := true, laidKinds := [.handle], laidTests := true, laidLooks := .later }
def BargainWithinUptoCardSaid : Prop := Claim7.holds Tryz.pinned (.plain (OpenSpec.upto bargainWithinSpec)) bargainWithinUptoCard

/-- THE SECOND FORM's CARD OF 'palfreylaw03.BargainSure'. -/
def bargainSureUptoCard : Claim7 := { stood := { row := bargainSureUptoRow, standIns := [], harness := (true, "6b4d4d811846d9f4a274ad6993edd4d5a5fa5c1a09a6b95a016451fad522a4ab"), looks := true }, kinds := [], alts := [], goes := true, laidByText := true, laidKinds := [.handle], laidTests := true, laidLooks := .later }
def BargainSureUptoCardSaid : Prop := Claim7.holds Tryz.pinned (.plain (OpenSpec.upto bargainSureSpec)) bargainSureUptoCard

/-- THE SECOND FORM's CARD OF 'palfreylaw03.BargainHigher'. -/
def bargainHigherUptoCard : Claim7 := { stood := { row := bargainHigherUptoRow, standIns := [], harness := (true, "6b4d4d811846d9f4a274ad6993edd4d5a5fa5c1a09a6b95a016451fad522a4ab"), looks := true }, kinds := [], alts := [], goes := true, laidByText := true, laidKinds := [.handle], laidTests := true, laidLooks := .later }
def BargainHigherUptoCardSaid : Prop := Claim7.holds Tryz.pinned (.plain (OpenSpec.upto bargainHigherSpec)) bargainHigherUptoCard

/-- THE SECOND FORM's CARD OF 'palfreylaw03.BargainReach'. -/
def bargainReachUptoCard : Claim7 := { stood := { row := bargainReachUptoRow, standIns := [], harness := (true, "6b4d4d811846d9f4a274ad6993edd4d5a5fa5c1a09a6b95a016451fad522a4ab"), looks := true }, kinds := [], alts := [], goes := true, laidByText := true, laidKinds := [.handle], laidTests := true, laidLooks := .later }
def BargainReachUptoCardSaid : Prop := Claim7.holds Tryz.pinned (.plain (OpenSpec.upto bargainReachSpec)) bargainReachUptoCard

/-- THE SECOND FORM's CARD OF 'palfreylaw03.BargainNarrowed'. -/
def bargainNarrowedUptoCard : Claim7 := { stood := { row := bargainNarrowedUptoRow, standIns := [], harness := (true, "6b4d4d811846d9f4a274ad6993edd4d5a5fa5c1a09a6b95a016451fad522a4ab"), looks := true }, kinds := [], alts := [], goes := true, laidByText := true, laidKinds := [.handle], laidTests := true, laidLooks := .later }
def BargainNarrowedUptoCardSaid : Prop := Claim7.holds Tryz.pinned (.plain (OpenSpec.upto bargainNarrowedSpec)) bargainNarrowedUptoCard

/-- THE SECOND FORM's CARD OF 'palfreylaw03.BargainPrices'. -/
def bargainPricesUptoCard : Claim7 := { stood := { row := bargainPricesUptoRow, standIns := [], harness := (true, "6b4d4d811846d9f4a274ad6993edd4d5a5fa5c1a09a6b95a016451fad522a4ab"), looks := true }, kinds := [], alts := [], goes := true, laidByText := true, laidKinds := [.handle], laidTests := true, laidLooks := .later }
def BargainPricesUptoCardSaid : Prop := Claim7.holds Tryz.pinned (.plain (OpenSpec.upto bargainPricesSpec)) bargainPricesUptoCard

/-- THE SECOND FORM's CARD OF 'palfreylaw03.BargainBest'. -/
def bargainBestUptoCard : Claim7 := { stood := { row := bargainBestUptoRow, standIns := [], harness := (true, "6b4d4d811846d9f4a274ad6993edd4d5a5fa5c1a09a6b95a016451fad522a4ab"), looks := true }, kinds := [], alts := [], goes := true, laidByText := true, laidKinds := [.handle], laidTests := true, laidLooks := .later }
def BargainBestUptoCardSaid : Prop := Claim7.holds Tryz.pinned (.plain (OpenSpec.upto bargainBestSpec)) bargainBestUptoCard

/-- THE SECOND FORM's CARD OF 'palfreylaw03.BargainChecks'. -/
def bargainChecksUptoCard : Claim7 := { stood := { row := bargainChecksUptoRow, standIns := [], harness := (true, "6b4d4d811846d9f4a274ad6993edd4d5a5fa5c1a09a6b95a016451fad522a4ab"), looks := true }, kinds := [], alts := [], goes := true, laidByText := true, laidKinds := [.handle], laidTests := true, laidLooks := .later }
def BargainChecksUptoCardSaid : Prop := Claim7.holds Tryz.pinned (.plain (OpenSpec.upto bargainChecksSpec)) bargainChecksUptoCard

/-- THE SECOND FORM's CARD OF 'palfreylaw03.BargainEnds'. -/
def bargainEndsUptoCard : Claim7 := { stood := { row := bargainEndsUptoRow, standIns := [], harness := (true, "6b4d4d811846d9f4a274ad6993edd4d5a5fa5c1a09a6b95a016451fad522a4ab"), looks := true }, kinds := [], alts := [], goes := true, laidByText := true, laidKinds := [.handle], laidTests := true, laidLooks := .later }
def BargainEndsUptoCardSaid : Prop := Claim7.holds Tryz.pinned (.plain (OpenSpec.upto bargainEndsSpec)) bargainEndsUptoCard

/-- THE SECOND FORM's CARD OF 'palfreylaw03.BargainNamed'. -/
def bargainNamedUptoCard : Claim7 := { stood := { row := bargainNamedUptoRow, standIns := [], harness := (true, "6b4d4d811846d9f4a274ad6993edd4d5a5fa5c1a09a6b95a016451fad522a4ab"), looks := true }, kinds := [], alts := [], goes := true, laidByText := true, laidKinds := [.handle], laidTests := true, laidLooks := .later }
def BargainNamedUptoCardSaid : Prop := Claim7.holds Tryz.pinned (.plain (OpenSpec.upto bargainNamedSpec)) bargainNamedUptoCard

/-- THE SECOND FORM's CARD OF 'palfreylaw03.BargainPenny'. -/
def bargainPennyUptoCard : Claim7 := { stood := { row := bargainPennyUptoRow, standIns := [], harness := (true, "6b4d4d811846d9f4a274ad6993edd4d5a5fa5c1a09a6b95a016451fad522a4ab"), looks := true }, kinds := [], alts := [], goes := true, laidByText := true, laidKinds := [.handle], laidTests := true, laidLooks := .later }
def BargainPennyUptoCardSaid : Prop := Claim7.holds Tryz.pinned (.plain (OpenSpec.upto bargainPennySpec)) bargainPennyUptoCard

/-- THE SECOND FORM's CARD OF 'palfreylaw03.BargainHalf'. -/
def bargainHalfUptoCard : Claim7 := { stood := { row := bargainHalfUptoRow, standIns := [], harness := (true, "6b4d4d811846d9f4a274ad6993edd4d5a5fa5c1a09a6b95a016451fad522a4ab"), looks := true }, kinds := [], alts := [], goes := true, laidByText := true, laidKinds := [.handle], laidTests := true, laidLooks := .later }
def BargainHalfUptoCardSaid : Prop := Claim7.holds Tryz.pinned (.plain (OpenSpec.upto bargainHalfSpec)) bargainHalfUptoCard

/-- THE SECOND FORM's CARD OF 'palfreylaw03.BargainMoves'. -/
def bargainMovesUptoCard : Claim7 := { stood := { row := bargainMovesUptoRow, standIns := [], harness := (true, "6b4d4d811846d9f4a274ad6993edd4d5a5fa5c1a09a6b95a016451fad522a4ab"), looks := true }, kinds := [], alts := [], goes := true, laidByText := true, laidKinds := [.handle], laidTests := true, laidLooks := .later }
def BargainMovesUptoCardSaid : Prop := Claim7.holds Tryz.pinned (.plain (OpenSpec.upto bargainMovesSpec)) bargainMovesUptoCard

/-- THE SECOND FORM's CARD OF 'palfreylaw03.BargainOutcomes'. -/
def bargainOutcomesUptoCard : Claim7 := { stood := { row := bargainOutcomesUptoRow, standIns := [], harness := (true, "6b4d4d811846d9f4a274ad6993edd4d5a5fa5c1a09a6b95a016451fad522a4ab"), looks := true }, kinds := [], alts := [], goes := true, laidByText := true, laidKinds := [.handle], laidTests := true, laidLooks := .later }
def BargainOutcomesUptoCardSaid : Prop := Claim7.holds Tryz.pinned (.plain (OpenSpec.upto bargainOutcomesSpec)) bargainOutcomesUptoCard

/-- THE SECOND FORM's CARD OF 'palfreylaw03.BargainAlone'. -/
def bargainAloneUptoCard : Claim7 := { stood := { row := bargainAloneUptoRow, standIns := [], harness := (true, "6b4d4d811846d9f4a274ad6993edd4d5a5fa5c1a09a6b95a016451fad522a4ab"), looks := true }, kinds := [], alts := [], goes := true, laidByText := true, laidKinds := [.handle], laidTests := true, laidLooks := .later }
def BargainAloneUptoCardSaid : Prop := Claim7.holds Tryz.pinned (.plain (OpenSpec.upto bargainAloneSpec)) bargainAloneUptoCard

/-- THE SECOND FORM's CARD OF 'palfreylaw03.BargainTurned'. -/
def bargainTurnedUptoCard : Claim7 := { stood := { row := bargainTurnedUptoRow, standIns := [], harness := (true, "6b4d4d811846d9f4a274ad6993edd4d5a5fa5c1a09a6b95a016451fad522a4ab"), looks := true }, kinds := [], alts := [], goes := true, laidByText := true, laidKinds := [.handle], laidTests := true, laidLooks := .later }
def BargainTurnedUptoCardSaid : Prop := Claim7.holds Tryz.pinned (.plain (OpenSpec.upto bargainTurnedSpec)) bargainTurnedUptoCard

/-- THE SECOND FORM's CARD OF 'palfreylaw03.BargainKnown'. -/
def bargainKnownUptoCard : Claim7 := { stood := { row := bargainKnownUptoRow, standIns := [], harness := (true, "6b4d4d811846d9f4a274ad6993edd4d5a5fa5c1a09a6b95a016451fad522a4ab"), looks := true }, kinds := [], alts := [], goes := true, laidByText := true, laidKinds := [.handle], laidTests := true, laidLooks := .later }
def BargainKnownUptoCardSaid : Prop := Claim7.holds Tryz.pinned (.plain (OpenSpec.upto bargainKnownSpec)) bargainKnownUptoCard
end Rows
end Go.Proofs.YtbeepbgjoikopaaGreatDoor
