/-
  DERIVED. GIVEN WITH THE SEED: THE CARDS: each row of YtjoadcnenemfkaaGreatDoorRows.lean that lists a variable, with what it lists TIED to the program's text (the seventh form; the later family's looks); each row that meets fmt, with fmt's text TOLD by the authors' own Lean function (tested against real Go, not proved from fmt's source: count such statements apart). THE CARD IS WHAT COUNTS. Prove the row's statement (the work); the ties are given (YtjoadcnenemfkaaGreatDoorTie.lean); close each card by the builder's one call (the guide's Derived/Test/ToyasCard.lean, 'card_holds'). Laid BY PROGRAM, IN A SANDBOX (cutbox-door.mjs). By AI agents, Wed Nov 11 2026. No macro, syntax, notation, axiom, sorry.
-/
import Derived.Test.YtjoadcnenemfkaaGreatDoorRows
import GoSem.ClaimSeven
namespace Go.Proofs.YtjoadcnenemfkaaGreatDoor
namespace Rows

/-- THE TIED CARD OF 'palfreylaw08.LineNumbered'. -/
def lineNumberedCard : Claim7 := { stood := { row := lineNumberedRow, standIns := [], harness := (true, "54c209f518b8d30a8d7018384d2a2f82c6976b58fbdd4afe6b4d4b88b1b5f38b"), looks := true }, kinds := [], alts := [], goes := true, laidByText := true, laidKinds := [.handle], laidTests := true, laidLooks := .later }
def LineNumberedCardSaid : Prop := Claim7.holds Tryz.pinned (.plain (OpenSpec.ofChange lineNumberedSpec)) lineNumberedCard

/-- THE SECOND FORM's CARD OF 'palfreylaw08.LineNumbered'. -/
def lineNumberedUptoCard : Claim7 := { stood := { row := lineNumberedUptoRow, standIns := [], harness := (true, "54c209f518b8d30a8d7018384d2a2f82c6976b58fbdd4afe6b4d4b88b1b5f38b"), looks := true }, kinds := [], alts := [], goes := true, laidByText := true, laidKinds := [.handle], laidTests := true, laidLooks := .later }
def LineNumberedUptoCardSaid : Prop := Claim7.holds Tryz.pinned (.plain (OpenSpec.upto lineNumberedSpec)) lineNumberedUptoCard
end Rows
end Go.Proofs.YtjoadcnenemfkaaGreatDoor
