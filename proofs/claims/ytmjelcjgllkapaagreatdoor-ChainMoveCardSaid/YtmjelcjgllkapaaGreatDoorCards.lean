/-
  DERIVED. GIVEN WITH THE SEED: THE CARDS: each row of YtmjelcjgllkapaaGreatDoorRows.lean that lists a variable, with what it lists TIED to the program's text (the seventh form; the later family's looks); each row that meets fmt, with fmt's text TOLD by the authors' own Lean function (tested against real Go, not proved from fmt's source: count such statements apart). THE CARD IS WHAT COUNTS. Prove the row's statement (the work); the ties are given (YtmjelcjgllkapaaGreatDoorTie.lean); close each card by the builder's one call (the guide's Derived/Test/ToyasCard.lean, 'card_holds'). Laid BY PROGRAM, IN A SANDBOX (cutbox-door.mjs). By AI agents, Wed Nov 11 2026. No macro, syntax, notation, axiom, sorry.
-/
import Derived.Test.YtmjelcjgllkapaaGreatDoorRows
import GoSem.ClaimSeven
namespace Go.Proofs.YtmjelcjgllkapaaGreatDoor
namespace Rows

/-- THE TIED CARD OF 'cairnlaw.ChainMove'. -/
def chainMoveCard : Claim7 := { stood := { row := chainMoveRow, standIns := [], harness := (true, "205a12aecb9ecbda78579f7b9f3ccb52f9b733d64f39e8015c281383fda50951"), looks := false }, kinds := [], alts := [], laidByText := true, laidKinds := [.data, .data, .data, .listed, .data], laidTests := true, laidLooks := .later }
def ChainMoveCardSaid : Prop := Claim7.holds Tryz.pinned (.plain (OpenSpec.ofChange chainMoveSpec)) chainMoveCard

/-- THE SECOND FORM's CARD OF 'cairnlaw.ChainMove'. -/
def chainMoveUptoCard : Claim7 := { stood := { row := chainMoveUptoRow, standIns := [], harness := (true, "205a12aecb9ecbda78579f7b9f3ccb52f9b733d64f39e8015c281383fda50951"), looks := false }, kinds := [], alts := [], laidByText := true, laidKinds := [.data, .data, .data, .listed, .data], laidTests := true, laidLooks := .later }
def ChainMoveUptoCardSaid : Prop := Claim7.holds Tryz.pinned (.plain (OpenSpec.upto chainMoveSpec)) chainMoveUptoCard
end Rows
end Go.Proofs.YtmjelcjgllkapaaGreatDoor
