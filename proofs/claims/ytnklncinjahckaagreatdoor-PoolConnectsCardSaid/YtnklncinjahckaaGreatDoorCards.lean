/-
  DERIVED. GIVEN WITH THE SEED: THE CARDS: each row of YtnklncinjahckaaGreatDoorRows.lean that lists a variable, with what it lists TIED to the program's text (the seventh form; the later family's looks); each row that meets fmt, with fmt's text TOLD by the authors' own Lean function (tested against real Go, not proved from fmt's source: count such statements apart). THE CARD IS WHAT COUNTS. Prove the row's statement (the work); the ties are given (YtnklncinjahckaaGreatDoorTie.lean); close each card by the builder's one call (the guide's Derived/Test/ToyasCard.lean, 'card_holds'). Laid BY PROGRAM, IN A SANDBOX (cutbox-door.mjs). By AI agents, Wed Nov 11 2026. No macro, syntax, notation, axiom, sorry.
-/
import Derived.Test.YtnklncinjahckaaGreatDoorRows
import GoSem.ClaimSeven
namespace Go.Proofs.YtnklncinjahckaaGreatDoor
namespace Rows

/-- THE TIED CARD OF 'cairnlaw.PoolConnects'. -/
def poolConnectsCard : Claim7 := { stood := { row := poolConnectsRow, standIns := [], harness := (true, "11edf4d1afae300ac92d7c24151bf281764f98d46ec4ed9dd3656f3db3d3d2e5"), looks := true }, kinds := [], alts := [], laidByText := true, laidKinds := [.data, .data, .data], laidTests := true, laidLooks := .later }
def PoolConnectsCardSaid : Prop := Claim7.holds Tryz.pinned (.plain (OpenSpec.ofChange poolConnectsSpec)) poolConnectsCard

/-- THE TIED CARD OF 'cairnlaw.ChainDepths'. -/
def chainDepthsCard : Claim7 := { stood := { row := chainDepthsRow, standIns := [], harness := (true, "11edf4d1afae300ac92d7c24151bf281764f98d46ec4ed9dd3656f3db3d3d2e5"), looks := true }, kinds := [], alts := [], laidByText := true, laidKinds := [.data, .data, .data], laidTests := true, laidLooks := .later }
def ChainDepthsCardSaid : Prop := Claim7.holds Tryz.pinned (.plain (OpenSpec.ofChange chainDepthsSpec)) chainDepthsCard

/-- THE TIED CARD OF 'cairnlaw.ChainMoves'. -/
def chainMovesCard : Claim7 := { stood := { row := chainMovesRow, standIns := [], harness := (true, "11edf4d1afae300ac92d7c24151bf281764f98d46ec4ed9dd3656f3db3d3d2e5"), looks := true }, kinds := [], alts := [], laidByText := true, laidKinds := [.data, .data, .data], laidTests := true, laidLooks := .later }
def ChainMovesCardSaid : Prop := Claim7.holds Tryz.pinned (.plain (OpenSpec.ofChange chainMovesSpec)) chainMovesCard

/-- THE TIED CARD OF 'cairnlaw.ChainWays'. -/
def chainWaysCard : Claim7 := { stood := { row := chainWaysRow, standIns := [], harness := (true, "11edf4d1afae300ac92d7c24151bf281764f98d46ec4ed9dd3656f3db3d3d2e5"), looks := true }, kinds := [], alts := [], laidByText := true, laidKinds := [.data, .data, .data], laidTests := true, laidLooks := .later }
def ChainWaysCardSaid : Prop := Claim7.holds Tryz.pinned (.plain (OpenSpec.ofChange chainWaysSpec)) chainWaysCard

/-- THE TIED CARD OF 'cairnlaw.TxPrint'. -/
def txPrintCard : Claim7 := { stood := { row := txPrintRow, standIns := [], harness := (true, "11edf4d1afae300ac92d7c24151bf281764f98d46ec4ed9dd3656f3db3d3d2e5"), looks := true }, kinds := [], alts := [], laidByText := true, laidKinds := [.data, .data, .data, .data, .sentinel, .sentinel, .listed, .data, .pinned], laidTests := true, laidLooks := .later }
def TxPrintCardSaid : Prop := Claim7.holds Tryz.pinned (.plain (OpenSpec.ofChange txPrintSpec)) txPrintCard

/-- THE TIED CARD OF 'cairnlaw.TxParse'. -/
def txParseCard : Claim7 := { stood := { row := txParseRow, standIns := [], harness := (true, "11edf4d1afae300ac92d7c24151bf281764f98d46ec4ed9dd3656f3db3d3d2e5"), looks := true }, kinds := [], alts := [], laidByText := true, laidKinds := [.data, .data, .data, .data, .sentinel, .sentinel, .listed, .data, .pinned], laidTests := true, laidLooks := .later }
def TxParseCardSaid : Prop := Claim7.holds Tryz.pinned (.plain (OpenSpec.ofChange txParseSpec)) txParseCard

/-- THE TIED CARD OF 'cairnlaw.BlockBack'. -/
def blockBackCard : Claim7 := { stood := { row := blockBackRow, standIns := [], harness := (true, "11edf4d1afae300ac92d7c24151bf281764f98d46ec4ed9dd3656f3db3d3d2e5"), looks := true }, kinds := [], alts := [], laidByText := true, laidKinds := [.data, .data, .data, .data, .sentinel, .sentinel, .pinned], laidTests := true, laidLooks := .later }
def BlockBackCardSaid : Prop := Claim7.holds Tryz.pinned (.plain (OpenSpec.ofChange blockBackSpec)) blockBackCard

/-- THE SECOND FORM's CARD OF 'cairnlaw.PoolConnects'. -/
def poolConnectsUptoCard : Claim7 := { stood := { row := poolConnectsUptoRow, standIns := [], harness := (true, "11edf4d1afae300ac92d7c24151bf281764f98d46ec4ed9dd3656f3db3d3d2e5"), looks := true }, kinds := [], alts := [], laidByText := true, laidKinds := [.data, .data, .data], laidTests := true, laidLooks := .later }
def PoolConnectsUptoCardSaid : Prop := Claim7.holds Tryz.pinned (.plain (OpenSpec.upto poolConnectsSpec)) poolConnectsUptoCard

/-- THE SECOND FORM's CARD OF 'cairnlaw.ChainDepths'. -/
def chainDepthsUptoCard : Claim7 := { stood := { row := chainDepthsUptoRow, standIns := [], harness := (true, "11edf4d1afae300ac92d7c24151bf281764f98d46ec4ed9dd3656f3db3d3d2e5"), looks := true }, kinds := [], alts := [], laidByText := true, laidKinds := [.data, .data, .data], laidTests := true, laidLooks := .later }
def ChainDepthsUptoCardSaid : Prop := Claim7.holds Tryz.pinned (.plain (OpenSpec.upto chainDepthsSpec)) chainDepthsUptoCard

/-- THE SECOND FORM's CARD OF 'cairnlaw.ChainMoves'. -/
def chainMovesUptoCard : Claim7 := { stood := { row := chainMovesUptoRow, standIns := [], harness := (true, "11edf4d1afae300ac92d7c24151bf281764f98d46ec4ed9dd3656f3db3d3d2e5"), looks := true }, kinds := [], alts := [], laidByText := true, laidKinds := [.data, .data, .data], laidTests := true, laidLooks := .later }
def ChainMovesUptoCardSaid : Prop := Claim7.holds Tryz.pinned (.plain (OpenSpec.upto chainMovesSpec)) chainMovesUptoCard

/-- THE SECOND FORM's CARD OF 'cairnlaw.ChainWays'. -/
def chainWaysUptoCard : Claim7 := { stood := { row := chainWaysUptoRow, standIns := [], harness := (true, "11edf4d1afae300ac92d7c24151bf281764f98d46ec4ed9dd3656f3db3d3d2e5"), looks := true }, kinds := [], alts := [], laidByText := true, laidKinds := [.data, .data, .data], laidTests := true, laidLooks := .later }
def ChainWaysUptoCardSaid : Prop := Claim7.holds Tryz.pinned (.plain (OpenSpec.upto chainWaysSpec)) chainWaysUptoCard

/-- THE SECOND FORM's CARD OF 'cairnlaw.TxPrint'. -/
def txPrintUptoCard : Claim7 := { stood := { row := txPrintUptoRow, standIns := [], harness := (true, "11edf4d1afae300ac92d7c24151bf281764f98d46ec4ed9dd3656f3db3d3d2e5"), looks := true }, kinds := [], alts := [], laidByText := true, laidKinds := [.data, .data, .data, .data, .sentinel, .sentinel, .listed, .data, .pinned], laidTests := true, laidLooks := .later }
def TxPrintUptoCardSaid : Prop := Claim7.holds Tryz.pinned (.plain (OpenSpec.upto txPrintSpec)) txPrintUptoCard

/-- THE SECOND FORM's CARD OF 'cairnlaw.TxParse'. -/
def txParseUptoCard : Claim7 := { stood := { row := txParseUptoRow, standIns := [], harness := (true, "11edf4d1afae300ac92d7c24151bf281764f98d46ec4ed9dd3656f3db3d3d2e5"), looks := true }, kinds := [], alts := [], laidByText := true, laidKinds := [.data, .data, .data, .data, .sentinel, .sentinel, .listed, .data, .pinned], laidTests := true, laidLooks := .later }
def TxParseUptoCardSaid : Prop := Claim7.holds Tryz.pinned (.plain (OpenSpec.upto txParseSpec)) txParseUptoCard

/-- THE SECOND FORM's CARD OF 'cairnlaw.BlockBack'. -/
def blockBackUptoCard : Claim7 := { stood := { row := blockBackUptoRow, standIns := [], harness := (true, "11edf4d1afae300ac92d7c24151bf281764f98d46ec4ed9dd3656f3db3d3d2e5"), looks := true }, kinds := [], alts := [], laidByText := true, laidKinds := [.data, .data, .data, .data, .sentinel, .sentinel, .pinned], laidTests := true, laidLooks := .later }
def BlockBackUptoCardSaid : Prop := Claim7.holds Tryz.pinned (.plain (OpenSpec.upto blockBackSpec)) blockBackUptoCard
end Rows
end Go.Proofs.YtnklncinjahckaaGreatDoor
