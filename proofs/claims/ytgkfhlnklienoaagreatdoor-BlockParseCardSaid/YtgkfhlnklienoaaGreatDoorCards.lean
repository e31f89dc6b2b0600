/-
  DERIVED. GIVEN WITH THE SEED: THE CARDS: each row of YtgkfhlnklienoaaGreatDoorRows.lean that lists a variable, with what it lists TIED to the program's text (the seventh form; the later family's looks); each row that meets fmt, with fmt's text TOLD by the authors' own Lean function (tested against real Go, not proved from fmt's source: count such statements apart). THE CARD IS WHAT COUNTS. Prove the row's statement (the work); the ties are given (YtgkfhlnklienoaaGreatDoorTie.lean); close each card by the builder's one call (the guide's Derived/Test/ToyasCard.lean, 'card_holds'). Laid BY PROGRAM, IN A SANDBOX (cutbox-door.mjs). By AI agents, Wed Nov 11 2026. No macro, syntax, notation, axiom, sorry.
-/
import Derived.Test.YtgkfhlnklienoaaGreatDoorRows
import GoSem.ClaimSeven
namespace Go.Proofs.YtgkfhlnklienoaaGreatDoor
namespace Rows

/-- THE TIED CARD OF 'cairnlaw.BlockParse'. -/
def blockParseCard : Claim7 := { stood := { row := blockParseRow, standIns := [], harness := (true, "b9a81880fac0deba69dcbcf4a160b2de223d6ca93c355e6fa53fed93c1444485"), looks := true }, kinds := [], alts := [], laidByText := true, laidKinds := [.data, .data, .data, .data, .sentinel, .sentinel, .listed, .data, .pinned], laidTests := true, laidLooks := .later }
def BlockParseCardSaid : Prop := Claim7.holds Tryz.pinned (.plain (OpenSpec.ofChange blockParseSpec)) blockParseCard

/-- THE TIED CARD OF 'cairnlaw.NodeGrows'. -/
def nodeGrowsCard : Claim7 := { stood := { row := nodeGrowsRow, standIns := [], harness := (true, "b9a81880fac0deba69dcbcf4a160b2de223d6ca93c355e6fa53fed93c1444485"), looks := true }, kinds := [], alts := [], laidByText := true, laidKinds := [.data, .data, .data], laidTests := true, laidLooks := .later }
def NodeGrowsCardSaid : Prop := Claim7.holds Tryz.pinned (.plain (OpenSpec.ofChange nodeGrowsSpec)) nodeGrowsCard

/-- THE TIED CARD OF 'cairnlaw.NodeTwice'. -/
def nodeTwiceCard : Claim7 := { stood := { row := nodeTwiceRow, standIns := [], harness := (true, "b9a81880fac0deba69dcbcf4a160b2de223d6ca93c355e6fa53fed93c1444485"), looks := true }, kinds := [], alts := [], laidByText := true, laidKinds := [.data, .data, .data], laidTests := true, laidLooks := .later }
def NodeTwiceCardSaid : Prop := Claim7.holds Tryz.pinned (.plain (OpenSpec.ofChange nodeTwiceSpec)) nodeTwiceCard

/-- THE TIED CARD OF 'cairnlaw.NodeOrder'. -/
def nodeOrderCard : Claim7 := { stood := { row := nodeOrderRow, standIns := [], harness := (true, "b9a81880fac0deba69dcbcf4a160b2de223d6ca93c355e6fa53fed93c1444485"), looks := true }, kinds := [], alts := [], laidByText := true, laidKinds := [.data, .data, .data], laidTests := true, laidLooks := .later }
def NodeOrderCardSaid : Prop := Claim7.holds Tryz.pinned (.plain (OpenSpec.ofChange nodeOrderSpec)) nodeOrderCard

/-- THE TIED CARD OF 'cairnlaw.WorldNet'. -/
def worldNetCard : Claim7 := { stood := { row := worldNetRow, standIns := [], harness := (true, "b9a81880fac0deba69dcbcf4a160b2de223d6ca93c355e6fa53fed93c1444485"), looks := true }, kinds := [], alts := [], laidByText := true, laidKinds := [.data, .data, .data], laidTests := true, laidLooks := .later }
def WorldNetCardSaid : Prop := Claim7.holds Tryz.pinned (.plain (OpenSpec.ofChange worldNetSpec)) worldNetCard

/-- THE TIED CARD OF 'cairnlaw.WorldKeeps'. -/
def worldKeepsCard : Claim7 := { stood := { row := worldKeepsRow, standIns := [], harness := (true, "b9a81880fac0deba69dcbcf4a160b2de223d6ca93c355e6fa53fed93c1444485"), looks := true }, kinds := [], alts := [], laidByText := true, laidKinds := [.data, .data, .data], laidTests := true, laidLooks := .later }
def WorldKeepsCardSaid : Prop := Claim7.holds Tryz.pinned (.plain (OpenSpec.ofChange worldKeepsSpec)) worldKeepsCard

/-- THE TIED CARD OF 'cairnlaw.WorldHonest'. -/
def worldHonestCard : Claim7 := { stood := { row := worldHonestRow, standIns := [], harness := (true, "b9a81880fac0deba69dcbcf4a160b2de223d6ca93c355e6fa53fed93c1444485"), looks := true }, kinds := [], alts := [], laidByText := true, laidKinds := [.data, .data, .data], laidTests := true, laidLooks := .later }
def WorldHonestCardSaid : Prop := Claim7.holds Tryz.pinned (.plain (OpenSpec.ofChange worldHonestSpec)) worldHonestCard

/-- THE TIED CARD OF 'cairnlaw.WorldAgree'. -/
def worldAgreeCard : Claim7 := { stood := { row := worldAgreeRow, standIns := [], harness := (true, "b9a81880fac0deba69dcbcf4a160b2de223d6ca93c355e6fa53fed93c1444485"), looks := true }, kinds := [], alts := [], laidByText := true, laidKinds := [.data, .data, .data], laidTests := true, laidLooks := .later }
def WorldAgreeCardSaid : Prop := Claim7.holds Tryz.pinned (.plain (OpenSpec.ofChange worldAgreeSpec)) worldAgreeCard

/-- THE SECOND FORM's CARD OF 'cairnlaw.BlockParse'. -/
def blockParseUptoCard : Claim7 := { stood := { row := blockParseUptoRow, standIns := [], harness := (true, "b9a81880fac0deba69dcbcf4a160b2de223d6ca93c355e6fa53fed93c1444485"), looks := true }, kinds := [], alts := [], laidByText := true, laidKinds := [.data, .data, .data, .data, .sentinel, .sentinel, .listed, .data, .pinned], laidTests := true, laidLooks := .later }
def BlockParseUptoCardSaid : Prop := Claim7.holds Tryz.pinned (.plain (OpenSpec.upto blockParseSpec)) blockParseUptoCard

/-- THE SECOND FORM's CARD OF 'cairnlaw.NodeGrows'. -/
def nodeGrowsUptoCard : Claim7 := { stood := { row := nodeGrowsUptoRow, standIns := [], harness := (true, "b9a81880fac0deba69dcbcf4a160b2de223d6ca93c355e6fa53fed93c1444485"), looks := true }, kinds := [], alts := [], laidByText := true, laidKinds := [.data, .data, .data], laidTests := true, laidLooks := .later }
def NodeGrowsUptoCardSaid : Prop := Claim7.holds Tryz.pinned (.plain (OpenSpec.upto nodeGrowsSpec)) nodeGrowsUptoCard

/-- THE SECOND FORM's CARD OF 'cairnlaw.NodeTwice'. -/
def nodeTwiceUptoCard : Claim7 := { stood := { row := nodeTwiceUptoRow, standIns := [], harness := (true, "b9a81880fac0deba69dcbcf4a160b2de223d6ca93c355e6fa53fed93c1444485"), looks := true }, kinds := [], alts := [], laidByText := true, laidKinds := [.data, .data, .data], laidTests := true, laidLooks := .later }
def NodeTwiceUptoCardSaid : Prop := Claim7.holds Tryz.pinned (.plain (OpenSpec.upto nodeTwiceSpec)) nodeTwiceUptoCard

/-- THE SECOND FORM's CARD OF 'cairnlaw.NodeOrder'. -/
def nodeOrderUptoCard : Claim7 := { stood := { row := nodeOrderUptoRow, standIns := [], harness := (true, "b9a81880fac0deba69dcbcf4a160b2de223d6ca93c355e6fa53fed93c1444485"), looks := true }, kinds := [], alts := [], laidByText := true, laidKinds := [.data, .data, .data], laidTests := true, laidLooks := .later }
def NodeOrderUptoCardSaid : Prop := Claim7.holds Tryz.pinned (.plain (OpenSpec.upto nodeOrderSpec)) nodeOrderUptoCard

/-- THE SECOND FORM's CARD OF 'cairnlaw.WorldNet'. -/
def worldNetUptoCard : Claim7 := { stood := { row := worldNetUptoRow, standIns := [], harness := (true, "b9a81880fac0deba69dcbcf4a160b2de223d6ca93c355e6fa53fed93c1444485"), looks := true }, kinds := [], alts := [], laidByText := true, laidKinds := [.data, .data, .data], laidTests := true, laidLooks := .later }
def WorldNetUptoCardSaid : Prop := Claim7.holds Tryz.pinned (.plain (OpenSpec.upto worldNetSpec)) worldNetUptoCard

/-- THE SECOND FORM's CARD OF 'cairnlaw.WorldKeeps'. -/
def worldKeepsUptoCard : Claim7 := { stood := { row := worldKeepsUptoRow, standIns := [], harness := (true, "b9a81880fac0deba69dcbcf4a160b2de223d6ca93c355e6fa53fed93c1444485"), looks := true }, kinds := [], alts := [], laidByText := true, laidKinds := [.data, .data, .data], laidTests := true, laidLooks := .later }
def WorldKeepsUptoCardSaid : Prop := Claim7.holds Tryz.pinned (.plain (OpenSpec.upto worldKeepsSpec)) worldKeepsUptoCard

/-- THE SECOND FORM's CARD OF 'cairnlaw.WorldHonest'. -/
def worldHonestUptoCard : Claim7 := { stood := { row := worldHonestUptoRow, standIns := [], harness := (true, "b9a81880fac0deba69dcbcf4a160b2de223d6ca93c355e6fa53fed93c1444485"), looks := true }, kinds := [], alts := [], laidByText := true, laidKinds := [.data, .data, .data], laidTests := true, laidLooks := .later }
def WorldHonestUptoCardSaid : Prop := Claim7.holds Tryz.pinned (.plain (OpenSpec.upto worldHonestSpec)) worldHonestUptoCard

/-- THE SECOND FORM's CARD OF 'cairnlaw.WorldAgree'. -/
def worldAgreeUptoCard : Claim7 := { stood := { row := worldAgreeUptoRow, standIns := [], harness := (true, "b9a81880fac0deba69dcbcf4a160b2de223d6ca93c355e6fa53fed93c1444485"), looks := true }, kinds := [], alts := [], laidByText := true, laidKinds := [.data, .data, .data], laidTests := true, laidLooks := .later }
def WorldAgreeUptoCardSaid : Prop := Claim7.holds Tryz.pinned (.plain (OpenSpec.upto worldAgreeSpec)) worldAgreeUptoCard
end Rows
end Go.Proofs.YtgkfhlnklienoaaGreatDoor
