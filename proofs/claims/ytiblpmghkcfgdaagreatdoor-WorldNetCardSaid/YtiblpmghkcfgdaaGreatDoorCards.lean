/-
  DERIVED. GIVEN WITH THE SEED: THE CARDS: each row of YtiblpmghkcfgdaaGreatDoorRows.lean that lists a variable, with what it lists TIED to the program's text (the seventh form; the later family's looks); each row that meets fmt, with fmt's text TOLD by the authors' own Lean function (tested against real Go, not proved from fmt's source: count such statements apart). THE CARD IS WHAT COUNTS. Prove the row's statement (the work); the ties are given (YtiblpmghkcfgdaaGreatDoorTie.lean); close each card by the builder's one call (the guide's Derived/Test/ToyasCard.lean, 'card_holds'). Laid BY PROGRAM, IN A SANDBOX (cutbox-door.mjs). By AI agents, Wed Nov 11 2026. No macro, syntax, notation, axiom, sorry.
-/
import Derived.Test.YtiblpmghkcfgdaaGreatDoorRows
import GoSem.ClaimSeven
namespace Go.Proofs.YtiblpmghkcfgdaaGreatDoor
namespace Rows

/-- THE TIED CARD OF 'cairnlaw.WorldNet'. -/
def worldNetCard : Claim7 := { stood := { row := worldNetRow, standIns := [], harness := (true, "4348e5cf0cb0d4b8c6225715c92d908469116327a3691fed1f8a5e1e4a03f15b"), looks := false }, kinds := [], alts := [], laidByText := true, laidKinds := [.data, .data, .data], laidTests := true, laidLooks := .later }
def WorldNetCardSaid : Prop := Claim7.holds Tryz.pinned (.plain (OpenSpec.ofChange worldNetSpec)) worldNetCard

/-- THE TIED CARD OF 'cairnlaw.WorldKeeps'. -/
def worldKeepsCard : Claim7 := { stood := { row := worldKeepsRow, standIns := [], harness := (true, "4348e5cf0cb0d4b8c6225715c92d908469116327a3691fed1f8a5e1e4a03f15b"), looks := false }, kinds := [], alts := [], laidByText := true, laidKinds := [.data, .data, .data], laidTests := true, laidLooks := .later }
def WorldKeepsCardSaid : Prop := Claim7.holds Tryz.pinned (.plain (OpenSpec.ofChange worldKeepsSpec)) worldKeepsCard

/-- THE TIED CARD OF 'cairnlaw.WorldHonest'. -/
def worldHonestCard : Claim7 := { stood := { row := worldHonestRow, standIns := [], harness := (true, "4348e5cf0cb0d4b8c6225715c92d908469116327a3691fed1f8a5e1e4a03f15b"), looks := false }, kinds := [], alts := [], laidByText := true, laidKinds := [.data, .data, .data], laidTests := true, laidLooks := .later }
def WorldHonestCardSaid : Prop := Claim7.holds Tryz.pinned (.plain (OpenSpec.ofChange worldHonestSpec)) worldHonestCard

/-- THE TIED CARD OF 'cairnlaw.WorldAgree'. -/
def worldAgreeCard : Claim7 := { stood := { row := worldAgreeRow, standIns := [], harness := (true, "4348e5cf0cb0d4b8c6225715c92d908469116327a3691fed1f8a5e1e4a03f15b"), looks := false }, kinds := [], alts := [], laidByText := true, laidKinds := [.data, .data, .data], laidTests := true, laidLooks := .later }
def WorldAgreeCardSaid : Prop := Claim7.holds Tryz.pinned (.plain (OpenSpec.ofChange worldAgreeSpec)) worldAgreeCard

/-- THE SECOND FORM's CARD OF 'cairnlaw.WorldNet'. -/
def worldNetUptoCard : Claim7 := { stood := { row := worldNetUptoRow, standIns := [], harness := (true, "4348e5cf0cb0d4b8c6225715c92d908469116327a3691fed1f8a5e1e4a03f15b"), looks := false }, kinds := [], alts := [], laidByText := true, laidKinds := [.data, .data, .data], laidTests := true, laidLooks := .later }
def WorldNetUptoCardSaid : Prop := Claim7.holds Tryz.pinned (.plain (OpenSpec.upto worldNetSpec)) worldNetUptoCard

/-- THE SECOND FORM's CARD OF 'cairnlaw.WorldKeeps'. -/
def worldKeepsUptoCard : Claim7 := { stood := { row := worldKeepsUptoRow, standIns := [], harness := (true, "4348e5cf0cb0d4b8c6225715c92d908469116327a3691fed1f8a5e1e4a03f15b"), looks := false }, kinds := [], alts := [], laidByText := true, laidKinds := [.data, .data, .data], laidTests := true, laidLooks := .later }
def WorldKeepsUptoCardSaid : Prop := Claim7.holds Tryz.pinned (.plain (OpenSpec.upto worldKeepsSpec)) worldKeepsUptoCard

/-- THE SECOND FORM's CARD OF 'cairnlaw.WorldHonest'. -/
def worldHonestUptoCard : Claim7 := { stood := { row := worldHonestUptoRow, standIns := [], harness := (true, "4348e5cf0cb0d4b8c6225715c92d908469116327a3691fed1f8a5e1e4a03f15b"), looks := false }, kinds := [], alts := [], laidByText := true, laidKinds := [.data, .data, .data], laidTests := true, laidLooks := .later }
def WorldHonestUptoCardSaid : Prop := Claim7.holds Tryz.pinned (.plain (OpenSpec.upto worldHonestSpec)) worldHonestUptoCard

/-- THE SECOND FORM's CARD OF 'cairnlaw.WorldAgree'. -/
def worldAgreeUptoCard : Claim7 := { stood := { row := worldAgreeUptoRow, standIns := [], harness := (true, "4348e5cf0cb0d4b8c6225715c92d908469116327a3691fed1f8a5e1e4a03f15b"), looks := false }, kinds := [], alts := [], laidByText := true, laidKinds := [.data, .data, .data], laidTests := true, laidLooks := .later }
def WorldAgreeUptoCardSaid : Prop := Claim7.holds Tryz.pinned (.plain (OpenSpec.upto worldAgreeSpec)) worldAgreeUptoCard
end Rows
end Go.Proofs.YtiblpmghkcfgdaaGreatDoor
