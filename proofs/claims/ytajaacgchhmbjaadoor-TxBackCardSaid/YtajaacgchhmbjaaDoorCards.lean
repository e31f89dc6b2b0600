/-
  DERIVED. GIVEN WITH THE SEED: THE CARDS: each row of YtajaacgchhmbjaaDoorRows.lean that lists a variable, with what it lists TIED to the program's text (the seventh form; the later family's looks); each row that meets fmt, with fmt's text TOLD by the authors' own Lean function (tested against real Go, not proved from fmt's source: count such statements apart). THE CARD IS WHAT COUNTS. Prove the row's statement (the work); the ties are given (YtajaacgchhmbjaaDoorTie.lean); close each card by the builder's one call (the guide's Derived/Test/ToyasCard.lean, 'card_holds'). Laid BY PROGRAM, IN A SANDBOX (cutbox-door.mjs). By AI agents, Wed Nov 11 2026. No macro, syntax, notation, axiom, sorry.
-/
import Derived.Test.YtajaacgchhmbjaaDoorRows
import GoSem.ClaimSeven
namespace Go.Proofs.YtajaacgchhmbjaaDoor
namespace Rows

/-- THE TIED CARD OF 'cairnlaw.LockRun'. -/
def lockRunCard : Claim7 := { stood := { row := lockRunRow, standIns := [], harness := (true, "e50f05750bf18d14ffce429fd80b136069a7a2c0dfa91e09b3cd24dd979eb053"), looks := true }, kinds := [], alts := [], laidByText := true, laidKinds := [.data, .data, .data], laidTests := true, laidLooks := .later }
def LockRunCardSaid : Prop := Claim7.holds Tryd.pinned (.plain (OpenSpec.ofChange lockRunSpec)) lockRunCard

/-- THE TIED CARD OF 'cairnlaw.LockOpens'. -/
def lockOpensCard : Claim7 := { stood := { row := lockOpensRow, standIns := [], harness := (true, "e50f05750bf18d14ffce429fd80b136069a7a2c0dfa91e09b3cd24dd979eb053"), looks := true }, kinds := [], alts := [], laidByText := true, laidKinds := [.data, .data, .data], laidTests := true, laidLooks := .later }
def LockOpensCardSaid : Prop := Claim7.holds Tryd.pinned (.plain (OpenSpec.ofChange lockOpensSpec)) lockOpensCard

/-- THE TIED CARD OF 'cairnlaw.LockParts'. -/
def lockPartsCard : Claim7 := { stood := { row := lockPartsRow, standIns := [], harness := (true, "e50f05750bf18d14ffce429fd80b136069a7a2c0dfa91e09b3cd24dd979eb053"), looks := true }, kinds := [], alts := [], laidByText := true, laidKinds := [.data, .data, .data, .data, .sentinel, .sentinel, .pinned], laidTests := true, laidLooks := .later }
def LockPartsCardSaid : Prop := Claim7.holds Tryd.pinned (.plain (OpenSpec.ofChange lockPartsSpec)) lockPartsCard

/-- THE TIED CARD OF 'cairnlaw.LockParse'. -/
def lockParseCard : Claim7 := { stood := { row := lockParseRow, standIns := [], harness := (true, "e50f05750bf18d14ffce429fd80b136069a7a2c0dfa91e09b3cd24dd979eb053"), looks := true }, kinds := [], alts := [], laidByText := true, laidKinds := [.data, .data, .data, .data, .sentinel, .sentinel, .listed, .data, .pinned], laidTests := true, laidLooks := .later }
def LockParseCardSaid : Prop := Claim7.holds Tryd.pinned (.plain (OpenSpec.ofChange lockParseSpec)) lockParseCard

/-- THE TIED CARD OF 'cairnlaw.TxBack'. -/
def txBackCard : Claim7 := { stood := { row := txBackRow, standIns := [], harness := (true, "e50f05750bf18d14ffce429fd80b136069a7a2c0dfa91e09b3cd24dd979eb053"), looks := true }, kinds := [], alts := [], laidByText := true, laidKinds := [.data, .data, .data, .data, .sentinel, .sentinel, .pinned], laidTests := true, laidLooks := .later }
def TxBackCardSaid : Prop := Claim7.holds Tryd.pinned (.plain (OpenSpec.ofChange txBackSpec)) txBackCard

/-- THE TIED CARD OF 'cairnlaw.TxTexts'. -/
def txTextsCard : Claim7 := { stood := { row := txTextsRow, standIns := [], harness := (true, "e50f05750bf18d14ffce429fd80b136069a7a2c0dfa91e09b3cd24dd979eb053"), looks := true }, kinds := [], alts := [], laidByText := true, laidKinds := [.data, .data, .data, .data, .sentinel, .sentinel, .pinned], laidTests := true, laidLooks := .later }
def TxTextsCardSaid : Prop := Claim7.holds Tryd.pinned (.plain (OpenSpec.ofChange txTextsSpec)) txTextsCard

/-- THE TIED CARD OF 'cairnlaw.BlockNamed'. -/
def blockNamedCard : Claim7 := { stood := { row := blockNamedRow, standIns := [], harness := (true, "e50f05750bf18d14ffce429fd80b136069a7a2c0dfa91e09b3cd24dd979eb053"), looks := true }, kinds := [], alts := [], laidByText := true, laidKinds := [.data, .data, .data], laidTests := true, laidLooks := .later }
def BlockNamedCardSaid : Prop := Claim7.holds Tryd.pinned (.plain (OpenSpec.ofChange blockNamedSpec)) blockNamedCard

/-- THE SECOND FORM's CARD OF 'cairnlaw.LockRun'. -/
def lockRunUptoCard : Claim7 := { stood := { row := lockRunUptoRow, standIns := [], harness := (true, "e50f05750bf18d14ffce429fd80b136069a7a2c0dfa91e09b3cd24dd979eb053"), looks := true }, kinds := [], alts := [], laidByText := true, laidKinds := [.data, .data, .data], laidTests := true, laidLooks := .later }
def LockRunUptoCardSaid : Prop := Claim7.holds Tryd.pinned (.plain (OpenSpec.upto lockRunSpec)) lockRunUptoCard

/-- THE SECOND FORM's CARD OF 'cairnlaw.LockOpens'. -/
def lockOpensUptoCard : Claim7 := { stood := { row := lockOpensUptoRow, standIns := [], harness := (true, "e50f05750bf18d14ffce429fd80b136069a7a2c0dfa91e09b3cd24dd979eb053"), looks := true }, kinds := [], alts := [], laidByText := true, laidKinds := [.data, .data, .data], laidTests := true, laidLooks := .later }
def LockOpensUptoCardSaid : Prop := Claim7.holds Tryd.pinned (.plain (OpenSpec.upto lockOpensSpec)) lockOpensUptoCard

/-- THE SECOND FORM's CARD OF 'cairnlaw.LockParts'. -/
def lockPartsUptoCard : Claim7 := { stood := { row := lockPartsUptoRow, standIns := [], harness := (true, "e50f05750bf18d14ffce429fd80b136069a7a2c0dfa91e09b3cd24dd979eb053"), looks := true }, kinds := [], alts := [], laidByText := true, laidKinds := [.data, .data, .data, .data, .sentinel, .sentinel, .pinned], laidTests := true, laidLooks := .later }
def LockPartsUptoCardSaid : Prop := Claim7.holds Tryd.pinned (.plain (OpenSpec.upto lockPartsSpec)) lockPartsUptoCard

/-- THE SECOND FORM's CARD OF 'cairnlaw.LockParse'. -/
def lockParseUptoCard : Claim7 := { stood := { row := lockParseUptoRow, standIns := [], harness := (true, "e50f05750bf18d14ffce429fd80b136069a7a2c0dfa91e09b3cd24dd979eb053"), looks := true }, kinds := [], alts := [], laidByText := true, laidKinds := [.data, .data, .data, .data, .sentinel, .sentinel, .listed, .data, .pinned], laidTests := true, laidLooks := .later }
def LockParseUptoCardSaid : Prop := Claim7.holds Tryd.pinned (.plain (OpenSpec.upto lockParseSpec)) lockParseUptoCard

/-- THE SECOND FORM's CARD OF 'cairnlaw.TxBack'. -/
def txBackUptoCard : Claim7 := { stood := { row := txBackUptoRow, standIns := [], harness := (true, "e50f05750bf18d14ffce429fd80b136069a7a2c0dfa91e09b3cd24dd979eb053"), looks := true }, kinds := [], alts := [], laidByText := true, laidKinds := [.data, .data, .data, .data, .sentinel, .sentinel, .pinned], laidTests := true, laidLooks := .later }
def TxBackUptoCardSaid : Prop := Claim7.holds Tryd.pinned (.plain (OpenSpec.upto txBackSpec)) txBackUptoCard

/-- THE SECOND FORM's CARD OF 'cairnlaw.TxTexts'. -/
def txTextsUptoCard : Claim7 := { stood := { row := txTextsUptoRow, standIns := [], harness := (true, "e50f05750bf18d14ffce429fd80b136069a7a2c0dfa91e09b3cd24dd979eb053"), looks := true }, kinds := [], alts := [], laidByText := true, laidKinds := [.data, .data, .data, .data, .sentinel, .sentinel, .pinned], laidTests := true, laidLooks := .later }
def TxTextsUptoCardSaid : Prop := Claim7.holds Tryd.pinned (.plain (OpenSpec.upto txTextsSpec)) txTextsUptoCard

/-- THE SECOND FORM's CARD OF 'cairnlaw.BlockNamed'. -/
def blockNamedUptoCard : Claim7 := { stood := { row := blockNamedUptoRow, standIns := [], harness := (true, "e50f05750bf18d14ffce429fd80b136069a7a2c0dfa91e09b3cd24dd979eb053"), looks := true }, kinds := [], alts := [], laidByText := true, laidKinds := [.data, .data, .data], laidTests := true, laidLooks := .later }
def BlockNamedUptoCardSaid : Prop := Claim7.holds Tryd.pinned (.plain (OpenSpec.upto blockNamedSpec)) blockNamedUptoCard
end Rows
end Go.Proofs.YtajaacgchhmbjaaDoor
