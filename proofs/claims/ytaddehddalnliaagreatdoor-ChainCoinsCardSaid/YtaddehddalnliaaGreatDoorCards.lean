/-
  DERIVED. GIVEN WITH THE SEED: THE CARDS: each row of YtaddehddalnliaaGreatDoorRows.lean that lists a variable, with what it lists TIED to the program's text (the seventh form; the later family's looks); each row that meets fmt, with fmt's text TOLD by the authors' own Lean function (tested against real Go, not proved from fmt's source: count such statements apart). THE CARD IS WHAT COUNTS. Prove the row's statement (the work); the ties are given (YtaddehddalnliaaGreatDoorTie.lean); close each card by the builder's one call (the guide's Derived/Test/ToyasCard.lean, 'card_holds'). Laid BY PROGRAM, IN A SANDBOX (cutbox-door.mjs). By AI agents, Wed Nov 11 2026. No macro, syntax, notation, axiom, sorry.
-/
import Derived.Test.YtaddehddalnliaaGreatDoorRows
import GoSem.ClaimSeven
namespace Go.Proofs.YtaddehddalnliaaGreatDoor
namespace Rows

/-- THE TIED CARD OF 'cairnlaw.PoolSweep'. -/
def poolSweepCard : Claim7 := { stood := { row := poolSweepRow, standIns := [], harness := (true, "c616afc2dd1ffaaca47de8c56444eafd1d8584d6a6fa07b9d28c3a096cb14444"), looks := false }, kinds := [], alts := [], laidByText := true, laidKinds := [.data, .data, .data, .listed, .data], laidTests := true, laidLooks := .later }
def PoolSweepCardSaid : Prop := Claim7.holds Tryz.pinned (.plain (OpenSpec.ofChange poolSweepSpec)) poolSweepCard

/-- THE TIED CARD OF 'cairnlaw.PoolMake'. -/
def poolMakeCard : Claim7 := { stood := { row := poolMakeRow, standIns := [], harness := (true, "c616afc2dd1ffaaca47de8c56444eafd1d8584d6a6fa07b9d28c3a096cb14444"), looks := false }, kinds := [], alts := [], laidByText := true, laidKinds := [.data, .data, .data, .listed, .data], laidTests := true, laidLooks := .later }
def PoolMakeCardSaid : Prop := Claim7.holds Tryz.pinned (.plain (OpenSpec.ofChange poolMakeSpec)) poolMakeCard

/-- THE TIED CARD OF 'cairnlaw.BlockConnect'. -/
def blockConnectCard : Claim7 := { stood := { row := blockConnectRow, standIns := [], harness := (true, "c616afc2dd1ffaaca47de8c56444eafd1d8584d6a6fa07b9d28c3a096cb14444"), looks := false }, kinds := [], alts := [], laidByText := true, laidKinds := [.data, .data, .data, .listed, .data], laidTests := true, laidLooks := .later }
def BlockConnectCardSaid : Prop := Claim7.holds Tryz.pinned (.plain (OpenSpec.ofChange blockConnectSpec)) blockConnectCard

/-- THE TIED CARD OF 'cairnlaw.ChainCoins'. -/
def chainCoinsCard : Claim7 := { stood := { row := chainCoinsRow, standIns := [], harness := (true, "c616afc2dd1ffaaca47de8c56444eafd1d8584d6a6fa07b9d28c3a096cb14444"), looks := false }, kinds := [], alts := [], laidByText := true, laidKinds := [.data, .data, .data, .listed, .data], laidTests := true, laidLooks := .later }
def ChainCoinsCardSaid : Prop := Claim7.holds Tryz.pinned (.plain (OpenSpec.ofChange chainCoinsSpec)) chainCoinsCard

/-- THE TIED CARD OF 'cairnlaw.ChainMove'. -/
def chainMoveCard : Claim7 := { stood := { row := chainMoveRow, standIns := [], harness := (true, "c616afc2dd1ffaaca47de8c56444eafd1d8584d6a6fa07b9d28c3a096cb14444"), looks := false }, kinds := [], alts := [], laidByText := true, laidKinds := [.data, .data, .data, .listed, .data], laidTests := true, laidLooks := .later }
def ChainMoveCardSaid : Prop := Claim7.holds Tryz.pinned (.plain (OpenSpec.ofChange chainMoveSpec)) chainMoveCard

/-- THE SECOND FORM's CARD OF 'cairnlaw.PoolSweep'. -/
def poolSweepUptoCard : Claim7 := { stood := { row := poolSweepUptoRow, standIns := [], harness := (true, "c616afc2dd1ffaaca47de8c56444eafd1d8584d6a6fa07b9d28c3a096cb14444"), looks := false }, kinds := [], alts := [], laidByText := true, laidKinds := [.data, .data, .data, .listed, .data], laidTests := true, laidLooks := .later }
def PoolSweepUptoCardSaid : Prop := Claim7.holds Tryz.pinned (.plain (OpenSpec.upto poolSweepSpec)) poolSweepUptoCard

/-- THE SECOND FORM's CARD OF 'cairnlaw.PoolMake'. -/
def poolMakeUptoCard : Claim7 := { stood := { row := poolMakeUptoRow, standIns := [], harness := (true, "c616afc2dd1ffaaca47de8c56444eafd1d8584d6a6fa07b9d28c3a096cb14444"), looks := false }, kinds := [], alts := [], laidByText := true, laidKinds := [.data, .data, .data, .listed, .data], laidTests := true, laidLooks := .later }
def PoolMakeUptoCardSaid : Prop := Claim7.holds Tryz.pinned (.plain (OpenSpec.upto poolMakeSpec)) poolMakeUptoCard

/-- THE SECOND FORM's CARD OF 'cairnlaw.BlockConnect'. -/
def blockConnectUptoCard : Claim7 := { stood := { row := blockConnectUptoRow, standIns := [], harness := (true, "c616afc2dd1ffaaca47de8c56444eafd1d8584d6a6fa07b9d28c3a096cb14444"), looks := false }, kinds := [], alts := [], laidByText := true, laidKinds := [.data, .data, .data, .listed, .data], laidTests := true, laidLooks := .later }
def BlockConnectUptoCardSaid : Prop := Claim7.holds Tryz.pinned (.plain (OpenSpec.upto blockConnectSpec)) blockConnectUptoCard

/-- THE SECOND FORM's CARD OF 'cairnlaw.ChainCoins'. -/
def chainCoinsUptoCard : Claim7 := { stood := { row := chainCoinsUptoRow, standIns := [], harness := (true, "c616afc2dd1ffaaca47de8c56444eafd1d8584d6a6fa07b9d28c3a096cb14444"), looks := false }, kinds := [], alts := [], laidByText := true, laidKinds := [.data, .data, .data, .listed, .data], laidTests := true, laidLooks := .later }
def ChainCoinsUptoCardSaid : Prop := Claim7.holds Tryz.pinned (.plain (OpenSpec.upto chainCoinsSpec)) chainCoinsUptoCard

/-- THE SECOND FORM's CARD OF 'cairnlaw.ChainMove'. -/
def chainMoveUptoCard : Claim7 := { stood := { row := chainMoveUptoRow, standIns := [], harness := (true, "c616afc2dd1ffaaca47de8c56444eafd1d8584d6a6fa07b9d28c3a096cb14444"), looks := false }, kinds := [], alts := [], laidByText := true, laidKinds := [.data, .data, .data, .listed, .data], laidTests := true, laidLooks := .later }
def ChainMoveUptoCardSaid : Prop := Claim7.holds Tryz.pinned (.plain (OpenSpec.upto chainMoveSpec)) chainMoveUptoCard
end Rows
end Go.Proofs.YtaddehddalnliaaGreatDoor
