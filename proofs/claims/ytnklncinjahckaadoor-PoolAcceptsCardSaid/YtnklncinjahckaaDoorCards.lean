/-
  DERIVED. GIVEN WITH THE SEED: THE CARDS: each row of YtnklncinjahckaaDoorRows.lean that lists a variable, with what it lists TIED to the program's text (the seventh form; the later family's looks); each row that meets fmt, with fmt's text TOLD by the authors' own Lean function (tested against real Go, not proved from fmt's source: count such statements apart). THE CARD IS WHAT COUNTS. Prove the row's statement (the work); the ties are given (YtnklncinjahckaaDoorTie.lean); close each card by the builder's one call (the guide's Derived/Test/ToyasCard.lean, 'card_holds'). Laid BY PROGRAM, IN A SANDBOX (cutbox-door.mjs). By AI agents, Wed Nov 11 2026. No macro, syntax, notation, axiom, sorry.
-/
import Derived.Test.YtnklncinjahckaaDoorRows
import GoSem.ClaimSeven
namespace Go.Proofs.YtnklncinjahckaaDoor
namespace Rows

/-- THE TIED CARD OF 'cairnlaw.BlockNamed'. -/
def blockNamedCard : Claim7 := { stood := { row := blockNamedRow, standIns := [], harness := (true, "b8eebc47299386304620bf0cdf005b2839e3f065f390d344bb9421a56e8b4e9f"), looks := false }, kinds := [], alts := [], laidByText := true, laidKinds := [.data, .data, .data], laidTests := true, laidLooks := .later }
def BlockNamedCardSaid : Prop := Claim7.holds Tryd.pinned (.plain (OpenSpec.ofChange blockNamedSpec)) blockNamedCard

/-- THE TIED CARD OF 'cairnlaw.PoolAccepts'. -/
def poolAcceptsCard : Claim7 := { stood := { row := poolAcceptsRow, standIns := [], harness := (true, "b8eebc47299386304620bf0cdf005b2839e3f065f390d344bb9421a56e8b4e9f"), looks := false }, kinds := [], alts := [], laidByText := true, laidKinds := [.data, .data, .data], laidTests := true, laidLooks := .later }
def PoolAcceptsCardSaid : Prop := Claim7.holds Tryd.pinned (.plain (OpenSpec.ofChange poolAcceptsSpec)) poolAcceptsCard

/-- THE SECOND FORM's CARD OF 'cairnlaw.BlockNamed'. -/
def blockNamedUptoCard : Claim7 := { stood := { row := blockNamedUptoRow, standIns := [], harness := (true, "b8eebc47299386304620bf0cdf005b2839e3f065f390d344bb9421a56e8b4e9f"), looks := false }, kinds := [], alts := [], laidByText := true, laidKinds := [.data, .data, .data], laidTests := true, laidLooks := .later }
def BlockNamedUptoCardSaid : Prop := Claim7.holds Tryd.pinned (.plain (OpenSpec.upto blockNamedSpec)) blockNamedUptoCard

/-- THE SECOND FORM's CARD OF 'cairnlaw.PoolAccepts'. -/
def poolAcceptsUptoCard : Claim7 := { stood := { row := poolAcceptsUptoRow, standIns := [], harness := (true, "b8eebc47299386304620bf0cdf005b2839e3f065f390d344bb9421a56e8b4e9f"), looks := false }, kinds := [], alts := [], laidByText := true, laidKinds := [.data, .data, .data], laidTests := true, laidLooks := .later }
def PoolAcceptsUptoCardSaid : Prop := Claim7.holds Tryd.pinned (.plain (OpenSpec.upto poolAcceptsSpec)) poolAcceptsUptoCard
end Rows
end Go.Proofs.YtnklncinjahckaaDoor
