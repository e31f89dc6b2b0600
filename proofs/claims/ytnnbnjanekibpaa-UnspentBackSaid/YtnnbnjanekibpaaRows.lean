/-
  No cell of these rows narrows 'for every input' (looked for: loops, veiled, ifaces, maps, wideKeys, modest, calm, conditions, laid).
  DERIVED. THE GIVEN ROWS OF THIS SEAT. 15 by the template 'for every input the law returns true; each argument reads behind the call as it read before'; 0 by the template 'total and deterministic' (their statements: YtnnbnjanekibpaaTotals.lean).
  GIVEN WITH THE SEED: the statements are not yours to turn. If you find one false, say at which input.
  Laid BY PROGRAM, IN A SANDBOX (cutbox-rows.mjs): the forced cells as the released guide's own fill.sh prints them over the translation 5e67bdadb3abbbbe… (all of the seat's roots in one cut). By AI agents, Wed Nov 11 2026. No macro, syntax, notation, axiom, sorry.
-/
import Derived.Test.YtnnbnjanekibpaaChecked
import GoSem.Claim
import GoSem.ClaimJoined
import GoSem.ClaimMapViews
import Derived.JoinedTies
import Derived.KernelRfl
namespace Go.Proofs.Ytnnbnjanekibpaa
/- THE CELL 'sum', in the pinned program and in every row, IS THE sha256 OF THE DUMP (.gsa) THAT YtnnbnjanekibpaaProg.lean LOADS. Nothing in Lean hashes anything: it is a label: what it is worth is what the hold of that sum in a sandbox is worth. -/
noncomputable def Try.pinned : Pinned := { name := "ytnnbnjanekibpaa", sum := "5e67bdadb3abbbbec58521d1d36b5b83dc617d607d7817f8a99e14c6932d2d04", checked := Try.checked }
namespace Rows
def none {H : Type} : Left H := { results := [], args := [] }

/-- 'cairnlaw.Names': WHATEVER THE INPUT: true; the input reads as it did. -/
def namesSpec : ChangeSpec := { name := "names", fn := fun _ => fun
  | [] => { results := [.lit (.bool true)], args := [] }
  | _ => none }
def namesRow : OpenClaim := { program := "ytnnbnjanekibpaa", sum := "5e67bdadb3abbbbec58521d1d36b5b83dc617d607d7817f8a99e14c6932d2d04", func := "cairn/cairnlaw.Names", spec := "names", apart := false }
def NamesSaid : Prop := namesRow.holds Try.pinned (OpenSpec.ofChange namesSpec)

/-- ITS FALSE NEIGHBOUR: 'it returns false'. Refute it at one input. -/
def namesWrong : ChangeSpec := { name := "names", fn := fun _ => fun
  | [] => { results := [.lit (.bool false)], args := [] }
  | _ => none }
def NamesWrongFalsely : Prop := namesRow.holds Try.pinned (OpenSpec.ofChange namesWrong)

/-- 'cairnlaw.CoinRewards': WHATEVER THE INPUT: true; the input reads as it did. -/
def coinRewardsSpec : ChangeSpec := { name := "coinRewards", fn := fun _ => fun
  | [d] => { results := [.lit (.bool true)], args := [d] }
  | _ => none }
def coinRewardsRow : OpenClaim := { program := "ytnnbnjanekibpaa", sum := "5e67bdadb3abbbbec58521d1d36b5b83dc617d607d7817f8a99e14c6932d2d04", func := "cairn/cairnlaw.CoinRewards", spec := "coinRewards", apart := false }
def CoinRewardsSaid : Prop := coinRewardsRow.holds Try.pinned (OpenSpec.ofChange coinRewardsSpec)

/-- ITS FALSE NEIGHBOUR: 'it returns false'. Refute it at one input. -/
def coinRewardsWrong : ChangeSpec := { name := "coinRewards", fn := fun _ => fun
  | [d] => { results := [.lit (.bool false)], args := [d] }
  | _ => none }
def CoinRewardsWrongFalsely : Prop := coinRewardsRow.holds Try.pinned (OpenSpec.ofChange coinRewardsWrong)

/-- 'cairnlaw.CoinSupply': WHATEVER THE INPUT: true; the input reads as it did. -/
def coinSupplySpec : ChangeSpec := { name := "coinSupply", fn := fun _ => fun
  | [d] => { results := [.lit (.bool true)], args := [d] }
  | _ => none }
def coinSupplyRow : OpenClaim := { program := "ytnnbnjanekibpaa", sum := "5e67bdadb3abbbbec58521d1d36b5b83dc617d607d7817f8a99e14c6932d2d04", func := "cairn/cairnlaw.CoinSupply", spec := "coinSupply", apart := false }
def CoinSupplySaid : Prop := coinSupplyRow.holds Try.pinned (OpenSpec.ofChange coinSupplySpec)

/-- ITS FALSE NEIGHBOUR: 'it returns false'. Refute it at one input. -/
def coinSupplyWrong : ChangeSpec := { name := "coinSupply", fn := fun _ => fun
  | [d] => { results := [.lit (.bool false)], args := [d] }
  | _ => none }
def CoinSupplyWrongFalsely : Prop := coinSupplyRow.holds Try.pinned (OpenSpec.ofChange coinSupplyWrong)

/-- 'cairnlaw.CoinSums': WHATEVER THE INPUT: true; the input reads as it did. -/
def coinSumsSpec : ChangeSpec := { name := "coinSums", fn := fun _ => fun
  | [d1, d2, d3] => { results := [.lit (.bool true)], args := [d1, d2, d3] }
  | _ => none }
def coinSumsRow : OpenClaim := { program := "ytnnbnjanekibpaa", sum := "5e67bdadb3abbbbec58521d1d36b5b83dc617d607d7817f8a99e14c6932d2d04", func := "cairn/cairnlaw.CoinSums", spec := "coinSums", apart := false }
def CoinSumsSaid : Prop := coinSumsRow.holds Try.pinned (OpenSpec.ofChange coinSumsSpec)

/-- ITS FALSE NEIGHBOUR: 'it returns false'. Refute it at one input. -/
def coinSumsWrong : ChangeSpec := { name := "coinSums", fn := fun _ => fun
  | [d1, d2, d3] => { results := [.lit (.bool false)], args := [d1, d2, d3] }
  | _ => none }
def CoinSumsWrongFalsely : Prop := coinSumsRow.holds Try.pinned (OpenSpec.ofChange coinSumsWrong)

/-- 'cairnlaw.BookSame': WHATEVER THE INPUT: true; the input reads as it did. -/
def bookSameSpec : ChangeSpec := { name := "bookSame", fn := fun _ => fun
  | [d1, d2, d3, d4] => { results := [.lit (.bool true)], args := [d1, d2, d3, d4] }
  | _ => none }
def bookSameRow : OpenClaim := { program := "ytnnbnjanekibpaa", sum := "5e67bdadb3abbbbec58521d1d36b5b83dc617d607d7817f8a99e14c6932d2d04", func := "cairn/cairnlaw.BookSame", spec := "bookSame", apart := false }
def BookSameSaid : Prop := bookSameRow.holds Try.pinned (OpenSpec.ofChange bookSameSpec)

/-- ITS FALSE NEIGHBOUR: 'it returns false'. Refute it at one input. -/
def bookSameWrong : ChangeSpec := { name := "bookSame", fn := fun _ => fun
  | [d1, d2, d3, d4] => { results := [.lit (.bool false)], args := [d1, d2, d3, d4] }
  | _ => none }
def BookSameWrongFalsely : Prop := bookSameRow.holds Try.pinned (OpenSpec.ofChange bookSameWrong)

/-- 'cairnlaw.BookNames': WHATEVER THE INPUT: true; the input reads as it did. -/
def bookNamesSpec : ChangeSpec := { name := "bookNames", fn := fun _ => fun
  | [d1, d2, d3, d4] => { results := [.lit (.bool true)], args := [d1, d2, d3, d4] }
  | _ => none }
def bookNamesRow : OpenClaim := { program := "ytnnbnjanekibpaa", sum := "5e67bdadb3abbbbec58521d1d36b5b83dc617d607d7817f8a99e14c6932d2d04", func := "cairn/cairnlaw.BookNames", spec := "bookNames", apart := false }
def BookNamesSaid : Prop := bookNamesRow.holds Try.pinned (OpenSpec.ofChange bookNamesSpec)

/-- ITS FALSE NEIGHBOUR: 'it returns false'. Refute it at one input. -/
def bookNamesWrong : ChangeSpec := { name := "bookNames", fn := fun _ => fun
  | [d1, d2, d3, d4] => { results := [.lit (.bool false)], args := [d1, d2, d3, d4] }
  | _ => none }
def BookNamesWrongFalsely : Prop := bookNamesRow.holds Try.pinned (OpenSpec.ofChange bookNamesWrong)

/-- 'cairnlaw.TreeForks': WHATEVER THE INPUT: true; the input reads as it did. -/
def treeForksSpec : ChangeSpec := { name := "treeForks", fn := fun _ => fun
  | [d1, d2, d3] => { results := [.lit (.bool true)], args := [d1, d2, d3] }
  | _ => none }
def treeForksRow : OpenClaim := { program := "ytnnbnjanekibpaa", sum := "5e67bdadb3abbbbec58521d1d36b5b83dc617d607d7817f8a99e14c6932d2d04", func := "cairn/cairnlaw.TreeForks", spec := "treeForks", unfollowed := true, recurses := true, apart := false }
def TreeForksSaid : Prop := treeForksRow.holds Try.pinned (OpenSpec.ofChange treeForksSpec)

/-- ITS FALSE NEIGHBOUR: 'it returns false'. Refute it at one input. -/
def treeForksWrong : ChangeSpec := { name := "treeForks", fn := fun _ => fun
  | [d1, d2, d3] => { results := [.lit (.bool false)], args := [d1, d2, d3] }
  | _ => none }
def TreeForksWrongFalsely : Prop := treeForksRow.holds Try.pinned (OpenSpec.ofChange treeForksWrong)

/-- 'cairnlaw.TreeOrder': WHATEVER THE INPUT: true; the input reads as it did. -/
def treeOrderSpec : ChangeSpec := { name := "treeOrder", fn := fun _ => fun
  | [d1, d2] => { results := [.lit (.bool true)], args := [d1, d2] }
  | _ => none }
def treeOrderRow : OpenClaim := { program := "ytnnbnjanekibpaa", sum := "5e67bdadb3abbbbec58521d1d36b5b83dc617d607d7817f8a99e14c6932d2d04", func := "cairn/cairnlaw.TreeOrder", spec := "treeOrder", unfollowed := true, recurses := true, apart := false }
def TreeOrderSaid : Prop := treeOrderRow.holds Try.pinned (OpenSpec.ofChange treeOrderSpec)

/-- ITS FALSE NEIGHBOUR: 'it returns false'. Refute it at one input. -/
def treeOrderWrong : ChangeSpec := { name := "treeOrder", fn := fun _ => fun
  | [d1, d2] => { results := [.lit (.bool false)], args := [d1, d2] }
  | _ => none }
def TreeOrderWrongFalsely : Prop := treeOrderRow.holds Try.pinned (OpenSpec.ofChange treeOrderWrong)

/-- 'cairnlaw.TreeGrows': WHATEVER THE INPUT: true; the input reads as it did. -/
def treeGrowsSpec : ChangeSpec := { name := "treeGrows", fn := fun _ => fun
  | [d1, d2, d3] => { results := [.lit (.bool true)], args := [d1, d2, d3] }
  | _ => none }
def treeGrowsRow : OpenClaim := { program := "ytnnbnjanekibpaa", sum := "5e67bdadb3abbbbec58521d1d36b5b83dc617d607d7817f8a99e14c6932d2d04", func := "cairn/cairnlaw.TreeGrows", spec := "treeGrows", unfollowed := true, recurses := true, apart := false }
def TreeGrowsSaid : Prop := treeGrowsRow.holds Try.pinned (OpenSpec.ofChange treeGrowsSpec)

/-- ITS FALSE NEIGHBOUR: 'it returns false'. Refute it at one input. -/
def treeGrowsWrong : ChangeSpec := { name := "treeGrows", fn := fun _ => fun
  | [d1, d2, d3] => { results := [.lit (.bool false)], args := [d1, d2, d3] }
  | _ => none }
def TreeGrowsWrongFalsely : Prop := treeGrowsRow.holds Try.pinned (OpenSpec.ofChange treeGrowsWrong)

/-- 'cairnlaw.TreeAdd': WHATEVER THE INPUT: true; the input reads as it did. -/
def treeAddSpec : ChangeSpec := { name := "treeAdd", fn := fun _ => fun
  | [d1, d2, d3, d4] => { results := [.lit (.bool true)], args := [d1, d2, d3, d4] }
  | _ => none }
def treeAddRow : OpenClaim := { program := "ytnnbnjanekibpaa", sum := "5e67bdadb3abbbbec58521d1d36b5b83dc617d607d7817f8a99e14c6932d2d04", func := "cairn/cairnlaw.TreeAdd", spec := "treeAdd", unfollowed := true, recurses := true, apart := false }
def TreeAddSaid : Prop := treeAddRow.holds Try.pinned (OpenSpec.ofChange treeAddSpec)

/-- ITS FALSE NEIGHBOUR: 'it returns false'. Refute it at one input. -/
def treeAddWrong : ChangeSpec := { name := "treeAdd", fn := fun _ => fun
  | [d1, d2, d3, d4] => { results := [.lit (.bool false)], args := [d1, d2, d3, d4] }
  | _ => none }
def TreeAddWrongFalsely : Prop := treeAddRow.holds Try.pinned (OpenSpec.ofChange treeAddWrong)

/-- 'cairnlaw.UnspentTwice': WHATEVER THE INPUT: true; the input reads as it did. -/
def unspentTwiceSpec : ChangeSpec := { name := "unspentTwice", fn := fun _ => fun
  | [d1, d2, d3, d4, d5, d6, d7] => { results := [.lit (.bool true)], args := [d1, d2, d3, d4, d5, d6, d7] }
  | _ => none }
def unspentTwiceRow : OpenClaim := { program := "ytnnbnjanekibpaa", sum := "5e67bdadb3abbbbec58521d1d36b5b83dc617d607d7817f8a99e14c6932d2d04", func := "cairn/cairnlaw.UnspentTwice", spec := "unspentTwice", inPlace := ["slices.overlaps[cairn/api.Coin]"], unfollowed := true, recurses := true, apart := false }
def UnspentTwiceSaid : Prop := unspentTwiceRow.holds Try.pinned (OpenSpec.ofChange unspentTwiceSpec)

/-- ITS FALSE NEIGHBOUR: 'it returns false'. Refute it at one input. -/
def unspentTwiceWrong : ChangeSpec := { name := "unspentTwice", fn := fun _ => fun
  | [d1, d2, d3, d4, d5, d6, d7] => { results := [.lit (.bool false)], args := [d1, d2, d3, d4, d5, d6, d7] }
  | _ => none }
def UnspentTwiceWrongFalsely : Prop := unspentTwiceRow.holds Try.pinned (OpenSpec.ofChange unspentTwiceWrong)

/-- 'cairnlaw.UnspentOrder': WHATEVER THE INPUT: true; the input reads as it did. -/
def unspentOrderSpec : ChangeSpec := { name := "unspentOrder", fn := fun _ => fun
  | [d1, d2, d3, d4, d5, d6] => { results := [.lit (.bool true)], args := [d1, d2, d3, d4, d5, d6] }
  | _ => none }
def unspentOrderRow : OpenClaim := { program := "ytnnbnjanekibpaa", sum := "5e67bdadb3abbbbec58521d1d36b5b83dc617d607d7817f8a99e14c6932d2d04", func := "cairn/cairnlaw.UnspentOrder", spec := "unspentOrder", inPlace := ["slices.overlaps[cairn/api.Coin]"], unfollowed := true, recurses := true, apart := false }
def UnspentOrderSaid : Prop := unspentOrderRow.holds Try.pinned (OpenSpec.ofChange unspentOrderSpec)

/-- ITS FALSE NEIGHBOUR: 'it returns false'. Refute it at one input. -/
def unspentOrderWrong : ChangeSpec := { name := "unspentOrder", fn := fun _ => fun
  | [d1, d2, d3, d4, d5, d6] => { results := [.lit (.bool false)], args := [d1, d2, d3, d4, d5, d6] }
  | _ => none }
def UnspentOrderWrongFalsely : Prop := unspentOrderRow.holds Try.pinned (OpenSpec.ofChange unspentOrderWrong)

/-- 'cairnlaw.UnspentFinds': WHATEVER THE INPUT: true; the input reads as it did. -/
def unspentFindsSpec : ChangeSpec := { name := "unspentFinds", fn := fun _ => fun
  | [d1, d2, d3, d4] => { results := [.lit (.bool true)], args := [d1, d2, d3, d4] }
  | _ => none }
def unspentFindsRow : OpenClaim := { program := "ytnnbnjanekibpaa", sum := "5e67bdadb3abbbbec58521d1d36b5b83dc617d607d7817f8a99e14c6932d2d04", func := "cairn/cairnlaw.UnspentFinds", spec := "unspentFinds", inPlace := ["slices.overlaps[cairn/api.Coin]"], unfollowed := true, recurses := true, apart := false }
def UnspentFindsSaid : Prop := unspentFindsRow.holds Try.pinned (OpenSpec.ofChange unspentFindsSpec)

/-- ITS FALSE NEIGHBOUR: 'it returns false'. Refute it at one input. -/
def unspentFindsWrong : ChangeSpec := { name := "unspentFinds", fn := fun _ => fun
  | [d1, d2, d3, d4] => { results := [.lit (.bool false)], args := [d1, d2, d3, d4] }
  | _ => none }
def UnspentFindsWrongFalsely : Prop := unspentFindsRow.holds Try.pinned (OpenSpec.ofChange unspentFindsWrong)

/-- 'cairnlaw.UnspentBack': WHATEVER THE INPUT: true; the input reads as it did. -/
def unspentBackSpec : ChangeSpec := { name := "unspentBack", fn := fun _ => fun
  | [d1, d2, d3, d4] => { results := [.lit (.bool true)], args := [d1, d2, d3, d4] }
  | _ => none }
def unspentBackRow : OpenClaim := { program := "ytnnbnjanekibpaa", sum := "5e67bdadb3abbbbec58521d1d36b5b83dc617d607d7817f8a99e14c6932d2d04", func := "cairn/cairnlaw.UnspentBack", spec := "unspentBack", inPlace := ["slices.overlaps[cairn/api.Coin]"], unfollowed := true, recurses := true, apart := false }
def UnspentBackSaid : Prop := unspentBackRow.holds Try.pinned (OpenSpec.ofChange unspentBackSpec)

/-- ITS FALSE NEIGHBOUR: 'it returns false'. Refute it at one input. -/
def unspentBackWrong : ChangeSpec := { name := "unspentBack", fn := fun _ => fun
  | [d1, d2, d3, d4] => { results := [.lit (.bool false)], args := [d1, d2, d3, d4] }
  | _ => none }
def UnspentBackWrongFalsely : Prop := unspentBackRow.holds Try.pinned (OpenSpec.ofChange unspentBackWrong)

/-- 'cairnlaw.TreePaths': WHATEVER THE INPUT: true; the input reads as it did. -/
def treePathsSpec : ChangeSpec := { name := "treePaths", fn := fun _ => fun
  | [d1, d2, d3] => { results := [.lit (.bool true)], args := [d1, d2, d3] }
  | _ => none }
def treePathsRow : OpenClaim := { program := "ytnnbnjanekibpaa", sum := "5e67bdadb3abbbbec58521d1d36b5b83dc617d607d7817f8a99e14c6932d2d04", func := "cairn/cairnlaw.TreePaths", spec := "treePaths", unfollowed := true, recurses := true, apart := false }
def TreePathsSaid : Prop := treePathsRow.holds Try.pinned (OpenSpec.ofChange treePathsSpec)

/-- ITS FALSE NEIGHBOUR: 'it returns false'. Refute it at one input. -/
def treePathsWrong : ChangeSpec := { name := "treePaths", fn := fun _ => fun
  | [d1, d2, d3] => { results := [.lit (.bool false)], args := [d1, d2, d3] }
  | _ => none }
def TreePathsWrongFalsely : Prop := treePathsRow.holds Try.pinned (OpenSpec.ofChange treePathsWrong)

/- THE SECOND FORM. 'bulk': how many values and letters a reading holds, each counted each time it is reached (what is shared counts as often as it is met; a slice's spare places count too). A statement '..UptoSaid' is the law's where the arguments, and the package variables that the reading takes, are together of bulk at most 1048576: NARROWER than '..Said'. Prove '..Said' where nothing that the law and all that it calls make is longer than what came in: it says more and counts as full. Else prove '..UptoSaid'. A law counts once. -/
mutual
def uptoBulk {H : Type} : DataW H → Nat
  | .lit (.string bytes) => bytes.length + 1
  | .lit _ => 1
  | .nil => 1
  | .ptr d => uptoBulk d + 1
  | .slice elems spare => uptoBulkAll elems + uptoBulkAll spare + 1
  | .agg parts => uptoBulkAll parts + 1
  | .iface _ d => uptoBulk d + 1
  | .map entries => uptoBulkEntries entries + 1
  | .held _ => 1
def uptoBulkAll {H : Type} : List (DataW H) → Nat
  | [] => 0
  | d :: r => uptoBulk d + uptoBulkAll r
def uptoBulkEntries {H : Type} : List (Lit × DataW H) → Nat
  | [] => 0
  | x :: r => uptoBulkEntry x + uptoBulkEntries r
def uptoBulkEntry {H : Type} : Lit × DataW H → Nat
  | (.string bytes, d) => bytes.length + uptoBulk d + 1
  | (_, d) => uptoBulk d + 1
 end
def uptoSmall : (H : Type) → List (DataW H) → Bool := fun _ ds => decide (uptoBulkAll ds ≤ 1048576)
def OpenSpec.upto (s : _root_.Go.ChangeSpec) : _root_.Go.OpenSpec := { _root_.Go.OpenSpec.ofChange s with cond := some uptoSmall }

/-- 'cairnlaw.Names', WHERE WHAT IT READS IS OF BULK AT MOST 1048576: true; the input reads as it did. -/
def namesUptoRow : OpenClaim := { program := "ytnnbnjanekibpaa", sum := "5e67bdadb3abbbbec58521d1d36b5b83dc617d607d7817f8a99e14c6932d2d04", func := "cairn/cairnlaw.Names", spec := "names", apart := false, narrowed := true }
def NamesUptoSaid : Prop := namesUptoRow.holds Try.pinned (OpenSpec.upto namesSpec)

/-- 'cairnlaw.CoinRewards', WHERE WHAT IT READS IS OF BULK AT MOST 1048576: true; the input reads as it did. -/
def coinRewardsUptoRow : OpenClaim := { program := "ytnnbnjanekibpaa", sum := "5e67bdadb3abbbbec58521d1d36b5b83dc617d607d7817f8a99e14c6932d2d04", func := "cairn/cairnlaw.CoinRewards", spec := "coinRewards", apart := false, narrowed := true }
def CoinRewardsUptoSaid : Prop := coinRewardsUptoRow.holds Try.pinned (OpenSpec.upto coinRewardsSpec)

/-- 'cairnlaw.CoinSupply', WHERE WHAT IT READS IS OF BULK AT MOST 1048576: true; the input reads as it did. -/
def coinSupplyUptoRow : OpenClaim := { program := "ytnnbnjanekibpaa", sum := "5e67bdadb3abbbbec58521d1d36b5b83dc617d607d7817f8a99e14c6932d2d04", func := "cairn/cairnlaw.CoinSupply", spec := "coinSupply", apart := false, narrowed := true }
def CoinSupplyUptoSaid : Prop := coinSupplyUptoRow.holds Try.pinned (OpenSpec.upto coinSupplySpec)

/-- 'cairnlaw.CoinSums', WHERE WHAT IT READS IS OF BULK AT MOST 1048576: true; the input reads as it did. -/
def coinSumsUptoRow : OpenClaim := { program := "ytnnbnjanekibpaa", sum := "5e67bdadb3abbbbec58521d1d36b5b83dc617d607d7817f8a99e14c6932d2d04", func := "cairn/cairnlaw.CoinSums", spec := "coinSums", apart := false, narrowed := true }
def CoinSumsUptoSaid : Prop := coinSumsUptoRow.holds Try.pinned (OpenSpec.upto coinSumsSpec)

/-- 'cairnlaw.BookSame', WHERE WHAT IT READS IS OF BULK AT MOST 1048576: true; the input reads as it did. -/
def bookSameUptoRow : OpenClaim := { program := "ytnnbnjanekibpaa", sum := "5e67bdadb3abbbbec58521d1d36b5b83dc617d607d7817f8a99e14c6932d2d04", func := "cairn/cairnlaw.BookSame", spec := "bookSame", apart := false, narrowed := true }
def BookSameUptoSaid : Prop := bookSameUptoRow.holds Try.pinned (OpenSpec.upto bookSameSpec)

/-- 'cairnlaw.BookNames', WHERE WHAT IT READS IS OF BULK AT MOST 1048576: true; the input reads as it did. -/
def bookNamesUptoRow : OpenClaim := { program := "ytnnbnjanekibpaa", sum := "5e67bdadb3abbbbec58521d1d36b5b83dc617d607d7817f8a99e14c6932d2d04", func := "cairn/cairnlaw.BookNames", spec := "bookNames", apart := false, narrowed := true }
def BookNamesUptoSaid : Prop := bookNamesUptoRow.holds Try.pinned (OpenSpec.upto bookNamesSpec)

/-- 'cairnlaw.TreeForks', WHERE WHAT IT READS IS OF BULK AT MOST 1048576: true; the input reads as it did. -/
def treeForksUptoRow : OpenClaim := { program := "ytnnbnjanekibpaa", sum := "5e67bdadb3abbbbec58521d1d36b5b83dc617d607d7817f8a99e14c6932d2d04", func := "cairn/cairnlaw.TreeForks", spec := "treeForks", unfollowed := true, recurses := true, apart := false, narrowed := true }
def TreeForksUptoSaid : Prop := treeForksUptoRow.holds Try.pinned (OpenSpec.upto treeForksSpec)

/-- 'cairnlaw.TreeOrder', WHERE WHAT IT READS IS OF BULK AT MOST 1048576: true; the input reads as it did. -/
def treeOrderUptoRow : OpenClaim := { program := "ytnnbnjanekibpaa", sum := "5e67bdadb3abbbbec58521d1d36b5b83dc617d607d7817f8a99e14c6932d2d04", func := "cairn/cairnlaw.TreeOrder", spec := "treeOrder", unfollowed := true, recurses := true, apart := false, narrowed := true }
def TreeOrderUptoSaid : Prop := treeOrderUptoRow.holds Try.pinned (OpenSpec.upto treeOrderSpec)

/-- 'cairnlaw.TreeGrows', WHERE WHAT IT READS IS OF BULK AT MOST 1048576: true; the input reads as it did. -/
def treeGrowsUptoRow : OpenClaim := { program := "ytnnbnjanekibpaa", sum := "5e67bdadb3abbbbec58521d1d36b5b83dc617d607d7817f8a99e14c6932d2d04", func := "cairn/cairnlaw.TreeGrows", spec := "treeGrows", unfollowed := true, recurses := true, apart := false, narrowed := true }
def TreeGrowsUptoSaid : Prop := treeGrowsUptoRow.holds Try.pinned (OpenSpec.upto treeGrowsSpec)

/-- 'cairnlaw.TreeAdd', WHERE WHAT IT READS IS OF BULK AT MOST 1048576: true; the input reads as it did. -/
def treeAddUptoRow : OpenClaim := { program := "ytnnbnjanekibpaa", sum := "5e67bdadb3abbbbec58521d1d36b5b83dc617d607d7817f8a99e14c6932d2d04", func := "cairn/cairnlaw.TreeAdd", spec := "treeAdd", unfollowed := true, recurses := true, apart := false, narrowed := true }
def TreeAddUptoSaid : Prop := treeAddUptoRow.holds Try.pinned (OpenSpec.upto treeAddSpec)

/-- 'cairnlaw.UnspentTwice', WHERE WHAT IT READS IS OF BULK AT MOST 1048576: true; the input reads as it did. -/
def unspentTwiceUptoRow : OpenClaim := { program := "ytnnbnjanekibpaa", sum := "5e67bdadb3abbbbec58521d1d36b5b83dc617d607d7817f8a99e14c6932d2d04", func := "cairn/cairnlaw.UnspentTwice", spec := "unspentTwice", inPlace := ["slices.overlaps[cairn/api.Coin]"], unfollowed := true, recurses := true, apart := false, narrowed := true }
def UnspentTwiceUptoSaid : Prop := unspentTwiceUptoRow.holds Try.pinned (OpenSpec.upto unspentTwiceSpec)

/-- 'cairnlaw.UnspentOrder', WHERE WHAT IT READS IS OF BULK AT MOST 1048576: true; the input reads as it did. -/
def unspentOrderUptoRow : OpenClaim := { program := "ytnnbnjanekibpaa", sum := "5e67bdadb3abbbbec58521d1d36b5b83dc617d607d7817f8a99e14c6932d2d04", func := "cairn/cairnlaw.UnspentOrder", spec := "unspentOrder", inPlace := ["slices.overlaps[cairn/api.Coin]"], unfollowed := true, recurses := true, apart := false, narrowed := true }
def UnspentOrderUptoSaid : Prop := unspentOrderUptoRow.holds Try.pinned (OpenSpec.upto unspentOrderSpec)

/-- 'cairnlaw.UnspentFinds', WHERE WHAT IT READS IS OF BULK AT MOST 1048576: true; the input reads as it did. -/
def unspentFindsUptoRow : OpenClaim := { program := "ytnnbnjanekibpaa", sum := "5e67bdadb3abbbbec58521d1d36b5b83dc617d607d7817f8a99e14c6932d2d04", func := "cairn/cairnlaw.UnspentFinds", spec := "unspentFinds", inPlace := ["slices.overlaps[cairn/api.Coin]"], unfollowed := true, recurses := true, apart := false, narrowed := true }
def UnspentFindsUptoSaid : Prop := unspentFindsUptoRow.holds Try.pinned (OpenSpec.upto unspentFindsSpec)

/-- 'cairnlaw.UnspentBack', WHERE WHAT IT READS IS OF BULK AT MOST 1048576: true; the input reads as it did. -/
def unspentBackUptoRow : OpenClaim := { program := "ytnnbnjanekibpaa", sum := "5e67bdadb3abbbbec58521d1d36b5b83dc617d607d7817f8a99e14c6932d2d04", func := "cairn/cairnlaw.UnspentBack", spec := "unspentBack", inPlace := ["slices.overlaps[cairn/api.Coin]"], unfollowed := true, recurses := true, apart := false, narrowed := true }
def UnspentBackUptoSaid : Prop := unspentBackUptoRow.holds Try.pinned (OpenSpec.upto unspentBackSpec)

/-- 'cairnlaw.TreePaths', WHERE WHAT IT READS IS OF BULK AT MOST 1048576: true; the input reads as it did. -/
def treePathsUptoRow : OpenClaim := { program := "ytnnbnjanekibpaa", sum := "5e67bdadb3abbbbec58521d1d36b5b83dc617d607d7817f8a99e14c6932d2d04", func := "cairn/cairnlaw.TreePaths", spec := "treePaths", unfollowed := true, recurses := true, apart := false, narrowed := true }
def TreePathsUptoSaid : Prop := treePathsUptoRow.holds Try.pinned (OpenSpec.upto treePathsSpec)

end Rows
end Go.Proofs.Ytnnbnjanekibpaa
