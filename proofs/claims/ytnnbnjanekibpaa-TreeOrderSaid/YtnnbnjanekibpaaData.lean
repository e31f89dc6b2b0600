/- The program's data as plain Lean types, and their shapes in memory. Own text, of no program. -/
import Derived.Test.YtnnbnjanekibpaaBase
namespace Go.Proofs.Ytnnbnjanekibpaa
open Go.RowKit
set_option linter.unusedVariables false

/-- Structs as shapes: their fields' cells one behind the other. -/
def shS2 {α β τ : Type} (S0 : Sh α) (S1 : Sh β) (f : α → β → τ) : Sh τ := {
  size := S0.size + S1.size
  rep w F x cs := ∃ a b ca cb, x = f a b ∧ cs = ca ++ cb ∧ S0.rep w F a ca ∧ S1.rep w F b cb
  len := by rintro w F x cs ⟨a, b, ca, cb, rfl, rfl, ha, hb⟩; simp [S0.len ha, S1.len hb]
  keep := by rintro w w' F x cs hk ⟨a, b, ca, cb, e, e', ha, hb⟩; exact ⟨a, b, ca, cb, e, e', S0.keep hk ha, S1.keep hk hb⟩
  more := by rintro w F F' x cs hk ⟨a, b, ca, cb, e, e', ha, hb⟩; exact ⟨a, b, ca, cb, e, e', S0.more hk ha, S1.more hk hb⟩ }
def shS1 {α τ : Type} (S0 : Sh α) (f : α → τ) : Sh τ := {
  size := S0.size
  rep w F x cs := ∃ a, x = f a ∧ S0.rep w F a cs
  len := by rintro w F x cs ⟨a, rfl, ha⟩; exact S0.len ha
  keep := by rintro w w' F x cs hk ⟨a, e, ha⟩; exact ⟨a, e, S0.keep hk ha⟩
  more := by rintro w F F' x cs hk ⟨a, e, ha⟩; exact ⟨a, e, S0.more hk ha⟩ }
def shS3 {α β γ τ : Type} (S0 : Sh α) (S1 : Sh β) (S2 : Sh γ) (f : α → β → γ → τ) : Sh τ := shS2 S0 (shS2 S1 S2 Prod.mk) (fun a p => f a p.1 p.2)
def shS4 {α β γ δ τ : Type} (S0 : Sh α) (S1 : Sh β) (S2 : Sh γ) (S3 : Sh δ) (f : α → β → γ → δ → τ) : Sh τ := shS2 S0 (shS3 S1 S2 S3 fun a b c => (a, b, c)) (fun a p => f a p.1 p.2.1 p.2.2)
def shS5 {α β γ δ ε τ : Type} (S0 : Sh α) (S1 : Sh β) (S2 : Sh γ) (S3 : Sh δ) (S4 : Sh ε) (f : α → β → γ → δ → ε → τ) : Sh τ := shS2 S0 (shS4 S1 S2 S3 S4 fun a b c d => (a, b, c, d)) (fun a p => f a p.1 p.2.1 p.2.2.1 p.2.2.2)
def shS6 {α β γ δ ε ζ τ : Type} (S0 : Sh α) (S1 : Sh β) (S2 : Sh γ) (S3 : Sh δ) (S4 : Sh ε) (S5 : Sh ζ) (f : α → β → γ → δ → ε → ζ → τ) : Sh τ := shS2 S0 (shS5 S1 S2 S3 S4 S5 fun a b c d e => (a, b, c, d, e)) (fun a p => f a p.1 p.2.1 p.2.2.1 p.2.2.2.1 p.2.2.2.2)
def shS7 {α β γ δ ε ζ η τ : Type} (S0 : Sh α) (S1 : Sh β) (S2 : Sh γ) (S3 : Sh δ) (S4 : Sh ε) (S5 : Sh ζ) (S6 : Sh η) (f : α → β → γ → δ → ε → ζ → η → τ) : Sh τ := shS2 S0 (shS6 S1 S2 S3 S4 S5 S6 fun a b c d e g => (a, b, c, d, e, g)) (fun a p => f a p.1 p.2.1 p.2.2.1 p.2.2.2.1 p.2.2.2.2.1 p.2.2.2.2.2)

structure Op where (kind n : Int) deriving DecidableEq, Repr
structure Point where (tx at_ : Int) deriving DecidableEq, Repr
structure In where (p : Point) (key : List Op) deriving DecidableEq, Repr
structure Out where (coin : Int) (lock : List Op) deriving DecidableEq, Repr
structure Tx where (height : Int) (ins : List In) (outs : List Out) deriving DecidableEq, Repr
structure Book where (texts : List (List UInt8)) deriving DecidableEq, Repr
structure Coin where (p : Point) (o : Out) (height : Int) (reward : Bool) deriving DecidableEq, Repr
structure Undo where (spent : List Coin) deriving DecidableEq, Repr
structure Block where (parent height work nonce : Int) (txs : List Tx) deriving DecidableEq, Repr
structure Tree where (names : List Int) (blocks : List Block) deriving DecidableEq, Repr
structure Message where (kind src to name : Int) (b : Block) (t : Tx) deriving DecidableEq, Repr
structure Node where (t : Tree) (pool : List Tx) (tip : Int) deriving DecidableEq, Repr
structure Wld where (book : Book) (nodes : List Node) (net : List Message) deriving DecidableEq, Repr
structure Happening where (kind node to k work n : Int) (t : Tx) deriving DecidableEq, Repr

def shOp : Sh Op := shS2 shInt shInt Op.mk
def shPoint : Sh Point := shS2 shInt shInt Point.mk
def shIn : Sh In := shS2 shPoint (shSlice shOp) In.mk
def shOut : Sh Out := shS2 shInt (shSlice shOp) Out.mk
def shTx : Sh Tx := shS3 shInt (shSlice shIn) (shSlice shOut) Tx.mk
def shBook : Sh Book := shS1 (shSlice shStr) Book.mk
def shCoin : Sh Coin := shS4 shPoint shOut shInt shBool Coin.mk
def shUndo : Sh Undo := shS1 (shSlice shCoin) Undo.mk
def shBlock : Sh Block := shS5 shInt shInt shInt shInt (shSlice shTx) Block.mk
def shTree : Sh Tree := shS2 (shSlice shInt) (shSlice shBlock) Tree.mk
def shMessage : Sh Message := shS6 shInt shInt shInt shInt shBlock shTx Message.mk
def shNode : Sh Node := shS3 shTree (shSlice shTx) shInt Node.mk
def shWld : Sh Wld := shS3 shBook (shSlice shNode) (shSlice shMessage) Wld.mk
def shHappening : Sh Happening := shS7 shInt shInt shInt shInt shInt shInt shTx Happening.mk

/-! The cells of each kind written out. -/
theorem rep_op {w : World} {F : Nat → Prop} {x : Op} {cs : List Value} (h : shOp.rep w F x cs) :
    cs = [.int .i64 x.kind, .int .i64 x.n] ∧ I64 x.kind ∧ I64 x.n := by
  obtain ⟨a, b, ca, cb, rfl, rfl, ⟨rfl, h1⟩, rfl, h2⟩ := h
  exact ⟨rfl, h1, h2⟩
theorem rep_point {w : World} {F : Nat → Prop} {x : Point} {cs : List Value} (h : shPoint.rep w F x cs) :
    cs = [.int .i64 x.tx, .int .i64 x.at_] ∧ I64 x.tx ∧ I64 x.at_ := by
  obtain ⟨a, b, ca, cb, rfl, rfl, ⟨rfl, h1⟩, rfl, h2⟩ := h
  exact ⟨rfl, h1, h2⟩
theorem rep_in {w : World} {F : Nat → Prop} {x : In} {cs : List Value} (h : shIn.rep w F x cs) :
    ∃ A n c, cs = [.int .i64 x.p.tx, .int .i64 x.p.at_, .slice A n c] ∧ I64 x.p.tx ∧ I64 x.p.at_ ∧ Rds shOp w F x.key A n c := by
  obtain ⟨a, b, ca, cb, rfl, rfl, ha, A, n, c, rfl, hr⟩ := h
  obtain ⟨rfl, h1, h2⟩ := rep_point ha
  exact ⟨A, n, c, rfl, h1, h2, hr⟩
theorem rep_out {w : World} {F : Nat → Prop} {x : Out} {cs : List Value} (h : shOut.rep w F x cs) :
    ∃ A n c, cs = [.int .i64 x.coin, .slice A n c] ∧ I64 x.coin ∧ Rds shOp w F x.lock A n c := by
  obtain ⟨a, b, ca, cb, rfl, rfl, ⟨rfl, h1⟩, A, n, c, rfl, hr⟩ := h
  exact ⟨A, n, c, rfl, h1, hr⟩
theorem rep_tx {w : World} {F : Nat → Prop} {x : Tx} {cs : List Value} (h : shTx.rep w F x cs) :
    ∃ A n c A' n' c', cs = [.int .i64 x.height, .slice A n c, .slice A' n' c'] ∧ I64 x.height ∧ Rds shIn w F x.ins A n c ∧ Rds shOut w F x.outs A' n' c' := by
  obtain ⟨a, b, ca, cb, rfl, rfl, ⟨rfl, h1⟩, a1, b1, ca1, cb1, rfl, rfl, ⟨A, n, c, rfl, hr⟩, A', n', c', rfl, hr'⟩ := h
  exact ⟨A, n, c, A', n', c', rfl, h1, hr, hr'⟩
theorem rep_book {w : World} {F : Nat → Prop} {x : Book} {cs : List Value} (h : shBook.rep w F x cs) :
    ∃ A n c, cs = [.slice A n c] ∧ Rds shStr w F x.texts A n c := by
  obtain ⟨a, rfl, A, n, c, rfl, hr⟩ := h
  exact ⟨A, n, c, rfl, hr⟩
theorem rep_coin {w : World} {F : Nat → Prop} {x : Coin} {cs : List Value} (h : shCoin.rep w F x cs) :
    ∃ A n c, cs = [.int .i64 x.p.tx, .int .i64 x.p.at_, .int .i64 x.o.coin, .slice A n c, .int .i64 x.height, .bool x.reward] ∧ I64 x.p.tx ∧ I64 x.p.at_ ∧ I64 x.o.coin ∧ I64 x.height ∧ Rds shOp w F x.o.lock A n c := by
  obtain ⟨a, b, ca, cb, rfl, rfl, ha, a1, b1, ca1, cb1, rfl, rfl, hb, a2, b2, ca2, cb2, rfl, rfl, ⟨rfl, h3⟩, rfl⟩ := h
  obtain ⟨rfl, h1, h2⟩ := rep_point ha
  obtain ⟨A, n, c, rfl, h4, hr⟩ := rep_out hb
  exact ⟨A, n, c, rfl, h1, h2, h4, h3, hr⟩
theorem rep_undo {w : World} {F : Nat → Prop} {x : Undo} {cs : List Value} (h : shUndo.rep w F x cs) :
    ∃ A n c, cs = [.slice A n c] ∧ Rds shCoin w F x.spent A n c := by
  obtain ⟨a, rfl, A, n, c, rfl, hr⟩ := h
  exact ⟨A, n, c, rfl, hr⟩
theorem rep_block {w : World} {F : Nat → Prop} {x : Block} {cs : List Value} (h : shBlock.rep w F x cs) :
    ∃ A n c, cs = [.int .i64 x.parent, .int .i64 x.height, .int .i64 x.work, .int .i64 x.nonce, .slice A n c] ∧ I64 x.parent ∧ I64 x.height ∧ I64 x.work ∧ I64 x.nonce ∧ Rds shTx w F x.txs A n c := by
  obtain ⟨a, b, ca, cb, rfl, rfl, ⟨rfl, h1⟩, a1, b1, ca1, cb1, rfl, rfl, ⟨rfl, h2⟩, a2, b2, ca2, cb2, rfl, rfl, ⟨rfl, h3⟩, a3, b3, ca3, cb3, rfl, rfl, ⟨rfl, h4⟩, A, n, c, rfl, hr⟩ := h
  exact ⟨A, n, c, rfl, h1, h2, h3, h4, hr⟩
theorem rep_tree {w : World} {F : Nat → Prop} {x : Tree} {cs : List Value} (h : shTree.rep w F x cs) :
    ∃ A n c A' n' c', cs = [.slice A n c, .slice A' n' c'] ∧ Rds shInt w F x.names A n c ∧ Rds shBlock w F x.blocks A' n' c' := by
  obtain ⟨a, b, ca, cb, rfl, rfl, ⟨A, n, c, rfl, hr⟩, A', n', c', rfl, hr'⟩ := h
  exact ⟨A, n, c, A', n', c', rfl, hr, hr'⟩
theorem rep_node {w : World} {F : Nat → Prop} {x : Node} {cs : List Value} (h : shNode.rep w F x cs) :
    ∃ A n c A' n' c' A2 n2 c2, cs = [.slice A n c, .slice A' n' c', .slice A2 n2 c2, .int .i64 x.tip] ∧ Rds shInt w F x.t.names A n c ∧ Rds shBlock w F x.t.blocks A' n' c' ∧ Rds shTx w F x.pool A2 n2 c2 ∧ I64 x.tip := by
  obtain ⟨a, b, ca, cb, rfl, rfl, ha, a1, b1, ca1, cb1, rfl, rfl, ⟨A2, n2, c2, rfl, h2⟩, rfl, h3⟩ := h
  obtain ⟨A, n, c, A', n', c', rfl, hr, hr'⟩ := rep_tree ha
  exact ⟨A, n, c, A', n', c', A2, n2, c2, rfl, hr, hr', h2, h3⟩
end Go.Proofs.Ytnnbnjanekibpaa
