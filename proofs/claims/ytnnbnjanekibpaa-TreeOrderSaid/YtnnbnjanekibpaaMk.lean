/- Structs read back from their cells. Own text, of no program. -/
import Derived.Test.YtnnbnjanekibpaaData
namespace Go.Proofs.Ytnnbnjanekibpaa
open Go.RowKit
set_option linter.unusedVariables false

theorem point_mk {w : World} {F : Nat → Prop} {x : Point} (h1 : I64 x.tx) (h2 : I64 x.at_) : shPoint.rep w F x [.int .i64 x.tx, .int .i64 x.at_] :=
  ⟨x.tx, x.at_, [_], [_], rfl, rfl, ⟨rfl, h1⟩, rfl, h2⟩
theorem in_mk {w : World} {F : Nat → Prop} {x : In} {A : Option Addr} {n c : Nat} (h1 : I64 x.p.tx) (h2 : I64 x.p.at_) (hr : Rds shOp w F x.key A n c) : shIn.rep w F x [.int .i64 x.p.tx, .int .i64 x.p.at_, .slice A n c] :=
  ⟨x.p, x.key, [_, _], [_], rfl, rfl, point_mk h1 h2, A, n, c, rfl, hr⟩
theorem out_mk {w : World} {F : Nat → Prop} {x : Out} {A : Option Addr} {n c : Nat} (h1 : I64 x.coin) (hr : Rds shOp w F x.lock A n c) : shOut.rep w F x [.int .i64 x.coin, .slice A n c] :=
  ⟨x.coin, x.lock, [_], [_], rfl, rfl, ⟨rfl, h1⟩, A, n, c, rfl, hr⟩
theorem tx_mk {w : World} {F : Nat → Prop} {x : Tx} {A : Option Addr} {n c : Nat} {A' : Option Addr} {n' c' : Nat} (h1 : I64 x.height) (hi : Rds shIn w F x.ins A n c) (ho : Rds shOut w F x.outs A' n' c') : shTx.rep w F x [.int .i64 x.height, .slice A n c, .slice A' n' c'] :=
  ⟨x.height, (x.ins, x.outs), [_], [_, _], rfl, rfl, ⟨rfl, h1⟩, x.ins, x.outs, [_], [_], rfl, rfl, ⟨A, n, c, rfl, hi⟩, A', n', c', rfl, ho⟩
theorem block_mk {w : World} {F : Nat → Prop} {x : Block} {A : Option Addr} {n c : Nat} (h1 : I64 x.parent) (h2 : I64 x.height) (h3 : I64 x.work) (h4 : I64 x.nonce) (hr : Rds shTx w F x.txs A n c) :
    shBlock.rep w F x [.int .i64 x.parent, .int .i64 x.height, .int .i64 x.work, .int .i64 x.nonce, .slice A n c] :=
  ⟨x.parent, (x.height, x.work, x.nonce, x.txs), [_], [_, _, _, _], rfl, rfl, ⟨rfl, h1⟩, x.height, (x.work, x.nonce, x.txs), [_], [_, _, _], rfl, rfl, ⟨rfl, h2⟩, x.work, (x.nonce, x.txs), [_], [_, _], rfl, rfl, ⟨rfl, h3⟩, x.nonce, x.txs, [_], [_], rfl, rfl, ⟨rfl, h4⟩, A, n, c, rfl, hr⟩
theorem tree_mk {w : World} {F : Nat → Prop} {x : Tree} {A : Option Addr} {n c : Nat} {A' : Option Addr} {n' c' : Nat} (h1 : Rds shInt w F x.names A n c) (h2 : Rds shBlock w F x.blocks A' n' c') : shTree.rep w F x [.slice A n c, .slice A' n' c'] :=
  ⟨x.names, x.blocks, [_], [_], rfl, rfl, ⟨A, n, c, rfl, h1⟩, A', n', c', rfl, h2⟩
end Go.Proofs.Ytnnbnjanekibpaa
