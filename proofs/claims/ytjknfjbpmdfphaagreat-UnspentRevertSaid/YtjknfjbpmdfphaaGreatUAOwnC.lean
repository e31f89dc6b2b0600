/- Own texts, put together by wip/bundle.py: Copy, Copy2, Add. -/
import Derived.Outline
import Derived.Deep.DeepCutAuto
import Derived.Test.YtjknfjbpmdfphaaGreatUAOwnB
set_option linter.unusedVariables false
set_option linter.unusedSimpArgs false
namespace Go.Proofs.YtjknfjbpmdfphaaGreat
section
open Go.RowKit
set_option maxRecDepth 100000
structure TxSmall (t:Tx):Prop where
 ins:t.ins.length≤1000
 outs:t.outs.length≤1000
 key:∀ x ∈ t.ins,x.key.length≤1000000
 lock:∀ x ∈ t.outs,x.lock.length≤1000000
structure BlockSmall (b:Block):Prop where
 txs:b.txs.length≤1000
 each:∀ t ∈ b.txs,TxSmall t
structure TreeSmall (t:Tree):Prop where
 names:t.names.length≤1000
 blocks:t.blocks.length≤1000
 each:∀ b ∈ t.blocks,BlockSmall b
end
section
open Go.RowKit
set_option maxRecDepth 100000
end
section
open Go.RowKit
set_option maxRecDepth 100000
end
end Go.Proofs.YtjknfjbpmdfphaaGreat
