/- Own texts, put together by wip/bundle.py: Copy, Copy2, Add, Work, PathR. -/
import Derived.Outline
import Derived.Deep.DeepCutAuto
import Derived.Test.YtaddehddalnliaaGreatDoorBCOwnB
set_option linter.unusedVariables false
set_option linter.unusedSimpArgs false
namespace Go.Proofs.YtaddehddalnliaaGreatDoor
section
open Go.RowKit
set_option maxRecDepth 100000
structure TxSmall (t:Tx):Prop where
 ins:t.ins.length≤1000
 outs:t.outs.length≤1000
 key:∀ x ∈ t.ins,x.key.length≤1000000
 lock:∀ x ∈ t.outs,x.lock.length≤1000000
structure BlockSmall (b:Block):Prop where
 txs:b.txs.length≤1000
 each:∀ t ∈ b.txs,TxSmall t
structure TreeSmall (t:Tree):Prop where
 names:t.names.length≤1000
 blocks:t.blocks.length≤1000
 each:∀ b ∈ t.blocks,BlockSmall b
end
section
open Go.RowKit
set_option maxRecDepth 100000
end
section
open Go.RowKit
set_option maxRecDepth 100000
end
section
open Go.RowKit
set_option maxRecDepth 100000
def zes:Block:=⟨0,0,0,0,[]⟩
def z0ah (t:Tree) (m:Int):Int:=if zam t≠0 then zam t else if idx t.names m<0 then 5 else 0
def zhq (t:Tree) (m:Int):Block:=if z0ah t m=0 then zbk t.blocks (idx t.names m) else zes
end
section
open Go.RowKit
set_option maxRecDepth 100000
end
end Go.Proofs.YtaddehddalnliaaGreatDoor
