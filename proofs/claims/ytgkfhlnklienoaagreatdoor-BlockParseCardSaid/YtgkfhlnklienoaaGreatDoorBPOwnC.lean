/- Own texts, put together by wip/bundle.py: Copy, Copy2, Add, Work, PathR. -/
import Derived.Outline
import Derived.Deep.DeepCutAuto
import Derived.Test.YtgkfhlnklienoaaGreatDoorBPOwnB
set_option linter.unusedVariables false
set_option linter.unusedSimpArgs false
namespace Go.Proofs.YtgkfhlnklienoaaGreatDoor
section
open Go.RowKit
set_option maxRecDepth 100000
structure TxSmall (t:Tx):Prop where
 ins:t.ins.length≤1000
 outs:t.outs.length≤1000
 key:∀ x ∈ t.ins,x.key.length≤1000000
 lock:∀ x ∈ t.outs,x.lock.length≤1000000
structure BlockSmall (b:Block):Prop where
 txs:b.txs.length≤1000
 each:∀ t ∈ b.txs,TxSmall t
structure TreeSmall (t:Tree):Prop where
 names:t.names.length≤1000
 blocks:t.blocks.length≤1000
 each:∀ b ∈ t.blocks,BlockSmall b
end
section
open Go.RowKit
set_option maxRecDepth 100000
end
section
open Go.RowKit
set_option maxRecDepth 100000
end
section
open Go.RowKit
set_option maxRecDepth 100000
def z0cb (ns:List Int) (bs:List Block):List Int→Int
 | []=>0
 | m::l=>(z9d bs (idx ns m)).work+z0cb ns bs l
def z0ge:Block:=⟨0,0,0,0,[]⟩
def z03b (t:Tree) (m:Int):Int:=if z9p t≠0 then z9p t else if idx t.names m<0 then 5 else 0
def z08d (t:Tree) (m:Int):Block:=if z03b t m=0 then z9d t.blocks (idx t.names m) else z0ge
end
section
open Go.RowKit
set_option maxRecDepth 100000
end
end Go.Proofs.YtgkfhlnklienoaaGreatDoor
