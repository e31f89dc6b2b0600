/- Own texts, put together by wip/bundle.py: Copy, Copy2, Add, Work, PathR. -/
import Derived.Outline
import Derived.Deep.DeepCutAuto
import Derived.Test.YtaddehddalnliaaGreatDoorPOOwnB
set_option linter.unusedVariables false
set_option linter.unusedSimpArgs false
namespace Go.Proofs.YtaddehddalnliaaGreatDoor
section
open Go.RowKit
set_option maxRecDepth 100000
structure TxSmall (t:Tx):Prop where
 ins:t.ins.length≤1000
 outs:t.outs.length≤1000
 key:∀ x ∈ t.ins,x.key.length≤1000000
 lock:∀ x ∈ t.outs,x.lock.length≤1000000
structure BlockSmall (b:Block):Prop where
 txs:b.txs.length≤1000
 each:∀ t ∈ b.txs,TxSmall t
structure TreeSmall (t:Tree):Prop where
 names:t.names.length≤1000
 blocks:t.blocks.length≤1000
 each:∀ b ∈ t.blocks,BlockSmall b
end
section
open Go.RowKit
set_option maxRecDepth 100000
end
section
open Go.RowKit
set_option maxRecDepth 100000
theorem zel {l:List Op} (h:z7 l=0):l.length≤1000000:=by
 unfold z7 at h
 split at h
 ·cases h
 ·omega
theorem z07k {l seen:List In} (h:z13 l seen=0):∀ x ∈ l,x.key.length≤1000000:=by
 induction l generalizing seen with
 | nil=>intro x hx;cases hx
 | cons y l ih =>
  rw [z13] at h
  by_cases h1:z2k y≠0
  ·rw [if_pos h1] at h;exact absurd h h1
  ·rw [if_neg h1] at h
   by_cases h2:0≤z44 seen y.p 0
   ·rw [if_pos h2] at h;cases h
   ·rw [if_neg h2] at h
    intro x hx;rcases zY0i.1 hx with rfl|hx
    ·have h3:z2k x=0:=by simpa using h1
     unfold z2k at h3
     split at h3
     ·cases h3
     ·exact zel h3
    ·exact ih h x hx
theorem z01a {l:List Out} (h:z0v l=0):∀ x ∈ l,x.lock.length≤1000000:=by
 induction l with
 | nil=>intro x hx;cases hx
 | cons y l ih =>
  rw [z0v] at h
  by_cases h1:z3h y≠0
  ·rw [if_pos h1] at h;exact absurd h h1
  ·rw [if_neg h1] at h
   intro x hx;rcases zY0i.1 hx with rfl|hx
   ·have h3:z3h x=0:=by simpa using h1
    unfold z3h at h3
    split at h3
    ·cases h3
    ·exact zel h3
   ·exact ih h x hx
theorem zg3 {t:Tx} (h:zf t=0):TxSmall t:=by
 unfold zf at h
 by_cases h1:z1q t≠0
 ·rw [if_pos h1] at h;exact absurd h h1
 ·rw [if_neg h1] at h
  by_cases h2:z13 t.ins []≠0
  ·rw [if_pos h2] at h;exact absurd h h2
  ·rw [if_neg h2] at h
   by_cases h3:z0v t.outs≠0
   ·rw [if_pos h3] at h;exact absurd h h3
   ·have h4:z1q t=0:=by simpa using h1
    unfold z1q at h4
    split at h4
    ·cases h4
    ·rename_i h5
     exact ⟨by omega,by omega,z07k (by simpa using h2),z01a (by simpa using h3)⟩
end
section
open Go.RowKit
set_option maxRecDepth 100000
def z97:Block:=⟨0,0,0,0,[]⟩
def z0ac (t:Tree) (m:Int):Int:=if zaq t≠0 then zaq t else if idx t.names m<0 then 5 else 0
def zhf (t:Tree) (m:Int):Block:=if z0ac t m=0 then zbr t.blocks (idx t.names m) else z97
end
section
open Go.RowKit
set_option maxRecDepth 100000
end
end Go.Proofs.YtaddehddalnliaaGreatDoor
