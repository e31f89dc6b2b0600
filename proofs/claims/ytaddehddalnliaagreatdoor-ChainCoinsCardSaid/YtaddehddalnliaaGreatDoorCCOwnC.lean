/- Own texts, put together by wip/bundle.py: Copy, Copy2, Add, Work, PathR, TreeSub. -/
import Derived.Outline
import Derived.Deep.DeepCutAuto
import Derived.Test.YtaddehddalnliaaGreatDoorCCOwnB
set_option linter.unusedVariables false
set_option linter.unusedSimpArgs false
namespace Go.Proofs.YtaddehddalnliaaGreatDoor
section
open Go.RowKit
set_option maxRecDepth 100000
structure TxSmall (t:Tx):Prop where
 ins:t.ins.length≤1000
 outs:t.outs.length≤1000
 key:∀ x ∈ t.ins,x.key.length≤1000000
 lock:∀ x ∈ t.outs,x.lock.length≤1000000
structure BlockSmall (b:Block):Prop where
 txs:b.txs.length≤1000
 each:∀ t ∈ b.txs,TxSmall t
structure TreeSmall (t:Tree):Prop where
 names:t.names.length≤1000
 blocks:t.blocks.length≤1000
 each:∀ b ∈ t.blocks,BlockSmall b
end
section
open Go.RowKit
set_option maxRecDepth 100000
end
section
open Go.RowKit
set_option maxRecDepth 100000
theorem zg4 {l:List Op} (h:z9 l=0):l.length≤1000000:=by
 unfold z9 at h
 split at h
 ·cases h
 ·omega
theorem z0d9 {l seen:List In} (h:z2n l seen=0):∀ x ∈ l,x.key.length≤1000000:=by
 induction l generalizing seen with
 | nil=>intro x hx;cases hx
 | cons y l ih =>
  rw [z2n] at h
  by_cases h1:z4m y≠0
  ·rw [if_pos h1] at h;exact absurd h h1
  ·rw [if_neg h1] at h
   by_cases h2:0≤z4l seen y.p 0
   ·rw [if_pos h2] at h;cases h
   ·rw [if_neg h2] at h
    intro x hx;rcases zY0g.1 hx with rfl|hx
    ·have h3:z4m x=0:=by simpa using h1
     unfold z4m at h3
     split at h3
     ·cases h3
     ·exact zg4 h3
    ·exact ih h x hx
theorem z05y {l:List Out} (h:z2c l=0):∀ x ∈ l,x.lock.length≤1000000:=by
 induction l with
 | nil=>intro x hx;cases hx
 | cons y l ih =>
  rw [z2c] at h
  by_cases h1:z6b y≠0
  ·rw [if_pos h1] at h;exact absurd h h1
  ·rw [if_neg h1] at h
   intro x hx;rcases zY0g.1 hx with rfl|hx
   ·have h3:z6b x=0:=by simpa using h1
    unfold z6b at h3
    split at h3
    ·cases h3
    ·exact zg4 h3
   ·exact ih h x hx
theorem zhq {t:Tx} (h:zm t=0):TxSmall t:=by
 unfold zm at h
 by_cases h1:z2d t≠0
 ·rw [if_pos h1] at h;exact absurd h h1
 ·rw [if_neg h1] at h
  by_cases h2:z2n t.ins []≠0
  ·rw [if_pos h2] at h;exact absurd h h2
  ·rw [if_neg h2] at h
   by_cases h3:z2c t.outs≠0
   ·rw [if_pos h3] at h;exact absurd h h3
   ·have h4:z2d t=0:=by simpa using h1
    unfold z2d at h4
    split at h4
    ·cases h4
    ·rename_i h5
     exact ⟨by omega,by omega,z0d9 (by simpa using h2),z05y (by simpa using h3)⟩
theorem zhr {t:Tree} (h:zl t=0):∀ b ∈ t.blocks,zb b=0:=by
 obtain ⟨ns,bs⟩:=t;have ok:=(z2j ns bs).1 h;intro b hb;obtain ⟨k,hk⟩:=zY2b hb;have hlt:=(zY02.1 hk).1;have:=(z8j (ok.step k (by have:=ok.len;simp only at hlt;omega))).2.1
 rwa [show zx bs (k:Int)=b by simp [zx,hk]] at this
def zg5 (n:Int):Bool:=decide (n<1∨120<n)
def z4f (t:Tree) (name:Int) (b:Block):Int :=
 if zl t≠0 then zl t else if zg5 name=true then 3 else if zb b≠0 then zb b else if z1o t.names name=true then 6 else if z1t t.names t.blocks b t.names.length≠0 then z1t t.names t.blocks b t.names.length else if (t.names.length:Int)=24 then 12 else 0
def z4g (t:Tree) (name:Int) (b:Block):Tree:=if z4f t name b=0 then ⟨t.names++[name],t.blocks++[b]⟩ else ⟨[],[]⟩
end
section
open Go.RowKit
set_option maxRecDepth 100000
def zpn (ns:List Int) (bs:List Block):List Int→Int
 | []=>0
 | m::l=>(zx bs (idx ns m)).work+zpn ns bs l
theorem z060 {ns:List Int} {bs:List Block} (ok:TreeOK ns bs) {m:Int} (hm:m=0∨0≤idx ns m):∀ v ∈ z19 ns bs m,0≤idx ns v:=by
 intro v hv;obtain ⟨k,hk⟩:=zY2b hv;exact (z0i1 ok _ (zY0k _) hm hk).2
theorem zeo {ns:List Int} {bs:List Block} (ok:TreeOK ns bs) {m:Int} (hm:m=0∨0≤idx ns m):(z19 ns bs m).length≤24:=by
 have h1:∀ r,∀ m:Int,z43 ns m≤r→(m=0∨0≤idx ns m)→(z19 ns bs m).length≤z43 ns m:=by
  intro r
  induction r with
  | zero =>
   intro m hr hm;rcases hm with h|h
   ·rw [h,z4o];simp
   ·have:=(z5s ok h).2.2;omega
  | succ r ih =>
   intro m hr hm;rcases hm with h|h
   ·rw [h,z4o];simp
   ·obtain ⟨e,hp,hl⟩:=z5s ok h
    have:=ih _ (by omega) hp;rw [e];simp;omega
 have:=h1 _ m (zY0k _) hm;have:=z0g4 ok hm;have:=ok.le;omega
def zbt:Block:=⟨0,0,0,0,[]⟩
def z76 (t:Tree) (m:Int):Int:=if zl t≠0 then zl t else if idx t.names m<0 then 5 else 0
def z3n (t:Tree) (m:Int):Block:=if z76 t m=0 then zx t.blocks (idx t.names m) else zbt
end
section
open Go.RowKit
set_option maxRecDepth 100000
theorem z061 {g:Nat}:∀ (vs:List Value) (i:Nat) (w:World) (b:Nat),b≠g→(w.setCells g i vs).heap[b]? = w.heap[b]?:=by
 intro vs
 induction vs with
 | nil=>intro i w b hb;rfl
 | cons v vs ih=>intro i w b hb;rw [World.setCells,ih _ _ _ hb];exact Below.heap_setCell _ _ _ _ hb
theorem zwo {g:Nat}:∀ (vs:List Value) (i:Nat) (w:World),(w.setCells g i vs).heap.size=w.heap.size∧(w.setCells g i vs).os=w.os∧(w.setCells g i vs).tape=w.tape∧(w.setCells g i vs).output=w.output:=by
 intro vs
 induction vs with
 | nil=>intro i w;exact ⟨rfl,rfl,rfl,rfl⟩
 | cons v vs ih=>intro i w;rw [World.setCells];obtain ⟨a1,a2,a3,a4⟩:=ih (i+1) (w.setCell ⟨g,i,none⟩ v);exact ⟨by rw [a1];simp [World.setCell],a2,a3,a4⟩
end
section
open Go.RowKit
def z0jb (ns:List Int) (bs:List Block) (m:Int):Block:=zx bs (idx ns m)
def SubT (ns:List Int) (bs:List Block) (ns':List Int) (bs':List Block):Prop:=∀ m,0≤idx ns m→0≤idx ns' m∧z0jb ns bs m=z0jb ns' bs' m
theorem SubT.parent {ns ns':List Int} {bs bs':List Block} (h:SubT ns bs ns' bs') {m:Int} (hm:0≤idx ns m):z0p ns bs m=z0p ns' bs' m:=congrArg Block.parent (h m hm).2
theorem SubT.path {ns ns':List Int} {bs bs':List Block} (h:SubT ns bs ns' bs') (ok:TreeOK ns bs) (ok':TreeOK ns' bs') (r:Nat) {m:Int} (hr:z43 ns m≤r) (hm:m=0∨0≤idx ns m):z19 ns bs m=z19 ns' bs' m:=by
 induction r generalizing m with
 | zero =>
  rcases hm with h0|h0
  ·rw [h0,z4o,z4o]
  ·have:=(z5s ok h0).2.2;omega
 | succ r ih =>
  rcases hm with h0|h0
  ·rw [h0,z4o,z4o]
  ·obtain ⟨e,hp,hl⟩:=z5s ok h0
   rw [e,(z5s ok' (h m h0).1).1,← h.parent h0,ih (by omega) hp]
theorem SubT.paths {ns ns':List Int} {bs bs':List Block} (h:SubT ns bs ns' bs') (ok:TreeOK ns bs) (ok':TreeOK ns' bs') {m:Int} (hm:m=0∨0≤idx ns m):z19 ns bs m=z19 ns' bs' m:=h.path ok ok' _ (zY0k _) hm
theorem SubT.work {ns ns':List Int} {bs bs':List Block} (h:SubT ns bs ns' bs') (l:List Int) (hl:∀ m ∈ l,0≤idx ns m):zpn ns bs l=zpn ns' bs' l:=by
 induction l with
 | nil=>rfl
 | cons x l ih =>
  simp only [zpn];rw [ih fun m hm=>hl m (zY0i _ hm)];have:=(h x (hl x (zY0j ..))).2;unfold z0jb at this;rw [this]
def pw (ns:List Int) (bs:List Block) (m:Int):Int:=zpn ns bs (z19 ns bs m)
theorem SubT.pw {ns ns':List Int} {bs bs':List Block} (h:SubT ns bs ns' bs') (ok:TreeOK ns bs) (ok':TreeOK ns' bs') {m:Int} (hm:m=0∨0≤idx ns m):Proofs.YtaddehddalnliaaGreatDoor.pw ns bs m=Proofs.YtaddehddalnliaaGreatDoor.pw ns' bs' m:=by
 unfold Proofs.YtaddehddalnliaaGreatDoor.pw;rw [h.work _ (z060 ok hm),h.paths ok ok' hm]
theorem z0sy {l:List Int} {x:Int} (h:idx l x<0):idx (l++[x]) x=l.length:=by
 have key:∀ (l:List Int) (k:Nat),x ∉ l→z13 x (l++[x]) k=k+l.length:=by
  intro l
  induction l with
  | nil=>intro k _;simp [z13]
  | cons y l ih =>
   intro k hx;simp only [zY0g,not_or] at hx;rw [zY1h,z13,if_neg hx.1,ih _ hx.2];simp;omega
 have:=key l 0 (fun hc=>by have:=(zav l x).2 hc;omega);unfold idx;rw [this];simp
end
end Go.Proofs.YtaddehddalnliaaGreatDoor
