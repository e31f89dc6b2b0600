/- Own texts, put together by wip/bundle.py: Copy, Copy2, Add, Work, PathR, TreeSub. -/
import Derived.Outline
import Derived.Deep.DeepCutAuto
import Derived.Test.YtmjelcjgllkapaaGreatDoorCMOwnB
set_option linter.unusedVariables false
set_option linter.unusedSimpArgs false
set_option maxRecDepth 100000
set_option maxHeartbeats 8000000
namespace Go.Proofs.YtmjelcjgllkapaaGreatDoor
open Go.RowKit
structure TxSmall(t:Tx):Prop where
 ins:t.ins.length<=1000
 outs:t.outs.length<=1000
 key:∀x∈t.ins,x.key.length<=1000000
 lock:∀x∈t.outs,x.lock.length<=1000000
structure BlockSmall(b:Block):Prop where
 txs:b.txs.length<=1000
 each:∀t∈b.txs,TxSmall t
structure TreeSmall(t:Tree):Prop where
 names:t.names.length<=1000
 blocks:t.blocks.length<=1000
 each:∀b∈t.blocks,BlockSmall b

theorem zgz{l:List Op}(h:zb l=0):l.length<=1000000:=by
 unfold zb at h;split at h
 ·cases h
 ·omega
theorem z00h{l seen:List In}(h:z2w l seen=0):∀x∈l,x.key.length<=1000000:=by
 induction l generalizing seen with
 |nil=>intro x hx;cases hx
 |cons y l ih =>
  rw[z2w]at h;by_cases h1:z53 y≠0
  ·rw[zP h1]at h;exact absurd h h1
  ·rw[zN h1]at h;by_cases h2:0<=z52 seen y.p 0
   ·rw[zP h2]at h;cases h
   ·rw[zN h2]at h;intro x hx;rcases zY0g.1 hx with rfl|hx
    ·have h3:z53 x=0:=by simpa using h1
     unfold z53 at h3;split at h3
     ·cases h3
     ·exact zgz h3
    ·exact ih h x hx
theorem zxk{l:List Out}(h:z2l l=0):∀x∈l,x.lock.length<=1000000:=by
 induction l with
 |nil=>intro x hx;cases hx
 |cons y l ih =>
  rw[z2l]at h;by_cases h1:z6w y≠0
  ·rw[zP h1]at h;exact absurd h h1
  ·rw[zN h1]at h;intro x hx;rcases zY0g.1 hx with rfl|hx
   ·have h3:z6w x=0:=by simpa using h1
    unfold z6w at h3;split at h3
    ·cases h3
    ·exact zgz h3
   ·exact ih h x hx
theorem zis{t:Tx}(h:zo t=0):TxSmall t:=by
 unfold zo at h;by_cases h1:z2m t≠0
 ·rw[zP h1]at h;exact absurd h h1
 ·rw[zN h1]at h;by_cases h2:z2w t.ins []≠0
  ·rw[zP h2]at h;exact absurd h h2
  ·rw[zN h2]at h;by_cases h3:z2l t.outs≠0
   ·rw[zP h3]at h;exact absurd h h3
   ·have h4:z2m t=0:=by simpa using h1
    unfold z2m at h4;split at h4
    ·cases h4
    ·rename_i h5;exact⟨by omega,by omega,z00h (by simpa using h2),zxk (by simpa using h3)⟩
theorem zit{t:Tree}(h:zn t=0):∀b∈t.blocks,zf b=0:=by
 obtain⟨ns,bs⟩:=t;have ok:=(z2j ns bs).1 h;intro b hb;obtain⟨k,hk⟩:=zY27 hb;have hlt:=(zY02.1 hk).1;have:=(z9m (ok.step k (by have:=ok.len;simp only at hlt;omega))).2.1
 rwa [show z00 bs (k:Int)=b by simp[z00,hk]]at this
def zh0(n:Int):Bool:=decide (n<1\/120<n)
def z4t(t:Tree)(name:Int)(b:Block):Int :=
 if zn t≠0 then zn t else if zh0 name=true then 3 else if zf b≠0 then zf b else if z15 t.names name=true then 6 else if z23 t.names t.blocks b t.names.length≠0 then z23 t.names t.blocks b t.names.length else if(t.names.length:Int)=24 then 12 else 0
def z4u(t:Tree)(name:Int)(b:Block):Tree:=if z4t t name b=0 then⟨t.names++[name],t.blocks++[b]⟩else⟨[],[]⟩
def zpw(ns:List Int)(bs:List Block):List Int->Int
 | []=>0
 |m::l=>(z00 bs (idx ns m)).work+zpw ns bs l
theorem zi1{ns:List Int}{bs:List Block}(ok:TreeOK ns bs){m:Int}(hm:m=0\/0<=idx ns m):∀v∈z01 ns bs m,0<=idx ns v:=by intro v hv;obtain⟨k,hk⟩:=zY27 hv;exact(zi0 ok _ (zY0k _) hm hk).2
theorem zcu{ns:List Int}{bs:List Block}(ok:TreeOK ns bs){m:Int}(hm:m=0\/0<=idx ns m):(z01 ns bs m).length<=24:=by
 have h1:∀r,∀m:Int,z4g ns m<=r->(m=0\/0<=idx ns m)->(z01 ns bs m).length<=z4g ns m:=by
  intro r;induction r with
  |zero =>
   intro m hr hm;rcases hm with h|h
   ·rw[h,z55];simp
   ·have:=(z56 ok h).2.2;omega
  |succ r ih =>
   intro m hr hm;rcases hm with h|h
   ·rw[h,z55];simp
   ·obtain⟨e,hp,hl⟩:=z56 ok h;have:=ih _ zX0 hp;rw[e];simp;omega
 have:=h1 _ m (zY0k _) hm;have:=z02a ok hm;have:=ok.le;omega
def zxn:Block:=⟨0,0,0,0,[]⟩
def z7x(t:Tree)(m:Int):Int:=if zn t≠0 then zn t else if idx t.names m<0 then 5 else 0
def ze(t:Tree)(m:Int):Block:=if z7x t m=0 then z00 t.blocks (idx t.names m)else zxn
theorem zxo{g:Nat}:∀(vs:List Value) (i:Nat) (w:World) (b:Nat),b≠g->(w.setCells g i vs).heap[b]?=w.heap[b]?:=by
 intro vs;induction vs with
 |nil=>intro i w b hb;rfl
 |cons v vs ih=>intro i w b hb;rw[World.setCells,ih _ _ _ hb];exact Below.heap_setCell _ _ _ _ hb
theorem zut{g:Nat}:∀(vs:List Value) (i:Nat) (w:World),(w.setCells g i vs).heap.size=w.heap.size/\(w.setCells g i vs).os=w.os/\(w.setCells g i vs).tape=w.tape/\(w.setCells g i vs).output=w.output:=by
 intro vs;induction vs with
 |nil=>intro i w;exact⟨rfl,rfl,rfl,rfl⟩
 |cons v vs ih=>intro i w;rw[World.setCells];obtain⟨a1,a2,a3,a4⟩:=ih (i+1) (w.setCell ⟨g,i,none⟩ v);exact⟨by rw[a1];simp[World.setCell],a2,a3,a4⟩
def z051(ns:List Int)(bs:List Block)(m:Int):Block:=z00 bs (idx ns m)
def SubT(ns:List Int)(bs:List Block)(ns':List Int)(bs':List Block):Prop:=∀m,0<=idx ns m->0<=idx ns' m/\z051 ns bs m=z051 ns' bs' m
theorem SubT.parent{ns ns':List Int}{bs bs':List Block}(h:SubT ns bs ns' bs'){m:Int}(hm:0<=idx ns m):z0x ns bs m=z0x ns' bs' m:=congrArg Block.parent (h m hm).2
theorem SubT.path{ns ns':List Int}{bs bs':List Block}(h:SubT ns bs ns' bs')(ok:TreeOK ns bs)(ok':TreeOK ns' bs')(r:Nat){m:Int}(hr:z4g ns m<=r)(hm:m=0\/0<=idx ns m):z01 ns bs m=z01 ns' bs' m:=by
 induction r generalizing m with
 |zero =>
  rcases hm with h0|h0
  ·rw[h0,z55,z55]
  ·have:=(z56 ok h0).2.2;omega
 |succ r ih =>
  rcases hm with h0|h0
  ·rw[h0,z55,z55]
  ·obtain⟨e,hp,hl⟩:=z56 ok h0;rw[e,(z56 ok' (h m h0).1).1,<- h.parent h0,ih zX0 hp]
theorem SubT.paths{ns ns':List Int}{bs bs':List Block}(h:SubT ns bs ns' bs')(ok:TreeOK ns bs)(ok':TreeOK ns' bs'){m:Int}(hm:m=0\/0<=idx ns m):z01 ns bs m=z01 ns' bs' m:=h.path ok ok' _ (zY0k _) hm
theorem SubT.work{ns ns':List Int}{bs bs':List Block}(h:SubT ns bs ns' bs')(l:List Int)(hl:∀m∈l,0<=idx ns m):zpw ns bs l=zpw ns' bs' l:=by
 induction l with
 |nil=>rfl
 |cons x l ih =>simp only[zpw];rw[ih λm hm=>hl m (zY0h _ hm)];have:=(h x (hl x (zY0i ..))).2;unfold z051 at this;rw[this]
def pw(ns:List Int)(bs:List Block)(m:Int):Int:=zpw ns bs (z01 ns bs m)
theorem SubT.pw{ns ns':List Int}{bs bs':List Block}(h:SubT ns bs ns' bs')(ok:TreeOK ns bs)(ok':TreeOK ns' bs'){m:Int}(hm:m=0\/0<=idx ns m):Proofs.YtmjelcjgllkapaaGreatDoor.pw ns bs m=Proofs.YtmjelcjgllkapaaGreatDoor.pw ns' bs' m:=by unfold Proofs.YtmjelcjgllkapaaGreatDoor.pw;rw[h.work _ (zi1 ok hm),h.paths ok ok' hm]
theorem z0ei{l:List Int}{x:Int}(h:idx l x<0):idx (l++[x]) x=l.length:=by
 have key:∀(l:List Int) (k:Nat),x∉l->z1a x (l++[x]) k=k+l.length:=by
  intro l;induction l with
  |nil=>intro k _;simp[z1a]
  |cons y l ih =>intro k hx;simp only[zY0g,not_or]at hx;rw[zY1g,z1a,zN hx.1,ih _ hx.2];simp;omega
 have:=key l 0 (λhc=>by have:=(zbx l x).2 hc;omega);unfold idx;rw[this];simp
end Go.Proofs.YtmjelcjgllkapaaGreatDoor
