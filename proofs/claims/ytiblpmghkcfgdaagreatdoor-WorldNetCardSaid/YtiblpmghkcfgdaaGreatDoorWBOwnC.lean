/- Own texts, put together by wip/bundle.py: Copy, Copy2, Add, Work, PathR, TreeSub, TreeOrd. -/
import Derived.Outline
import Derived.Deep.DeepCutAuto
import Derived.Test.YtiblpmghkcfgdaaGreatDoorWBOwnB
set_option linter.unusedVariables false
set_option linter.unusedSimpArgs false
namespace Go.Proofs.YtiblpmghkcfgdaaGreatDoor
section
open Go.RowKit
set_option maxRecDepth 100000
structure TxSmall (t:Tx):Prop where
 ins:t.ins.length≤1000
 outs:t.outs.length≤1000
 key:∀ x ∈ t.ins,x.key.length≤1000000
 lock:∀ x ∈ t.outs,x.lock.length≤1000000
structure BlockSmall (b:Block):Prop where
 txs:b.txs.length≤1000
 each:∀ t ∈ b.txs,TxSmall t
structure TreeSmall (t:Tree):Prop where
 names:t.names.length≤1000
 blocks:t.blocks.length≤1000
 each:∀ b ∈ t.blocks,BlockSmall b
end
section
open Go.RowKit
set_option maxRecDepth 100000
end
section
open Go.RowKit
set_option maxRecDepth 100000
theorem zh0 {l:List Op} (h:zo l=0):l.length≤1000000:=by
 unfold zo at h
 split at h
 ·cases h
 ·omega
theorem z07a {l seen:List In} (h:z4c l seen=0):∀ x ∈ l,x.key.length≤1000000:=by
 induction l generalizing seen with
 | nil=>intro x hx;cases hx
 | cons y l ih =>
  rw [z4c] at h
  by_cases h1:z5z y≠0
  ·rw [if_pos h1] at h;exact absurd h h1
  ·rw [if_neg h1] at h
   by_cases h2:0≤z8v seen y.p 0
   ·rw [if_pos h2] at h;cases h
   ·rw [if_neg h2] at h
    intro x hx;rcases zY0f.1 hx with rfl|hx
    ·have h3:z5z x=0:=by simpa using h1
     unfold z5z at h3
     split at h3
     ·cases h3
     ·exact zh0 h3
    ·exact ih h x hx
theorem z02q {l:List Out} (h:z3i l=0):∀ x ∈ l,x.lock.length≤1000000:=by
 induction l with
 | nil=>intro x hx;cases hx
 | cons y l ih =>
  rw [z3i] at h
  by_cases h1:z7e y≠0
  ·rw [if_pos h1] at h;exact absurd h h1
  ·rw [if_neg h1] at h
   intro x hx;rcases zY0f.1 hx with rfl|hx
   ·have h3:z7e x=0:=by simpa using h1
    unfold z7e at h3
    split at h3
    ·cases h3
    ·exact zh0 h3
   ·exact ih h x hx
theorem z52 {t:Tx} (h:zj t=0):TxSmall t:=by
 unfold zj at h
 by_cases h1:z2z t≠0
 ·rw [if_pos h1] at h;exact absurd h h1
 ·rw [if_neg h1] at h
  by_cases h2:z4c t.ins []≠0
  ·rw [if_pos h2] at h;exact absurd h h2
  ·rw [if_neg h2] at h
   by_cases h3:z3i t.outs≠0
   ·rw [if_pos h3] at h;exact absurd h h3
   ·have h4:z2z t=0:=by simpa using h1
    unfold z2z at h4
    split at h4
    ·cases h4
    ·rename_i h5
     exact ⟨by omega,by omega,z07a (by simpa using h2),z02q (by simpa using h3)⟩
theorem z5y {t:Tree} (h:zx t=0):∀ b ∈ t.blocks,zd b=0:=by
 obtain ⟨ns,bs⟩:=t;have ok:=(z03 ns bs).1 h;intro b hb;obtain ⟨k,hk⟩:=zY2d hb;have hlt:=(zY02.1 hk).1;have:=(z9d (ok.step k (by have:=ok.len;simp only at hlt;omega))).2.1
 rwa [show z08 bs (k:Int)=b by simp [z08,hk]] at this
def z91 (n:Int):Bool:=decide (n<1∨120<n)
def z0y (t:Tree) (name:Int) (b:Block):Int :=
 if zx t≠0 then zx t else if z91 name=true then 3 else if zd b≠0 then zd b else if z2u t.names name=true then 6 else if z1h t.names t.blocks b t.names.length≠0 then z1h t.names t.blocks b t.names.length else if (t.names.length:Int)=24 then 12 else 0
def z2j (t:Tree) (name:Int) (b:Block):Tree:=if z0y t name b=0 then ⟨t.names++[name],t.blocks++[b]⟩ else ⟨[],[]⟩
end
section
open Go.RowKit
set_option maxRecDepth 100000
def z2s (ns:List Int) (bs:List Block):List Int→Int
 | []=>0
 | m::l=>(z08 bs (idx ns m)).work+z2s ns bs l
theorem z02r (ns:List Int) (bs:List Block) (l r:List Int):z2s ns bs (l++r)=z2s ns bs l+z2s ns bs r:=by
 induction l with
 | nil=>simp [z2s]
 | cons x l ih=>simp only [zY1a,z2s,ih];omega
theorem zwo {b:Block} (h:zd b=0):0≤b.work∧b.work≤1000:=by
 have:=(zc2 h).1;unfold z44 at this;omega
def z1b (ns:List Int) (bs:List Block) (p:Int × Int) (n:Int):Int × Int:=if p.2<z2s ns bs (z0s ns bs n)∨(z2s ns bs (z0s ns bs n)=p.2∧n<p.1) then (n,z2s ns bs (z0s ns bs n)) else p
def z0py (ns:List Int) (bs:List Block):Int:=(ns.foldl (z1b ns bs) (0,0)).1
def z16 (t:Tree):Int × Int:=if zx t≠0 then (0,zx t) else (z0py t.names t.blocks,0)
def z80 (t:Tree) (m:Int):Int × Int:=if (z4l t m).2≠0 then (0,(z4l t m).2) else (z2s t.names t.blocks (z4l t m).1,0)
theorem z9v {ns:List Int} {bs:List Block} (ok:TreeOK ns bs) {m:Int} (hm:m=0∨0≤idx ns m):∀ v ∈ z0s ns bs m,0≤idx ns v:=by
 intro v hv;obtain ⟨k,hk⟩:=zY2d hv;exact (z0cc ok _ (zY0p _) hm hk).2
theorem zci {ns:List Int} {bs:List Block} (ok:TreeOK ns bs) {m:Int} (hm:m=0∨0≤idx ns m):(z0s ns bs m).length≤24:=by
 have h1:∀ r,∀ m:Int,z57 ns m≤r→(m=0∨0≤idx ns m)→(z0s ns bs m).length≤z57 ns m:=by
  intro r
  induction r with
  | zero =>
   intro m hr hm;rcases hm with h|h
   ·rw [h,z1r];simp
   ·have:=(z36 ok h).2.2;omega
  | succ r ih =>
   intro m hr hm;rcases hm with h|h
   ·rw [h,z1r];simp
   ·obtain ⟨e,hp,hl⟩:=z36 ok h
    have:=ih _ (by omega) hp;rw [e];simp;omega
 have:=h1 _ m (zY0p _) hm;have:=z0ai ok hm;have:=ok.le;omega
def z24:Block:=⟨0,0,0,0,[]⟩
def z0o (t:Tree) (m:Int):Int:=if zx t≠0 then zx t else if idx t.names m<0 then 5 else 0
def z0a (t:Tree) (m:Int):Block:=if z0o t m=0 then z08 t.blocks (idx t.names m) else z24
end
section
open Go.RowKit
set_option maxRecDepth 100000
theorem z02s {g:Nat}:∀ (vs:List Value) (i:Nat) (w:World) (b:Nat),b≠g→(w.setCells g i vs).heap[b]? = w.heap[b]?:=by
 intro vs
 induction vs with
 | nil=>intro i w b hb;rfl
 | cons v vs ih=>intro i w b hb;rw [World.setCells,ih _ _ _ hb];exact Below.heap_setCell _ _ _ _ hb
theorem zwp {g:Nat}:∀ (vs:List Value) (i:Nat) (w:World),(w.setCells g i vs).heap.size=w.heap.size∧(w.setCells g i vs).os=w.os∧(w.setCells g i vs).tape=w.tape∧(w.setCells g i vs).output=w.output:=by
 intro vs
 induction vs with
 | nil=>intro i w;exact ⟨rfl,rfl,rfl,rfl⟩
 | cons v vs ih=>intro i w;rw [World.setCells];obtain ⟨a1,a2,a3,a4⟩:=ih (i+1) (w.setCell ⟨g,i,none⟩ v);exact ⟨by rw [a1];simp [World.setCell],a2,a3,a4⟩
end
section
open Go.RowKit
def z9s (ns:List Int) (bs:List Block) (m:Int):Block:=z08 bs (idx ns m)
def SubT (ns:List Int) (bs:List Block) (ns':List Int) (bs':List Block):Prop:=∀ m,0≤idx ns m→0≤idx ns' m∧z9s ns bs m=z9s ns' bs' m
theorem SubT.parent {ns ns':List Int} {bs bs':List Block} (h:SubT ns bs ns' bs') {m:Int} (hm:0≤idx ns m):z0g ns bs m=z0g ns' bs' m:=congrArg Block.parent (h m hm).2
theorem SubT.path {ns ns':List Int} {bs bs':List Block} (h:SubT ns bs ns' bs') (ok:TreeOK ns bs) (ok':TreeOK ns' bs') (r:Nat) {m:Int} (hr:z57 ns m≤r) (hm:m=0∨0≤idx ns m):z0s ns bs m=z0s ns' bs' m:=by
 induction r generalizing m with
 | zero =>
  rcases hm with h0|h0
  ·rw [h0,z1r,z1r]
  ·have:=(z36 ok h0).2.2;omega
 | succ r ih =>
  rcases hm with h0|h0
  ·rw [h0,z1r,z1r]
  ·obtain ⟨e,hp,hl⟩:=z36 ok h0
   rw [e,(z36 ok' (h m h0).1).1,← h.parent h0,ih (by omega) hp]
theorem SubT.paths {ns ns':List Int} {bs bs':List Block} (h:SubT ns bs ns' bs') (ok:TreeOK ns bs) (ok':TreeOK ns' bs') {m:Int} (hm:m=0∨0≤idx ns m):z0s ns bs m=z0s ns' bs' m:=h.path ok ok' _ (zY0p _) hm
theorem SubT.work {ns ns':List Int} {bs bs':List Block} (h:SubT ns bs ns' bs') (l:List Int) (hl:∀ m ∈ l,0≤idx ns m):z2s ns bs l=z2s ns' bs' l:=by
 induction l with
 | nil=>rfl
 | cons x l ih =>
  simp only [z2s];rw [ih fun m hm=>hl m (zY08 _ hm)];have:=(h x (hl x (zY0b ..))).2;unfold z9s at this;rw [this]
def pw (ns:List Int) (bs:List Block) (m:Int):Int:=z2s ns bs (z0s ns bs m)
theorem SubT.pw {ns ns':List Int} {bs bs':List Block} (h:SubT ns bs ns' bs') (ok:TreeOK ns bs) (ok':TreeOK ns' bs') {m:Int} (hm:m=0∨0≤idx ns m):Proofs.YtiblpmghkcfgdaaGreatDoor.pw ns bs m=Proofs.YtiblpmghkcfgdaaGreatDoor.pw ns' bs' m:=by
 unfold Proofs.YtiblpmghkcfgdaaGreatDoor.pw;rw [h.work _ (z9v ok hm),h.paths ok ok' hm]
theorem zt5 (ns:List Int) (bs:List Block):pw ns bs 0=0:=by unfold pw;rw [z1r];rfl
theorem z0oo (ns:List Int) (bs:List Block) (l:List Int):∀ (p:Int × Int),p.2=pw ns bs p.1→(l.foldl (z1b ns bs) p).2=pw ns bs (l.foldl (z1b ns bs) p).1 ∧
  p.2≤(l.foldl (z1b ns bs) p).2∧((l.foldl (z1b ns bs) p).1=p.1∨(l.foldl (z1b ns bs) p).1 ∈ l)∧(∀ n ∈ l,pw ns bs n≤(l.foldl (z1b ns bs) p).2∧(pw ns bs n=(l.foldl (z1b ns bs) p).2→(l.foldl (z1b ns bs) p).1≤n)) ∧
  (p.2=(l.foldl (z1b ns bs) p).2→(l.foldl (z1b ns bs) p).1≤p.1):=by
 induction l with
 | nil=>intro p hp;exact ⟨hp,Int.le_refl _,.inl rfl,by simp,fun _=>Int.le_refl _⟩
 | cons x l ih =>
  intro p hp;rw [zY3l];have hq:(z1b ns bs p x).2=pw ns bs (z1b ns bs p x).1∧p.2≤(z1b ns bs p x).2∧((z1b ns bs p x).1=p.1∨(z1b ns bs p x).1=x)∧pw ns bs x≤(z1b ns bs p x).2∧(pw ns bs x=(z1b ns bs p x).2→(z1b ns bs p x).1≤x)∧(p.2=(z1b ns bs p x).2→(z1b ns bs p x).1≤p.1):=by
   unfold z1b;have e:z2s ns bs (z0s ns bs x)=pw ns bs x:=rfl;rw [e]
   split
   ·rename_i h
    refine ⟨rfl,by simp only;omega,.inr rfl,by simp,by simp,?_⟩;simp only;intro h3;omega
   ·rename_i h
    refine ⟨hp,Int.le_refl _,.inl rfl,by omega,?_,fun _=>Int.le_refl _⟩;intro h3;omega
  obtain ⟨q1,q2,q3,q4,q5,q6⟩:=hq;obtain ⟨i1,i2,i3,i4,i5⟩:=ih _ q1;refine ⟨i1,by omega,?_,?_,?_⟩
  ·rcases i3 with h|h
   ·rw [h]
    rcases q3 with h'|h'
    ·exact .inl h'
    ·rw [h'];exact .inr (zY0b ..)
   ·exact .inr (zY08 _ h)
  ·intro n hn
   rcases zY0f.1 hn with rfl|hn
   ·refine ⟨by omega,fun h=>?_⟩
    have:=i5 (by omega);have:=q5 (by omega);omega
   ·exact i4 n hn
  ·intro h
   have:=i5 (by omega);have:=q6 (by omega);omega
def z95 (ns:List Int) (bs:List Block):Int × Int:=ns.foldl (z1b ns bs) (0,0)
theorem zft (ns:List Int) (bs:List Block):(z95 ns bs).2=pw ns bs (z95 ns bs).1∧0≤(z95 ns bs).2∧((z95 ns bs).1=0∨(z95 ns bs).1 ∈ ns)∧∀ n ∈ ns,pw ns bs n≤(z95 ns bs).2∧(pw ns bs n=(z95 ns bs).2→(z95 ns bs).1≤n):=by
 obtain ⟨h1,h2,h3,h4,h5⟩:=z0oo ns bs ns (0,0) (by rw [zt5]);exact ⟨h1,h2,h3,h4⟩
theorem z0op (ns:List Int) (bs:List Block):z0py ns bs=(z95 ns bs).1:=rfl
theorem zt6 {b:Block} (h:zd b=0):1≤b.work:=by
 have:=(zc2 h).1;unfold z44 at this;omega
theorem z68 {t:Tree} {name:Int} {b:Block} (h:z0y t name b=0):zx t=0∧(1≤name∧name≤120)∧zd b=0∧idx t.names name<0∧z1h t.names t.blocks b t.names.length=0∧t.names.length<24:=by
 unfold z0y at h
 by_cases h1:zx t≠0
 ·rw [if_pos h1] at h;exact absurd h h1
 ·rw [if_neg h1] at h
  by_cases h2:z91 name=true
  ·rw [if_pos h2] at h;cases h
  ·rw [if_neg h2] at h
   by_cases h3:zd b≠0
   ·rw [if_pos h3] at h;exact absurd h h3
   ·rw [if_neg h3] at h
    by_cases h4:z2u t.names name=true
    ·rw [if_pos h4] at h;cases h
    ·rw [if_neg h4] at h
     by_cases h5:z1h t.names t.blocks b t.names.length≠0
     ·rw [if_pos h5] at h;exact absurd h h5
     ·rw [if_neg h5] at h
      by_cases h6:(t.names.length:Int)=24
      ·rw [if_pos h6] at h;cases h
      ·have ok:=(z03 t.names t.blocks).1 (by simpa using h1)
       have:=ok.le;have h7:¬ 0≤idx t.names name:=fun hc=>h4 ((zel _ _).2 hc)
       exact ⟨by simpa using h1,by simp [z91] at h2;omega,by simpa using h3,by omega,by simpa using h5,by omega⟩
theorem zf1 {bs:List Block} {b:Block} {i:Int} (h0:0≤i) (h:i<bs.length):z08 (bs++[b]) i=z08 bs i:=by
 unfold z08;rw [zY0j (by omega)]
theorem zb6 {t:Tree} {name:Int} {b:Block} (h:z0y t name b=0):TreeOK (t.names++[name]) (t.blocks++[b]):=by
 obtain ⟨h1,h2,h3,h4,h5,h6⟩:=z68 h;have ok:=(z03 t.names t.blocks).1 h1;have hst:∀ k c,k≤t.names.length→z1h (t.names++[name]) (t.blocks++[b]) c k=z1h t.names t.blocks c k:=by
  intro k c hk;unfold z1h;rw [zY13 hk]
  by_cases hc:c.parent=0
  ·rw [if_pos hc,if_pos hc]
  ·rw [if_neg hc,if_neg hc]
   by_cases hi:idx (t.names.take k) c.parent<0
   ·rw [if_pos hi,if_pos hi]
   ·rw [if_neg hi,if_neg hi]
    obtain ⟨j,hj,hjs⟩:=z8f (show 0≤idx (t.names.take k) c.parent by omega);have hlt:=(zY02.1 hjs).1;rw [zY0d] at hlt;rw [zf1 (by omega) (by have:=ok.len;omega)]
 refine ⟨by simp [ok.len],by simp;omega,fun k hk=>?_⟩;rw [zY04,zY19] at hk;rcases zY1n k t.names.length with hlt|hge
 ·have:=ok.step k hlt
  have e1:z0d (t.names++[name]) k=z0d t.names k:=by unfold z0d;rw [zY0j hlt]
  have e2:z08 (t.blocks++[b]) (k:Int)=z08 t.blocks k:=zf1 (by omega) (by have:=ok.len;omega);rw [e1,e2];unfold z5r at this ⊢;rw [hst _ _ (by omega),zY13 (by omega)];exact this
 ·obtain rfl:k=t.names.length:=by omega
  have e1:z0d (t.names++[name]) t.names.length=name:=by simp [z0d]
  have e2:z08 (t.blocks++[b]) (t.names.length:Int)=b:=by simp [z08,ok.len]
  rw [e1,e2];unfold z5r;rw [hst _ _ (zY0p _),zY13 (zY0p _),zY2n,if_neg (by omega),if_neg (by simp [h3]),if_neg (fun hc=>by have:=(zel _ _).1 hc;omega)];exact h5
theorem z9i {t:Tree} {name:Int} {b:Block} (ok:TreeOK t.names t.blocks):SubT t.names t.blocks (t.names++[name]) (t.blocks++[b]):=by
 intro m hm;have e:=z45 (List.prefix_append t.names [name]) hm;obtain ⟨j,hj,hjs⟩:=z8f hm;have hlt:=(zY02.1 hjs).1;refine ⟨by omega,?_⟩;unfold z9s;rw [e,zf1 hm (by have:=ok.len;omega)]
theorem z0s4 {l:List Int} {x:Int} (h:idx l x<0):idx (l++[x]) x=l.length:=by
 have key:∀ (l:List Int) (k:Nat),x ∉ l→z1m x (l++[x]) k=k+l.length:=by
  intro l
  induction l with
  | nil=>intro k _;simp [z1m]
  | cons y l ih =>
   intro k hx;simp only [zY0f,not_or] at hx;rw [zY1a,z1m,if_neg hx.1,ih _ hx.2];simp;omega
 have:=key l 0 (fun hc=>by have:=(z0v l x).2 hc;omega);unfold idx;rw [this];simp
theorem z6i {t:Tree} {name:Int} {b:Block} (ok:TreeOK t.names t.blocks) (h:idx t.names name<0):0≤idx (t.names++[name]) name∧z9s (t.names++[name]) (t.blocks++[b]) name=b:=by
 unfold z9s;rw [z0s4 h];refine ⟨by omega,?_⟩;simp [z08,ok.len]
theorem z0oq {t:Tree} {m:Int} (h:zx t=0) (hm:m=0∨0≤idx t.names m):z4l t m=(z0s t.names t.blocks m,0):=by
 unfold z4l;rw [if_neg (by simp [h]),if_neg (by omega)]
theorem z0or {t:Tree} {m:Int} (h:zx t=0) (hm:m=0∨0≤idx t.names m):z80 t m=(pw t.names t.blocks m,0):=by
 unfold z80;rw [z0oq h hm,if_neg (by simp)];rfl
theorem z0am {ns:List Int} (bs:List Block):(z95 ns bs).1=0∨0≤idx ns (z95 ns bs).1:=(zft ns bs).2.2.1.imp id fun h=>(z0v _ _).2 h
end
section
open Go.RowKit
theorem zc9 {ns:List Int} {bs:List Block} (ok:TreeOK ns bs):ns.Nodup:=by
 rw [List.nodup_iff_pairwise_ne,zY22];intro i j hi hj hij e;have h:=(z9d (ok.step j hj)).2.2.1;apply h;have e2:z0d ns j=ns[j]:=by simp [z0d,zY03 hj]
 rw [e2,← e];exact List.mem_iff_getElem.2 ⟨i,by simp;omega,by simp⟩
theorem zf2 {ns:List Int} {bs:List Block} (ok:TreeOK ns bs) {k:Nat} (hk:k<ns.length):idx ns (z0d ns k)=k:=by
 have e2:z0d ns k=ns[k]:=by simp [z0d,zY03 hk]
 have hm:0≤idx ns (z0d ns k):=(z0v _ _).2 (by rw [e2];exact zY1l hk);obtain ⟨j,hj,hjs⟩:=z8f hm;have hlt:=(zY02.1 hjs).1;have hn:=zc9 ok;rw [List.nodup_iff_pairwise_ne,zY22] at hn;have e3:ns[j]=ns[k]:=by rw [← e2];exact (zY02.1 hjs).2
 rcases Nat.lt_trichotomy j k with h|h|h
 ·exact absurd e3 (hn j k hlt hk h)
 ·rw [hj,h]
 ·exact absurd e3.symm (hn k j hk hlt h)
theorem zns {l m:List Int} (h:l.Nodup) (hs:∀ x ∈ l,x ∈ m):l.length≤m.length:=by
 induction l generalizing m with
 | nil=>simp
 | cons x l ih =>
  rw [List.nodup_cons] at h;have hx:=hs x (zY0b ..);have:=ih (m:=m.erase x) h.2 fun y hy=>(List.mem_erase_of_ne (show y≠x from fun e=>h.1 (by rw [← e];exact hy))).2 (hs y (zY08 _ hy))
  rw [List.length_erase_of_mem hx] at this;have:=List.length_pos_of_mem hx;simp;omega
structure InT (t u:Tree):Prop where
 ok:TreeOK u.names u.blocks
 sub:SubT u.names u.blocks t.names t.blocks
theorem InT.nil (t:Tree):InT t ⟨[],[]⟩:=⟨⟨rfl,by simp,fun k hk=>by simp at hk⟩,fun m hm=>by simp [idx,z1m] at hm⟩
theorem z0os {ns:List Int} {bs:List Block} (ok:TreeOK ns bs) {k:Nat} (hk:k<ns.length):z9s ns bs (z0d ns k)=z08 bs k:=by unfold z9s;rw [zf2 ok hk]
theorem InT.next {t u:Tree} (h:InT t u) (okt:TreeOK t.names t.blocks) {k:Nat} (hk:k<t.names.length) (he:z0y u (z0d t.names k) (z08 t.blocks k)=0):InT t ⟨u.names++[z0d t.names k],u.blocks++[z08 t.blocks k]⟩:=by
 refine ⟨zb6 he,fun m hm=>?_⟩;obtain ⟨h1,h2,h3,h4,h5,h6⟩:=z68 he;have hm':=(z0v _ _).1 hm;rcases zY0w.1 hm' with h7|h7
 ·have h8:=(z0v _ _).2 h7
  have:=z9i (name:=z0d t.names k) (b:=z08 t.blocks k) h.ok m h8;have h9:=h.sub m h8;exact ⟨h9.1,this.2.symm.trans h9.2⟩
 ·simp only [zY0y] at h7
  subst h7;refine ⟨by rw [zf2 okt hk];omega,?_⟩;rw [z0os okt hk];exact (z6i h.ok h4).2
theorem InT.there {t u:Tree} (h:InT t u) (okt:TreeOK t.names t.blocks) {k:Nat} (hk:k<t.names.length) (ha:∀ j,j<k→0≤idx u.names (z0d t.names j)) (he:z0y u (z0d t.names k) (z08 t.blocks k)≠0):0≤idx u.names (z0d t.names k):=by
 apply Classical.byContradiction;intro hno;apply he;have hst:=z9d (okt.step k hk);obtain ⟨s1,s2,s3,s4⟩:=hst;unfold z0y;rw [if_neg (by simp [(z03 u.names u.blocks).2 h.ok]),if_neg (by simp [z91];omega),if_neg (by simp [s2]),if_neg (fun hc=>hno ((zel _ _).1 hc))];have h5:z1h u.names u.blocks (z08 t.blocks k) u.names.length=0:=by
  unfold z1h;rw [zY2n];rcases zdg s4 with ⟨p1,p2⟩|⟨p1,j,p2,p3,p4,p5⟩
  ·rw [if_pos p1,if_neg (by simp [p2])]
  ·rw [if_neg p1]
   have e:z0d t.names j=(z08 t.blocks k).parent:=by simp [z0d,p4]
   have h6:=ha j p2;rw [e] at h6;rw [if_neg (by omega)];have h7:=(h.sub _ h6).2;unfold z9s at h7;rw [h7,p3,if_neg (by simp [p5])]
 rw [if_neg (by simp [h5]),if_neg];intro h24;have hn:=zc9 h.ok;have:(z0d t.names k::u.names).length≤t.names.length:=by
  apply zns
  ·rw [List.nodup_cons]
   exact ⟨fun hm=>hno ((z0v _ _).2 hm),hn⟩
  ·intro x hx
   rcases zY0f.1 hx with rfl|hx
   ·exact (z0v _ _).1 (by rw [zf2 okt hk];omega)
   ·exact (z0v _ _).1 (h.sub x ((z0v _ _).2 hx)).1
 have:=okt.le;simp at *;omega
structure AllT (t u:Tree):Prop where
 i:InT t u
 all:∀ j,j<t.names.length→0≤idx u.names (z0d t.names j)
theorem AllT.back {t u:Tree} (h:AllT t u) (okt:TreeOK t.names t.blocks):SubT t.names t.blocks u.names u.blocks:=by
 intro m hm;obtain ⟨j,hj,hjs⟩:=z8f hm;have hlt:=(zY02.1 hjs).1;have e:z0d t.names j=m:=by simp [z0d,hjs]
 have h1:=h.all j hlt;rw [e] at h1;exact ⟨h1,((h.i.sub m h1).2).symm⟩
theorem AllT.len {t u:Tree} (h:AllT t u) (okt:TreeOK t.names t.blocks):u.names.length=t.names.length:=by
 have h1:=zns (zc9 h.i.ok) (m:=t.names) fun x hx=>(z0v _ _).1 (h.i.sub x ((z0v _ _).2 hx)).1
 have h2:=zns (zc9 okt) (m:=u.names) fun x hx=>(z0v _ _).1 (h.back okt x ((z0v _ _).2 hx)).1
 omega
def nextT (u:Tree) (n:Int) (b:Block):Tree:=if z0y u n b=0 then ⟨u.names++[n],u.blocks++[b]⟩ else u
theorem InT.nextT {t u:Tree} (h:InT t u) (okt:TreeOK t.names t.blocks) {k:Nat} (hk:k<t.names.length):InT t (Proofs.YtiblpmghkcfgdaaGreatDoor.nextT u (z0d t.names k) (z08 t.blocks k)):=by
 unfold Proofs.YtiblpmghkcfgdaaGreatDoor.nextT
 split
 ·exact h.next okt hk (by assumption)
 ·exact h
end
end Go.Proofs.YtiblpmghkcfgdaaGreatDoor
