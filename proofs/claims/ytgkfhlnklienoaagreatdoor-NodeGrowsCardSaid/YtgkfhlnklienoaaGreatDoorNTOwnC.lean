/- Own texts, put together by wip/bundle.py: Copy, Copy2, Add, Work, PathR, TreeSub, TreeOrd. -/
import Derived.Outline
import Derived.Deep.DeepCutAuto
import Derived.Test.YtgkfhlnklienoaaGreatDoorNTOwnB
set_option linter.unusedVariables false
set_option linter.unusedSimpArgs false
namespace Go.Proofs.YtgkfhlnklienoaaGreatDoor
section
open Go.RowKit
set_option maxRecDepth 100000
structure TxSmall (t:Tx):Prop where
 ins:t.ins.length≤1000
 outs:t.outs.length≤1000
 key:∀ x ∈ t.ins,x.key.length≤1000000
 lock:∀ x ∈ t.outs,x.lock.length≤1000000
structure BlockSmall (b:Block):Prop where
 txs:b.txs.length≤1000
 each:∀ t ∈ b.txs,TxSmall t
structure TreeSmall (t:Tree):Prop where
 names:t.names.length≤1000
 blocks:t.blocks.length≤1000
 each:∀ b ∈ t.blocks,BlockSmall b
end
section
open Go.RowKit
set_option maxRecDepth 100000
end
section
open Go.RowKit
set_option maxRecDepth 100000
theorem zf8 {l:List Op} (h:zk l=0):l.length≤1000000:=by
 unfold zk at h
 split at h
 ·cases h
 ·omega
theorem z03d {l seen:List In} (h:z3u l seen=0):∀ x ∈ l,x.key.length≤1000000:=by
 induction l generalizing seen with
 | nil=>intro x hx;cases hx
 | cons y l ih =>
  rw [z3u] at h
  by_cases h1:z68 y≠0
  ·rw [if_pos h1] at h;exact absurd h h1
  ·rw [if_neg h1] at h
   by_cases h2:0≤z7t seen y.p 0
   ·rw [if_pos h2] at h;cases h
   ·rw [if_neg h2] at h
    intro x hx
    rcases List.mem_cons.1 hx with rfl|hx
    ·have h3:z68 x=0:=by simpa using h1
     unfold z68 at h3
     split at h3
     ·cases h3
     ·exact zf8 h3
    ·exact ih h x hx
theorem zzb {l:List Out} (h:z3b l=0):∀ x ∈ l,x.lock.length≤1000000:=by
 induction l with
 | nil=>intro x hx;cases hx
 | cons y l ih =>
  rw [z3b] at h
  by_cases h1:z6g y≠0
  ·rw [if_pos h1] at h;exact absurd h h1
  ·rw [if_neg h1] at h
   intro x hx
   rcases List.mem_cons.1 hx with rfl|hx
   ·have h3:z6g x=0:=by simpa using h1
    unfold z6g at h3
    split at h3
    ·cases h3
    ·exact zf8 h3
   ·exact ih h x hx
theorem z6j {t:Tx} (h:zl t=0):TxSmall t:=by
 unfold zl at h
 by_cases h1:z2i t≠0
 ·rw [if_pos h1] at h;exact absurd h h1
 ·rw [if_neg h1] at h
  by_cases h2:z3u t.ins []≠0
  ·rw [if_pos h2] at h;exact absurd h h2
  ·rw [if_neg h2] at h
   by_cases h3:z3b t.outs≠0
   ·rw [if_pos h3] at h;exact absurd h h3
   ·have h4:z2i t=0:=by simpa using h1
    unfold z2i at h4
    split at h4
    ·cases h4
    ·rename_i h5
     exact ⟨by omega,by omega,z03d (by simpa using h2),zzb (by simpa using h3)⟩
theorem z8g {t:Tree} (h:zy t=0):∀ b ∈ t.blocks,za b=0:=by
 obtain ⟨ns,bs⟩:=t
 have ok:=(z02 ns bs).1 h
 intro b hb
 obtain ⟨k,hk⟩:=List.getElem?_of_mem hb
 have hlt:=(List.getElem?_eq_some_iff.1 hk).1
 have:=(z6q (ok.step k (by have:=ok.len;simp only at hlt;omega))).2.1
 rwa [show z01 bs (k:Int)=b by simp [z01,hk]] at this
def z5y (n:Int):Bool:=decide (n<1∨120<n)
def z0g (t:Tree) (name:Int) (b:Block):Int :=
 if zy t≠0 then zy t else if z5y name=true then 3 else if za b≠0 then za b else if z2c t.names name=true then 6 else if z0m t.names t.blocks b t.names.length≠0 then z0m t.names t.blocks b t.names.length else if (t.names.length:Int)=24 then 12 else 0
def z23 (t:Tree) (name:Int) (b:Block):Tree:=if z0g t name b=0 then ⟨t.names++[name],t.blocks++[b]⟩ else ⟨[],[]⟩
end
section
open Go.RowKit
set_option maxRecDepth 100000
def z1p (ns:List Int) (bs:List Block):List Int→Int
 | []=>0
 | m::l=>(z01 bs (idx ns m)).work+z1p ns bs l
theorem zid (ns:List Int) (bs:List Block) (l r:List Int):z1p ns bs (l++r)=z1p ns bs l+z1p ns bs r:=by
 induction l with
 | nil=>simp [z1p]
 | cons x l ih=>simp only [List.cons_append,z1p,ih];omega
theorem zt7 {b:Block} (h:za b=0):0≤b.work∧b.work≤1000:=by
 have:=(zee h).1
 unfold z3p at this
 omega
def z15 (ns:List Int) (bs:List Block) (p:Int × Int) (n:Int):Int × Int:=if p.2<z1p ns bs (z0n ns bs n)∨(z1p ns bs (z0n ns bs n)=p.2∧n<p.1) then (n,z1p ns bs (z0n ns bs n)) else p
def z0fo (ns:List Int) (bs:List Block):Int:=(ns.foldl (z15 ns bs) (0,0)).1
def z0v (t:Tree):Int × Int:=if zy t≠0 then (0,zy t) else (z0fo t.names t.blocks,0)
def z8h (t:Tree) (m:Int):Int × Int:=if (z3x t m).2≠0 then (0,(z3x t m).2) else (z1p t.names t.blocks (z3x t m).1,0)
theorem z8l {ns:List Int} {bs:List Block} (ok:TreeOK ns bs) {m:Int} (hm:m=0∨0≤idx ns m):∀ v ∈ z0n ns bs m,0≤idx ns v:=by
 intro v hv
 obtain ⟨k,hk⟩:=List.getElem?_of_mem hv
 exact (z07t ok _ (Nat.le_refl _) hm hk).2
theorem zb4 {ns:List Int} {bs:List Block} (ok:TreeOK ns bs) {m:Int} (hm:m=0∨0≤idx ns m):(z0n ns bs m).length≤24:=by
 have h1:∀ r,∀ m:Int,z4k ns m≤r→(m=0∨0≤idx ns m)→(z0n ns bs m).length≤z4k ns m:=by
  intro r
  induction r with
  | zero =>
   intro m hr hm
   rcases hm with h|h
   ·rw [h,z1g];simp
   ·have:=(z2b ok h).2.2;omega
  | succ r ih =>
   intro m hr hm
   rcases hm with h|h
   ·rw [h,z1g];simp
   ·obtain ⟨e,hp,hl⟩:=z2b ok h
    have:=ih _ (by omega) hp
    rw [e];simp;omega
 have:=h1 _ m (Nat.le_refl _) hm
 have:=z05z ok hm
 have:=ok.le
 omega
def z6k:Block:=⟨0,0,0,0,[]⟩
def z1e (t:Tree) (m:Int):Int:=if zy t≠0 then zy t else if idx t.names m<0 then 5 else 0
def z0h (t:Tree) (m:Int):Block:=if z1e t m=0 then z01 t.blocks (idx t.names m) else z6k
end
section
open Go.RowKit
set_option maxRecDepth 100000
theorem zzc {g:Nat}:∀ (vs:List Value) (i:Nat) (w:World) (b:Nat),b≠g→(w.setCells g i vs).heap[b]? = w.heap[b]?:=by
 intro vs
 induction vs with
 | nil=>intro i w b hb;rfl
 | cons v vs ih=>intro i w b hb;rw [World.setCells,ih _ _ _ hb];exact Below.heap_setCell _ _ _ _ hb
theorem zt8 {g:Nat}:∀ (vs:List Value) (i:Nat) (w:World),(w.setCells g i vs).heap.size=w.heap.size∧(w.setCells g i vs).os=w.os∧(w.setCells g i vs).tape=w.tape∧(w.setCells g i vs).output=w.output:=by
 intro vs
 induction vs with
 | nil=>intro i w;exact ⟨rfl,rfl,rfl,rfl⟩
 | cons v vs ih=>intro i w;rw [World.setCells];obtain ⟨a1,a2,a3,a4⟩:=ih (i+1) (w.setCell ⟨g,i,none⟩ v);exact ⟨by rw [a1];simp [World.setCell],a2,a3,a4⟩
end
section
open Go.RowKit
def z54 (ns:List Int) (bs:List Block) (m:Int):Block:=z01 bs (idx ns m)
def SubT (ns:List Int) (bs:List Block) (ns':List Int) (bs':List Block):Prop:=∀ m,0≤idx ns m→0≤idx ns' m∧z54 ns bs m=z54 ns' bs' m
theorem SubT.parent {ns ns':List Int} {bs bs':List Block} (h:SubT ns bs ns' bs') {m:Int} (hm:0≤idx ns m):z0e ns bs m=z0e ns' bs' m:=congrArg Block.parent (h m hm).2
theorem SubT.path {ns ns':List Int} {bs bs':List Block} (h:SubT ns bs ns' bs') (ok:TreeOK ns bs) (ok':TreeOK ns' bs') (r:Nat) {m:Int} (hr:z4k ns m≤r) (hm:m=0∨0≤idx ns m):z0n ns bs m=z0n ns' bs' m:=by
 induction r generalizing m with
 | zero =>
  rcases hm with h0|h0
  ·rw [h0,z1g,z1g]
  ·have:=(z2b ok h0).2.2;omega
 | succ r ih =>
  rcases hm with h0|h0
  ·rw [h0,z1g,z1g]
  ·obtain ⟨e,hp,hl⟩:=z2b ok h0
   rw [e,(z2b ok' (h m h0).1).1,← h.parent h0,ih (by omega) hp]
theorem SubT.paths {ns ns':List Int} {bs bs':List Block} (h:SubT ns bs ns' bs') (ok:TreeOK ns bs) (ok':TreeOK ns' bs') {m:Int} (hm:m=0∨0≤idx ns m):z0n ns bs m=z0n ns' bs' m:=h.path ok ok' _ (Nat.le_refl _) hm
theorem SubT.work {ns ns':List Int} {bs bs':List Block} (h:SubT ns bs ns' bs') (l:List Int) (hl:∀ m ∈ l,0≤idx ns m):z1p ns bs l=z1p ns' bs' l:=by
 induction l with
 | nil=>rfl
 | cons x l ih =>
  simp only [z1p]
  rw [ih fun m hm=>hl m (List.mem_cons_of_mem _ hm)]
  have:=(h x (hl x (List.mem_cons_self ..))).2
  unfold z54 at this
  rw [this]
def pw (ns:List Int) (bs:List Block) (m:Int):Int:=z1p ns bs (z0n ns bs m)
theorem SubT.pw {ns ns':List Int} {bs bs':List Block} (h:SubT ns bs ns' bs') (ok:TreeOK ns bs) (ok':TreeOK ns' bs') {m:Int} (hm:m=0∨0≤idx ns m):Proofs.YtgkfhlnklienoaaGreatDoor.pw ns bs m=Proofs.YtgkfhlnklienoaaGreatDoor.pw ns' bs' m:=by
 unfold Proofs.YtgkfhlnklienoaaGreatDoor.pw
 rw [h.work _ (z8l ok hm),h.paths ok ok' hm]
theorem zcl (ns:List Int) (bs:List Block):pw ns bs 0=0:=by unfold pw;rw [z1g];rfl
theorem z0f2 (ns:List Int) (bs:List Block) (l:List Int):∀ (p:Int × Int),p.2=pw ns bs p.1→(l.foldl (z15 ns bs) p).2=pw ns bs (l.foldl (z15 ns bs) p).1 ∧
  p.2≤(l.foldl (z15 ns bs) p).2∧((l.foldl (z15 ns bs) p).1=p.1∨(l.foldl (z15 ns bs) p).1 ∈ l)∧(∀ n ∈ l,pw ns bs n≤(l.foldl (z15 ns bs) p).2∧(pw ns bs n=(l.foldl (z15 ns bs) p).2→(l.foldl (z15 ns bs) p).1≤n)) ∧
  (p.2=(l.foldl (z15 ns bs) p).2→(l.foldl (z15 ns bs) p).1≤p.1):=by
 induction l with
 | nil=>intro p hp;exact ⟨hp,Int.le_refl _,.inl rfl,by simp,fun _=>Int.le_refl _⟩
 | cons x l ih =>
  intro p hp
  rw [List.foldl_cons]
  have hq:(z15 ns bs p x).2=pw ns bs (z15 ns bs p x).1∧p.2≤(z15 ns bs p x).2∧((z15 ns bs p x).1=p.1∨(z15 ns bs p x).1=x)∧pw ns bs x≤(z15 ns bs p x).2∧(pw ns bs x=(z15 ns bs p x).2→(z15 ns bs p x).1≤x)∧(p.2=(z15 ns bs p x).2→(z15 ns bs p x).1≤p.1):=by
   unfold z15
   have e:z1p ns bs (z0n ns bs x)=pw ns bs x:=rfl
   rw [e]
   split
   ·rename_i h
    refine ⟨rfl,by simp only;omega,.inr rfl,by simp,by simp,?_⟩
    simp only;intro h3;omega
   ·rename_i h
    refine ⟨hp,Int.le_refl _,.inl rfl,by omega,?_,fun _=>Int.le_refl _⟩
    intro h3;omega
  obtain ⟨q1,q2,q3,q4,q5,q6⟩:=hq
  obtain ⟨i1,i2,i3,i4,i5⟩:=ih _ q1
  refine ⟨i1,by omega,?_,?_,?_⟩
  ·rcases i3 with h|h
   ·rw [h]
    rcases q3 with h'|h'
    ·exact .inl h'
    ·rw [h'];exact .inr (List.mem_cons_self ..)
   ·exact .inr (List.mem_cons_of_mem _ h)
  ·intro n hn
   rcases List.mem_cons.1 hn with rfl|hn
   ·refine ⟨by omega,fun h=>?_⟩
    have:=i5 (by omega)
    have:=q5 (by omega)
    omega
   ·exact i4 n hn
  ·intro h
   have:=i5 (by omega)
   have:=q6 (by omega)
   omega
def z4d (ns:List Int) (bs:List Block):Int × Int:=ns.foldl (z15 ns bs) (0,0)
theorem z7l (ns:List Int) (bs:List Block):(z4d ns bs).2=pw ns bs (z4d ns bs).1∧0≤(z4d ns bs).2∧((z4d ns bs).1=0∨(z4d ns bs).1 ∈ ns)∧∀ n ∈ ns,pw ns bs n≤(z4d ns bs).2∧(pw ns bs n=(z4d ns bs).2→(z4d ns bs).1≤n):=by
 obtain ⟨h1,h2,h3,h4,h5⟩:=z0f2 ns bs ns (0,0) (by rw [zcl])
 exact ⟨h1,h2,h3,h4⟩
theorem z0f3 (ns:List Int) (bs:List Block):z0fo ns bs=(z4d ns bs).1:=rfl
theorem zae {b:Block} (h:za b=0):1≤b.work:=by
 have:=(zee h).1
 unfold z3p at this
 omega
theorem z01k {ns:List Int} {bs:List Block} (ok:TreeOK ns bs) {m:Int} (hm:0≤idx ns m):za (z54 ns bs m)=0∧z54 ns bs m ∈ bs:=by
 obtain ⟨j,hj,hjs⟩:=z5h hm
 have hlt:=(List.getElem?_eq_some_iff.1 hjs).1
 have:=(z6q (ok.step j hlt)).2.1
 unfold z54
 rw [hj]
 refine ⟨this,?_⟩
 have hl:j<bs.length:=by have:=ok.len;omega
 simp [z01,List.getElem?_eq_getElem hl]
theorem z01l {ns:List Int} {bs:List Block} (ok:TreeOK ns bs) (l:List Int) (hl:∀ m ∈ l,0≤idx ns m):0≤z1p ns bs l:=by
 induction l with
 | nil=>simp [z1p]
 | cons x l ih =>
  have:=ih fun m hm=>hl m (List.mem_cons_of_mem _ hm)
  have h2:=zae (z01k ok (hl x (List.mem_cons_self ..))).1
  unfold z54 at h2
  simp only [z1p];omega
theorem z0jv {ns:List Int} {bs:List Block} (ok:TreeOK ns bs) {m:Int} (hm:0≤idx ns m):1≤pw ns bs m:=by
 obtain ⟨e,hp,hl⟩:=z2b ok hm
 unfold pw
 rw [e,zid]
 have h1:=z01l ok _ (z8l ok hp)
 have h2:=zae (z01k ok hm).1
 unfold z54 at h2
 simp only [z1p];omega
theorem z0ce {ns ns':List Int} {bs bs':List Block} (h:SubT ns bs ns' bs') (h':SubT ns' bs' ns bs) (ok:TreeOK ns bs) (ok':TreeOK ns' bs'):z4d ns bs=z4d ns' bs':=by
 obtain ⟨a1,a2,a3,a4⟩:=z7l ns bs
 obtain ⟨b1,b2,b3,b4⟩:=z7l ns' bs'
 have hmem:∀ x,x ∈ ns↔x ∈ ns':=fun x=>by rw [← z0b,← z0b];exact ⟨fun hx=>(h x hx).1,fun hx=>(h' x hx).1⟩
 have key:(z4d ns bs).1=(z4d ns' bs').1:=by
  have hz:∀ {ns:List Int} {bs:List Block},TreeOK ns bs→(z4d ns bs).1=0→ns=[]:=by
   intro ns bs ok h0
   obtain ⟨c1,c2,c3,c4⟩:=z7l ns bs
   rw [h0,zcl] at c1
   cases ns with
   | nil=>rfl
   | cons x l =>
    have:=(c4 x (List.mem_cons_self ..)).1
    have h3:=z0jv ok (m:=x) ((z0b _ _).2 (List.mem_cons_self ..))
    omega
  rcases a3 with e|e
  ·rcases b3 with e'|e'
   ·rw [e,e']
   ·have:=hz ok e
    rw [← hmem,this] at e'
    cases e'
  ·rcases b3 with e'|e'
   ·have:=hz ok' e'
    rw [hmem,this] at e
    cases e
   ·have q1:=b4 _ ((hmem _).1 e)
    have q2:=a4 _ ((hmem _).2 e')
    have e1:=h.pw ok ok' (m:=(z4d ns bs).1) (.inr ((z0b _ _).2 e))
    have e2:=h'.pw ok' ok (m:=(z4d ns' bs').1) (.inr ((z0b _ _).2 e'))
    have:=q1.2 (by omega)
    have:=q2.2 (by omega)
    omega
 apply Prod.ext key
 rw [a1,b1,← key]
 rcases a3 with e|e
 ·rw [e,zcl,zcl]
 ·exact h.pw ok ok' (.inr ((z0b _ _).2 e))
theorem z4m {t:Tree} {name:Int} {b:Block} (h:z0g t name b=0):zy t=0∧(1≤name∧name≤120)∧za b=0∧idx t.names name<0∧z0m t.names t.blocks b t.names.length=0∧t.names.length<24:=by
 unfold z0g at h
 by_cases h1:zy t≠0
 ·rw [if_pos h1] at h;exact absurd h h1
 ·rw [if_neg h1] at h
  by_cases h2:z5y name=true
  ·rw [if_pos h2] at h;cases h
  ·rw [if_neg h2] at h
   by_cases h3:za b≠0
   ·rw [if_pos h3] at h;exact absurd h h3
   ·rw [if_neg h3] at h
    by_cases h4:z2c t.names name=true
    ·rw [if_pos h4] at h;cases h
    ·rw [if_neg h4] at h
     by_cases h5:z0m t.names t.blocks b t.names.length≠0
     ·rw [if_pos h5] at h;exact absurd h h5
     ·rw [if_neg h5] at h
      by_cases h6:(t.names.length:Int)=24
      ·rw [if_pos h6] at h;cases h
      ·have ok:=(z02 t.names t.blocks).1 (by simpa using h1)
       have:=ok.le
       have h7:¬ 0≤idx t.names name:=fun hc=>h4 ((z8k _ _).2 hc)
       exact ⟨by simpa using h1,by simp [z5y] at h2;omega,by simpa using h3,by omega,by simpa using h5,by omega⟩
theorem z7m {bs:List Block} {b:Block} {i:Int} (h0:0≤i) (h:i<bs.length):z01 (bs++[b]) i=z01 bs i:=by
 unfold z01
 rw [List.getElem?_append_left (by omega)]
theorem z6e {t:Tree} {name:Int} {b:Block} (h:z0g t name b=0):TreeOK (t.names++[name]) (t.blocks++[b]):=by
 obtain ⟨h1,h2,h3,h4,h5,h6⟩:=z4m h
 have ok:=(z02 t.names t.blocks).1 h1
 have hst:∀ k c,k≤t.names.length→z0m (t.names++[name]) (t.blocks++[b]) c k=z0m t.names t.blocks c k:=by
  intro k c hk
  unfold z0m
  rw [List.take_append_of_le_length hk]
  by_cases hc:c.parent=0
  ·rw [if_pos hc,if_pos hc]
  ·rw [if_neg hc,if_neg hc]
   by_cases hi:idx (t.names.take k) c.parent<0
   ·rw [if_pos hi,if_pos hi]
   ·rw [if_neg hi,if_neg hi]
    obtain ⟨j,hj,hjs⟩:=z5h (show 0≤idx (t.names.take k) c.parent by omega)
    have hlt:=(List.getElem?_eq_some_iff.1 hjs).1
    rw [List.length_take] at hlt
    rw [z7m (by omega) (by have:=ok.len;omega)]
 refine ⟨by simp [ok.len],by simp;omega,fun k hk=>?_⟩
 rw [List.length_append,List.length_singleton] at hk
 rcases Nat.lt_or_ge k t.names.length with hlt|hge
 ·have:=ok.step k hlt
  have e1:z07 (t.names++[name]) k=z07 t.names k:=by unfold z07;rw [List.getElem?_append_left hlt]
  have e2:z01 (t.blocks++[b]) (k:Int)=z01 t.blocks k:=z7m (by omega) (by have:=ok.len;omega)
  rw [e1,e2]
  unfold z52 at this ⊢
  rw [hst _ _ (by omega),List.take_append_of_le_length (by omega)]
  exact this
 ·obtain rfl:k=t.names.length:=by omega
  have e1:z07 (t.names++[name]) t.names.length=name:=by simp [z07]
  have e2:z01 (t.blocks++[b]) (t.names.length:Int)=b:=by simp [z01,ok.len]
  rw [e1,e2]
  unfold z52
  rw [hst _ _ (Nat.le_refl _),List.take_append_of_le_length (Nat.le_refl _),List.take_length,if_neg (by omega),if_neg (by simp [h3]),if_neg (fun hc=>by have:=(z8k _ _).1 hc;omega)]
  exact h5
theorem z40 {t:Tree} {name:Int} {b:Block} (ok:TreeOK t.names t.blocks):SubT t.names t.blocks (t.names++[name]) (t.blocks++[b]):=by
 intro m hm
 have e:=z2a (List.prefix_append t.names [name]) hm
 obtain ⟨j,hj,hjs⟩:=z5h hm
 have hlt:=(List.getElem?_eq_some_iff.1 hjs).1
 refine ⟨by omega,?_⟩
 unfold z54
 rw [e,z7m hm (by have:=ok.len;omega)]
theorem z0ht {l:List Int} {x:Int} (h:idx l x<0):idx (l++[x]) x=l.length:=by
 have key:∀ (l:List Int) (k:Nat),x ∉ l→z1f x (l++[x]) k=k+l.length:=by
  intro l
  induction l with
  | nil=>intro k _;simp [z1f]
  | cons y l ih =>
   intro k hx
   simp only [List.mem_cons,not_or] at hx
   rw [List.cons_append,z1f,if_neg hx.1,ih _ hx.2]
   simp;omega
 have:=key l 0 (fun hc=>by have:=(z0b l x).2 hc;omega)
 unfold idx
 rw [this];simp
theorem z3h {t:Tree} {name:Int} {b:Block} (ok:TreeOK t.names t.blocks) (h:idx t.names name<0):0≤idx (t.names++[name]) name∧z54 (t.names++[name]) (t.blocks++[b]) name=b:=by
 unfold z54
 rw [z0ht h]
 refine ⟨by omega,?_⟩
 simp [z01,ok.len]
theorem z0f4 {t:Tree} {m:Int} (h:zy t=0) (hm:m=0∨0≤idx t.names m):z3x t m=(z0n t.names t.blocks m,0):=by
 unfold z3x
 rw [if_neg (by simp [h]),if_neg (by omega)]
theorem z0f5 {t:Tree} {m:Int} (h:zy t=0) (hm:m=0∨0≤idx t.names m):z8h t m=(pw t.names t.blocks m,0):=by
 unfold z8h
 rw [z0f4 h hm,if_neg (by simp)];rfl
theorem z061 {ns:List Int} (bs:List Block):(z4d ns bs).1=0∨0≤idx ns (z4d ns bs).1:=(z7l ns bs).2.2.1.imp id fun h=>(z0b _ _).2 h
end
section
open Go.RowKit
theorem zau {ns:List Int} {bs:List Block} (ok:TreeOK ns bs):ns.Nodup:=by
 rw [List.nodup_iff_pairwise_ne,List.pairwise_iff_getElem]
 intro i j hi hj hij e
 have h:=(z6q (ok.step j hj)).2.2.1
 apply h
 have e2:z07 ns j=ns[j]:=by simp [z07,List.getElem?_eq_getElem hj]
 rw [e2,← e]
 exact List.mem_iff_getElem.2 ⟨i,by simp;omega,by simp⟩
theorem zdj {ns:List Int} {bs:List Block} (ok:TreeOK ns bs) {k:Nat} (hk:k<ns.length):idx ns (z07 ns k)=k:=by
 have e2:z07 ns k=ns[k]:=by simp [z07,List.getElem?_eq_getElem hk]
 have hm:0≤idx ns (z07 ns k):=(z0b _ _).2 (by rw [e2];exact List.getElem_mem hk)
 obtain ⟨j,hj,hjs⟩:=z5h hm
 have hlt:=(List.getElem?_eq_some_iff.1 hjs).1
 have hn:=zau ok
 rw [List.nodup_iff_pairwise_ne,List.pairwise_iff_getElem] at hn
 have e3:ns[j]=ns[k]:=by rw [← e2];exact (List.getElem?_eq_some_iff.1 hjs).2
 rcases Nat.lt_trichotomy j k with h|h|h
 ·exact absurd e3 (hn j k hlt hk h)
 ·rw [hj,h]
 ·exact absurd e3.symm (hn k j hk hlt h)
theorem zlc {l m:List Int} (h:l.Nodup) (hs:∀ x ∈ l,x ∈ m):l.length≤m.length:=by
 induction l generalizing m with
 | nil=>simp
 | cons x l ih =>
  rw [List.nodup_cons] at h
  have hx:=hs x (List.mem_cons_self ..)
  have:=ih (m:=m.erase x) h.2 fun y hy=>(List.mem_erase_of_ne (show y≠x from fun e=>h.1 (by rw [← e];exact hy))).2 (hs y (List.mem_cons_of_mem _ hy))
  rw [List.length_erase_of_mem hx] at this
  have:=List.length_pos_of_mem hx
  simp;omega
structure InT (t u:Tree):Prop where
 ok:TreeOK u.names u.blocks
 sub:SubT u.names u.blocks t.names t.blocks
theorem InT.nil (t:Tree):InT t ⟨[],[]⟩:=⟨⟨rfl,by simp,fun k hk=>by simp at hk⟩,fun m hm=>by simp [idx,z1f] at hm⟩
theorem z0f6 {ns:List Int} {bs:List Block} (ok:TreeOK ns bs) {k:Nat} (hk:k<ns.length):z54 ns bs (z07 ns k)=z01 bs k:=by unfold z54;rw [zdj ok hk]
theorem InT.next {t u:Tree} (h:InT t u) (okt:TreeOK t.names t.blocks) {k:Nat} (hk:k<t.names.length) (he:z0g u (z07 t.names k) (z01 t.blocks k)=0):InT t ⟨u.names++[z07 t.names k],u.blocks++[z01 t.blocks k]⟩:=by
 refine ⟨z6e he,fun m hm=>?_⟩
 obtain ⟨h1,h2,h3,h4,h5,h6⟩:=z4m he
 have hm':=(z0b _ _).1 hm
 rcases List.mem_append.1 hm' with h7|h7
 ·have h8:=(z0b _ _).2 h7
  have:=z40 (name:=z07 t.names k) (b:=z01 t.blocks k) h.ok m h8
  have h9:=h.sub m h8
  exact ⟨h9.1,this.2.symm.trans h9.2⟩
 ·simp only [List.mem_singleton] at h7
  subst h7
  refine ⟨by rw [zdj okt hk];omega,?_⟩
  rw [z0f6 okt hk]
  exact (z3h h.ok h4).2
theorem InT.there {t u:Tree} (h:InT t u) (okt:TreeOK t.names t.blocks) {k:Nat} (hk:k<t.names.length) (ha:∀ j,j<k→0≤idx u.names (z07 t.names j)) (he:z0g u (z07 t.names k) (z01 t.blocks k)≠0):0≤idx u.names (z07 t.names k):=by
 apply Classical.byContradiction
 intro hno
 apply he
 have hst:=z6q (okt.step k hk)
 obtain ⟨s1,s2,s3,s4⟩:=hst
 unfold z0g
 rw [if_neg (by simp [(z02 u.names u.blocks).2 h.ok]),if_neg (by simp [z5y];omega),if_neg (by simp [s2]),if_neg (fun hc=>hno ((z8k _ _).1 hc))]
 have h5:z0m u.names u.blocks (z01 t.blocks k) u.names.length=0:=by
  unfold z0m
  rw [List.take_length]
  rcases zc2 s4 with ⟨p1,p2⟩|⟨p1,j,p2,p3,p4,p5⟩
  ·rw [if_pos p1,if_neg (by simp [p2])]
  ·rw [if_neg p1]
   have e:z07 t.names j=(z01 t.blocks k).parent:=by simp [z07,p4]
   have h6:=ha j p2
   rw [e] at h6
   rw [if_neg (by omega)]
   have h7:=(h.sub _ h6).2
   unfold z54 at h7
   rw [h7,p3,if_neg (by simp [p5])]
 rw [if_neg (by simp [h5]),if_neg]
 intro h24
 have hn:=zau h.ok
 have:(z07 t.names k::u.names).length≤t.names.length:=by
  apply zlc
  ·rw [List.nodup_cons]
   exact ⟨fun hm=>hno ((z0b _ _).2 hm),hn⟩
  ·intro x hx
   rcases List.mem_cons.1 hx with rfl|hx
   ·exact (z0b _ _).1 (by rw [zdj okt hk];omega)
   ·exact (z0b _ _).1 (h.sub x ((z0b _ _).2 hx)).1
 have:=okt.le
 simp at *
 omega
structure AllT (t u:Tree):Prop where
 i:InT t u
 all:∀ j,j<t.names.length→0≤idx u.names (z07 t.names j)
theorem AllT.back {t u:Tree} (h:AllT t u) (okt:TreeOK t.names t.blocks):SubT t.names t.blocks u.names u.blocks:=by
 intro m hm
 obtain ⟨j,hj,hjs⟩:=z5h hm
 have hlt:=(List.getElem?_eq_some_iff.1 hjs).1
 have e:z07 t.names j=m:=by simp [z07,hjs]
 have h1:=h.all j hlt
 rw [e] at h1
 exact ⟨h1,((h.i.sub m h1).2).symm⟩
theorem AllT.len {t u:Tree} (h:AllT t u) (okt:TreeOK t.names t.blocks):u.names.length=t.names.length:=by
 have h1:=zlc (zau h.i.ok) (m:=t.names) fun x hx=>(z0b _ _).1 (h.i.sub x ((z0b _ _).2 hx)).1
 have h2:=zlc (zau okt) (m:=u.names) fun x hx=>(z0b _ _).1 (h.back okt x ((z0b _ _).2 hx)).1
 omega
def nextT (u:Tree) (n:Int) (b:Block):Tree:=if z0g u n b=0 then ⟨u.names++[n],u.blocks++[b]⟩ else u
theorem InT.nextT {t u:Tree} (h:InT t u) (okt:TreeOK t.names t.blocks) {k:Nat} (hk:k<t.names.length):InT t (Proofs.YtgkfhlnklienoaaGreatDoor.nextT u (z07 t.names k) (z01 t.blocks k)):=by
 unfold Proofs.YtgkfhlnklienoaaGreatDoor.nextT
 split
 ·exact h.next okt hk (by assumption)
 ·exact h
end
end Go.Proofs.YtgkfhlnklienoaaGreatDoor
