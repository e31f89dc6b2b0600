/- Own texts, put together by wip/bundle.py: VPU, VPB, VC2, VC4, VC3, VC5, VB8, VW21. -/
import Derived.Test.YtgkfhlnklienoaaGreatDoorBPOwnB
import Derived.Test.YtgkfhlnklienoaaGreatDoorBPOwnC
import Derived.Test.YtgkfhlnklienoaaGreatDoorBPOwnR
import Derived.Test.YtgkfhlnklienoaaGreatDoorBPOwnS
import Derived.Test.YtgkfhlnklienoaaGreatDoorBPOwnV2
import Derived.Test.YtgkfhlnklienoaaGreatDoorBPOwnZ2
set_option linter.unusedVariables false
set_option linter.unusedSimpArgs false
namespace Go.Proofs.YtgkfhlnklienoaaGreatDoor
section
open Go.RowKit
theorem hasP_mem {l:List Coin} {p:Point}:z2g l p=true↔∃ c ∈ l,c.p=p:=by
 unfold z2g
 rw [List.any_eq_true]
 constructor
 ·rintro ⟨c,hc,h⟩;exact ⟨c,hc,of_decide_eq_true h⟩
 ·rintro ⟨c,hc,h⟩;exact ⟨c,hc,decide_eq_true h⟩
theorem hasP_not {l:List Coin} {p:Point}:z2g l p=false↔∀ c ∈ l,c.p≠p:=by
 rw [← Bool.not_eq_true,hasP_mem]
 constructor
 ·intro h c hc he;exact h ⟨c,hc,he⟩
 ·rintro h ⟨c,hc,he⟩;exact h c hc he
theorem zhk {l:List Coin} (h:z05 l) {c d:Coin} (hc:c ∈ l) (hd:d ∈ l) (hp:c.p=d.p):c=d:=by
 obtain ⟨i,hi,rfl⟩:=List.getElem_of_mem hc
 obtain ⟨j,hj,rfl⟩:=List.getElem_of_mem hd
 rcases Nat.lt_trichotomy i j with hij|rfl|hij
 ·have:=z7l h hij hj;rw [hp] at this;exact absurd this (z83 _)
 ·rfl
 ·have:=z7l h hij hi;rw [hp] at this;exact absurd this (z83 _)
theorem z08r {l:List Coin} (h:z05 l) {c:Coin} (hc:c ∈ l):l[zm l c.p]? = some c:=by
 obtain ⟨hlt,hp⟩:=(zi3 h c.p).1 (hasP_mem.2 ⟨c,hc,rfl⟩)
 rw [List.getElem?_eq_getElem hlt]
 exact congrArg some (zhk h (List.getElem_mem hlt) hc hp)
theorem z0ea {l:List Coin} (h:z05 l) {p:Point} (hp:z2g l p=true):∃ c,l[zm l p]? = some c∧c ∈ l∧c.p=p:=by
 obtain ⟨c,hc,rfl⟩:=hasP_mem.1 hp
 exact ⟨c,z08r h hc,hc,rfl⟩
theorem z03c {l:List Coin} (h:z05 l) {c:Coin} {k:Nat} (hk:l[k]? = some c) {d:Coin}:d ∈ l.take k++l.drop (k+1)↔d ∈ l∧d.p≠c.p:=by
 obtain ⟨hlt,rfl⟩:=List.getElem?_eq_some_iff.1 hk
 have hsplit:l=l.take k++l[k]::l.drop (k+1):=by rw [List.getElem_cons_drop,List.take_append_drop]
 have hs:z05 (l.take k++l[k]::l.drop (k+1)):=by rw [← hsplit];exact h
 obtain ⟨_,h2,h3⟩:=List.pairwise_append.1 hs
 have h2':=List.pairwise_cons.1 h2
 constructor
 ·intro hd
  refine ⟨?_,?_⟩
  ·rcases List.mem_append.1 hd with hd|hd
   ·exact List.mem_of_mem_take hd
   ·exact List.mem_of_mem_drop hd
  ·rcases List.mem_append.1 hd with hd|hd
   ·intro e;have:=h3 d hd l[k] (List.mem_cons_self ..);rw [e] at this;exact z83 _ this
   ·intro e;have:=h2'.1 d hd;rw [e] at this;exact z83 _ this
 ·rintro ⟨hd,hne⟩
  rw [hsplit] at hd
  rcases List.mem_append.1 hd with hd|hd
  ·exact List.mem_append_left _ hd
  ·rcases List.mem_cons.1 hd with rfl|hd
   ·exact absurd rfl hne
   ·exact List.mem_append_right _ hd
theorem put_mem {l:List Coin} {c d:Coin} {k:Nat}:d ∈ l.take k++[c]++l.drop k↔d=c∨d ∈ l:=by
 have:d ∈ l↔d ∈ l.take k∨d ∈ l.drop k:=by rw [← List.mem_append,List.take_append_drop]
 rw [List.mem_append,List.mem_append,List.mem_singleton,this]
 constructor
 ·rintro ((h|h)|h)
  ·exact .inr (.inl h)
  ·exact .inl h
  ·exact .inr (.inr h)
 ·rintro (h|h|h)
  ·exact .inl (.inr h)
  ·exact .inl (.inl h)
  ·exact .inr h
theorem z08s {l:List Coin} {c:Coin} {k:Nat} (hk:l[k]? = some c):zj l=zj (l.take k++l.drop (k+1))+c.o.coin:=by
 obtain ⟨hlt,rfl⟩:=List.getElem?_eq_some_iff.1 hk
 have hsplit:l=l.take k++l[k]::l.drop (k+1):=by rw [List.getElem_cons_drop,List.take_append_drop]
 have e:zj l=zj (l.take k++l[k]::l.drop (k+1)):=by rw [← hsplit]
 rw [e,z3w,z3w,zj]
 omega
theorem z08t {l:List Coin} {c:Coin} {k:Nat}:zj (l.take k++[c]++l.drop k)=zj l+c.o.coin:=by
 have e:zj l=zj (l.take k++l.drop k):=by rw [List.take_append_drop]
 rw [e,z3w,z3w,z3w,zj,zj]
 omega
structure Fine (h:Int) (x:In) (c:Coin):Prop where
 p:c.p=x.p
 ripe:c.reward=true→c.height+2≤h
 opens:(z38 c.o.lock x.key h).1=true
inductive Spent (h:Int):List Coin→List Coin→List In→List Coin→List Coin→Prop
 | nil (r s):Spent h r s [] r s
 | cons {r s x xs r' s' c}:c ∈ r→r[zm r x.p]? = some c→Fine h x c→Spent h (r.take (zm r x.p)++r.drop (zm r x.p+1)) (s++[c]) xs r' s'→Spent h r s (x::xs) r' s'
theorem zkq {ρ:Type} {h:Int} {bad:Int→ρ} {K:List Coin→List Coin→ρ} {r s:List Coin} {x:In} {xs:List In} {c:Coin} (hm:c ∈ r) (hc:r[zm r x.p]? = some c) (hf:Fine h x c):z39 h bad K r s (x::xs)=z39 h bad K (r.take (zm r x.p)++r.drop (zm r x.p+1)) (s++[c]) xs:=by
 have hp:z2g r x.p=true:=hasP_mem.2 ⟨c,hm,hf.p⟩
 rw [z39,if_pos hp,hc]
 simp only [Option.getD_some]
 rw [if_pos hf.opens]
 by_cases hr:c.reward=true
 ·rw [if_pos hr,if_neg (by have:=hf.ripe hr;omega)]
 ·rw [if_neg hr]
theorem Spent.run {ρ:Type} {h:Int} {bad:Int→ρ} {K:List Coin→List Coin→ρ} {r s r' s':List Coin} {xs:List In} (hs:Spent h r s xs r' s'):z39 h bad K r s xs=K r' s':=by
 induction hs with
 | nil r s=>rfl
 | cons hm hc hf _ ih=>rw [zkq hm hc hf,ih]
theorem zii {h:Int} {K:List Coin→List Coin→List Coin × List Coin × Int}:∀ {xs:List In} {r s:List Coin},z05 r→(z39 h z3z K r s xs).2.2=0→∃ r' s',Spent h r s xs r' s'∧z39 h z3z K r s xs=K r' s'
 | [],r,s,_,_=>⟨r,s,.nil r s,rfl⟩
 | x::xs,r,s,hr,h0=>by
  by_cases hp:z2g r x.p=true
  ·obtain ⟨c,hc,hm,hcp⟩:=z0ea hr hp
   have hf:Fine h x c:=by
    rw [z39,if_pos hp,hc] at h0
    simp only [Option.getD_some] at h0
    by_cases hrw:c.reward=true
    ·rw [if_pos hrw] at h0
     by_cases hh:h<c.height+2
     ·rw [if_pos hh] at h0;cases h0
     ·rw [if_neg hh] at h0
      by_cases ho:(z38 c.o.lock x.key h).1=true
      ·exact ⟨hcp,fun _=>by omega,ho⟩
      ·rw [if_neg ho] at h0;cases h0
    ·rw [if_neg hrw] at h0
     by_cases ho:(z38 c.o.lock x.key h).1=true
     ·exact ⟨hcp,fun h=>absurd h hrw,ho⟩
     ·rw [if_neg ho] at h0;cases h0
   have e:=zkq (bad:=z3z) (K:=K) (s:=s) (xs:=xs) hm hc hf
   rw [e] at h0 ⊢
   obtain ⟨r',s',h1,h2⟩:=zii (zaf hr _) h0
   exact ⟨r',s',.cons hm hc hf h1,h2⟩
  ·rw [z39,if_neg hp] at h0
   cases h0
structure SpentAs (h:Int) (r:List Coin) (xs:List In) (r' cs:List Coin):Prop where
 sorted:z05 r'
 mem:∀ c,c ∈ r'↔c ∈ r∧∀ x ∈ xs,x.p≠c.p
 len:cs.length=xs.length
 fine:∀ (i:Nat) (x:In),xs[i]? = some x→∃ c,cs[i]? = some c∧c ∈ r∧Fine h x c
 apart:xs.Pairwise fun x y=>x.p≠y.p
 total:zj r=zj r'+zj cs
theorem Spent.as {h:Int} {r s r' s':List Coin} {xs:List In} (hs:Spent h r s xs r' s'):z05 r→∃ cs,s'=s++cs∧SpentAs h r xs r' cs:=by
 induction hs with
 | nil r s=>exact fun hr=>⟨[],(List.append_nil s).symm,hr,fun c=>by simp,rfl,fun i x hx=>by simp at hx,.nil,by simp [zj]⟩
 | @cons r s x xs r' s' c hm hc hf hs ih =>
  intro hr
  obtain ⟨cs,rfl,H⟩:=ih (zaf hr _)
  have hcm:=fun d=>z03c hr hc (d:=d)
  refine ⟨c::cs,by simp,H.sorted,fun d=>?_,by simp [H.len],fun i y hy=>?_,?_,?_⟩
  ·rw [H.mem,hcm]
   constructor
   ·rintro ⟨⟨h1,h2⟩,h3⟩
    refine ⟨h1,fun y hy=>?_⟩
    rcases List.mem_cons.1 hy with rfl|hy
    ·rw [← hf.p];exact fun e=>h2 e.symm
    ·exact h3 y hy
   ·rintro ⟨h1,h2⟩
    exact ⟨⟨h1,fun e=>h2 x (List.mem_cons_self ..) (by rw [← hf.p,e])⟩,fun y hy=>h2 y (List.mem_cons_of_mem _ hy)⟩
  ·cases i with
   | zero =>
    simp only [List.getElem?_cons_zero,Option.some.injEq] at hy
    subst hy
    exact ⟨c,rfl,hm,hf⟩
   | succ i =>
    obtain ⟨d,h1,h2,h3⟩:=H.fine i y (by simpa using hy)
    exact ⟨d,by simpa using h1,(hcm d).1 h2 |>.1,h3⟩
  ·refine List.pairwise_cons.2 ⟨fun y hy=>?_,H.apart⟩
   obtain ⟨i,hi⟩:=List.getElem?_of_mem hy
   obtain ⟨d,_,h2,h3⟩:=H.fine i y hi
   have:=((hcm d).1 h2).2
   rw [h3.p,hf.p] at this
   exact fun e=>this e.symm
  ·rw [z08s hc,H.total,zj];omega
theorem Spent.of {h:Int}:∀ {xs:List In} {r s cs:List Coin},z05 r→xs.Pairwise (fun x y=>x.p≠y.p)→cs.length=xs.length→(∀ (i:Nat) (x:In),xs[i]? = some x→∃ c,cs[i]? = some c∧c ∈ r∧Fine h x c)→∃ r',Spent h r s xs r' (s++cs)
 | [],r,s,cs,hr,ha,hl,hf=>by
  have:cs=[]:=List.eq_nil_of_length_eq_zero hl
  subst this
  exact ⟨r,by rw [List.append_nil];exact .nil r s⟩
 | x::xs,r,s,[],hr,ha,hl,hf=>by cases hl
 | x::xs,r,s,c::cs,hr,ha,hl,hf=>by
  obtain ⟨c',h1,hm,hfx⟩:=hf 0 x rfl
  simp only [List.getElem?_cons_zero,Option.some.injEq] at h1
  subst h1
  have hc:r[zm r x.p]? = some c:=by rw [← hfx.p];exact z08r hr hm
  have ha':=List.pairwise_cons.1 ha
  obtain ⟨r',hs⟩:=Spent.of (s:=s++[c]) (cs:=cs) (zaf hr (zm r x.p)) ha'.2 (by simpa using hl) fun i y hy=>by
   obtain ⟨d,k1,k2,k3⟩:=hf (i+1) y (by simpa using hy)
   refine ⟨d,by simpa using k1,(z03c hr hc).2 ⟨k2,?_⟩,k3⟩
   rw [k3.p,hfx.p]
   exact fun e=>ha'.1 y (List.mem_of_getElem? hy) e.symm
  exact ⟨r',.cons hm hc hfx (by rw [List.append_assoc] at hs;exact hs)⟩
def zap (nm h:Int) (rw:Bool) (i:Nat) (o:Out):Coin:=⟨⟨nm,i⟩,o,h,rw⟩
inductive Brought (nm h:Int) (rw:Bool):List Coin→Nat→List Out→List Coin→Prop
 | nil (r i):Brought nm h rw r i [] r
 | cons {r:List Coin} {i:Nat} {o:Out} {os:List Out} {m:List Coin}:z2g r ⟨nm,i⟩=false→Brought nm h rw (r.take (zm r ⟨nm,i⟩)++[zap nm h rw i o]++r.drop (zm r ⟨nm,i⟩)) (i+1) os m→Brought nm h rw r i (o::os) m
theorem Brought.run {ρ:Type} {nm h:Int} {rw:Bool} {bad:Int→ρ} {K:List Coin→ρ} {r m:List Coin} {i:Nat} {os:List Out} (hb:Brought nm h rw r i os m):z3i nm h rw bad K r i os=K m:=by
 induction hb with
 | nil r i=>rfl
 | cons hn _ ih=>rw [z3i,if_neg (by simp [hn])];exact ih
theorem zij {nm h:Int} {rw:Bool} {K:List Coin→List Coin × List Coin × Int}:∀ {os:List Out} {r:List Coin} {i:Nat},(z3i nm h rw z3z K r i os).2.2=0→∃ m,Brought nm h rw r i os m∧z3i nm h rw z3z K r i os=K m
 | [],r,i,_=>⟨r,.nil r i,rfl⟩
 | o::os,r,i,h0=>by
  rw [z3i] at h0 ⊢
  cases hp:z2g r ⟨nm,i⟩ with
  | true=>rw [hp,if_pos rfl] at h0;cases h0
  | false =>
   rw [hp,if_neg (by simp)] at h0
   rw [if_neg (by simp)]
   obtain ⟨m,h1,h2⟩:=zij h0
   exact ⟨m,.cons hp h1,h2⟩
def z1t (os:List Out):Int:=(os.map Out.coin).sum
structure BroughtAs (nm h:Int) (rw:Bool) (r:List Coin) (i:Nat) (os:List Out) (m:List Coin):Prop where
 sorted:z05 m
 mem:∀ c,c ∈ m↔c ∈ r∨∃ (j:Nat) (o:Out),os[j]? = some o∧c=zap nm h rw (i+j) o
 free:∀ c ∈ r,∀ j,j<os.length→c.p≠⟨nm,((i+j:Nat):Int)⟩
 total:zj m=zj r+z1t os
 len:m.length=r.length+os.length
theorem Brought.as {nm h:Int} {rw:Bool} {r m:List Coin} {i:Nat} {os:List Out} (hb:Brought nm h rw r i os m):z05 r→BroughtAs nm h rw r i os m:=by
 induction hb with
 | nil r i=>exact fun hr=>⟨hr,fun c=>by simp,fun c _ j hj=>by simp at hj,by simp [z1t],by simp⟩
 | @cons r i o os m hn hb ih =>
  intro hr
  have H:=ih (zag hr (c:=zap nm h rw i o) hn)
  refine ⟨H.sorted,fun c=>?_,fun c hc j hj=>?_,?_,?_⟩
  ·rw [H.mem,put_mem]
   constructor
   ·rintro ((rfl|h1)|⟨j,q,h1,h2⟩)
    ·exact .inr ⟨0,o,rfl,rfl⟩
    ·exact .inl h1
    ·exact .inr ⟨j+1,q,by simpa using h1,by rw [h2,show i+1+j=i+(j+1) by omega]⟩
   ·rintro (h1|⟨j,q,h1,h2⟩)
    ·exact .inl (.inr h1)
    ·cases j with
     | zero =>
      simp only [List.getElem?_cons_zero,Option.some.injEq] at h1
      subst h1
      exact .inl (.inl h2)
     | succ j=>exact .inr ⟨j,q,by simpa using h1,by rw [h2,show i+1+j=i+(j+1) by omega]⟩
  ·cases j with
   | zero=>exact hasP_not.1 hn c hc
   | succ j =>
    have:=H.free c (put_mem.2 (.inr hc)) j (by simpa using hj)
    rwa [show i+1+j=i+(j+1) by omega] at this
  ·rw [H.total,z08t]
   simp only [z1t,List.map_cons,List.sum_cons,zap]
   omega
  ·rw [H.len]
   simp only [List.length_append,List.length_take,List.length_drop,List.length_cons,List.length_nil]
   omega
theorem Brought.of {nm h:Int} {rw:Bool}:∀ {os:List Out} {r:List Coin} {i:Nat},z05 r→(∀ c ∈ r,∀ j,j<os.length→c.p≠⟨nm,((i+j:Nat):Int)⟩)→∃ m,Brought nm h rw r i os m
 | [],r,i,_,_=>⟨r,.nil r i⟩
 | o::os,r,i,hr,hf=>by
  have hn:z2g r ⟨nm,i⟩=false:=hasP_not.2 fun c hc=>hf c hc 0 (by simp)
  obtain ⟨m,hb⟩:=Brought.of (os:=os) (i:=i+1) (zag hr (c:=zap nm h rw i o) hn) fun c hc j hj=>by
   rcases put_mem.1 hc with rfl|hc
   ·simp only [zap,ne_eq,Point.mk.injEq,not_and]
    intro _
    omega
   ·have:=hf c hc (j+1) (by simpa using hj)
    rwa [show i+(j+1)=i+1+j by omega] at this
  exact ⟨m,.cons hn hb⟩
theorem z08u (os:List Out):∀ s:Int,os.foldl (fun s o=>s - o.coin) s=s - z1t os:=by
 induction os with
 | nil=>intro s;simp [z1t]
 | cons o os ih=>intro s;rw [List.foldl_cons,ih];simp only [z1t,List.map_cons,List.sum_cons];omega
theorem zy9 (t:Tx) (s:List Coin):z2z t s=zj s - z1t t.outs:=by
 unfold z2z
 rw [z08u,z014]
 omega
structure Done (l:List Coin) (t:Tx) (nm h:Int) (r s m:List Coin):Prop where
 ok:CoinsOK l
 tx:zb t=0
 nm1:1≤nm
 nm2:nm≤120
 h1:1≤h
 h2:h≤1000
 height:t.ins.length=0→t.height=h
 spent:Spent h l [] t.ins r s
 fee:t.ins.length≠0→0≤z2z t s
 brought:Brought nm h (decide ((t.ins.length:Int)=0)) r 0 t.outs m
 end_:CoinsOK m
theorem Done.run {l:List Coin} {t:Tx} {nm h:Int} {r s m:List Coin} (d:Done l t nm h r s m):z0f l t nm h=(m,s,0):=by
 unfold z0f
 have hE:z9z s m=(m,s,0):=by
  unfold z9z
  rw [if_neg (by rw [(z2r m).2 d.end_];decide)]
 have a:=d.nm1;have b:=d.nm2;have c:=d.h1;have e:=d.h2
 rw [if_neg (by rw [(z2r l).2 d.ok];decide),if_neg (by rw [d.tx];decide),if_neg (by omega)]
 by_cases h0:(t.ins.length:Int)=0
 ·rw [if_pos h0,if_neg (by rw [d.height (by omega)];simp),d.spent.run,d.brought.run,hE]
 ·rw [if_neg h0,d.spent.run,if_neg (by have:=d.fee (by omega);omega),d.brought.run,hE]
theorem z05k {l:List Coin} {t:Tx} {nm h:Int} (h0:(z0f l t nm h).2.2=0):∃ r,Done l t nm h r (z0f l t nm h).2.1 (z0f l t nm h).1:=by
 have key:∃ r s m,Done l t nm h r s m:=by
  unfold z0f at h0
  by_cases k1:zw l=0
  ·rw [if_neg (by rw [k1];decide)] at h0
   have ok:=(z2r l).1 k1
   by_cases k2:zb t=0
   ·rw [if_neg (by rw [k2];decide)] at h0
    by_cases k3:nm<1∨120<nm∨h<1∨1000<h
    ·rw [if_pos k3] at h0;cases h0
    ·rw [if_neg k3] at h0
     by_cases k4:(t.ins.length:Int)=0
     ·rw [if_pos k4] at h0
      by_cases k5:t.height≠h
      ·rw [if_pos k5] at h0;cases h0
      ·rw [if_neg k5] at h0
       obtain ⟨r,s,q1,q2⟩:=zii ok.sorted h0
       rw [q2] at h0
       obtain ⟨m,q3,q4⟩:=zij h0
       rw [q4] at h0
       unfold z9z at h0
       by_cases k6:zw m=0
       ·exact ⟨r,s,m,ok,k2,by omega,by omega,by omega,by omega,fun _=>Decidable.not_not.1 k5,q1,fun h=>absurd (by omega) h,q3,(z2r m).1 k6⟩
       ·rw [if_pos k6] at h0;exact absurd h0 k6
     ·rw [if_neg k4] at h0
      obtain ⟨r,s,q1,q2⟩:=zii ok.sorted h0
      rw [q2] at h0
      by_cases k5:z2z t s<0
      ·simp only [if_pos k5] at h0;cases h0
      ·simp only [if_neg k5] at h0
       obtain ⟨m,q3,q4⟩:=zij h0
       rw [q4] at h0
       unfold z9z at h0
       by_cases k6:zw m=0
       ·exact ⟨r,s,m,ok,k2,by omega,by omega,by omega,by omega,fun h=>absurd (by omega) k4,q1,fun _=>by omega,q3,(z2r m).1 k6⟩
       ·rw [if_pos k6] at h0;exact absurd h0 k6
   ·rw [if_pos k2] at h0;exact absurd h0 k2
  ·rw [if_pos k1] at h0;exact absurd h0 k1
 obtain ⟨r,s,m,d⟩:=key
 refine ⟨r,?_⟩
 rw [d.run]
 exact d
end
section
open Go.RowKit
theorem SpentAs.from {h:Int} {l:List Coin} {xs:List In} {r cs:List Coin} (S:SpentAs h l xs r cs) {c:Coin} (hc:c ∈ cs):c ∈ l∧∃ x ∈ xs,x.p=c.p:=by
 obtain ⟨i,hi,rfl⟩:=List.getElem_of_mem hc
 have hl:=S.len
 obtain ⟨c,h1,h2,h3⟩:=S.fine i xs[i] (List.getElem?_eq_getElem (by omega))
 rw [List.getElem?_eq_getElem hi] at h1
 injection h1 with h1
 rw [h1]
 exact ⟨h2,_,List.getElem_mem _,h3.p.symm⟩
theorem SpentAs.all {h:Int} {l:List Coin} {xs:List In} {r cs:List Coin} (S:SpentAs h l xs r cs) (hs:z05 l) {c:Coin}:c ∈ l↔c ∈ r∨c ∈ cs:=by
 constructor
 ·intro hc
  by_cases hx:∃ x ∈ xs,x.p=c.p
  ·obtain ⟨x,hx,he⟩:=hx
   obtain ⟨i,hi⟩:=List.getElem?_of_mem hx
   obtain ⟨d,h1,h2,h3⟩:=S.fine i x hi
   have:d=c:=zhk hs h2 hc (h3.p.trans he)
   subst this
   exact .inr (List.mem_of_getElem? h1)
  ·exact .inl ((S.mem c).2 ⟨hc,fun x hx' he=>hx ⟨x,hx',he⟩⟩)
 ·rintro (hc|hc)
  ·exact ((S.mem c).1 hc).1
  ·exact (S.from hc).1
theorem Done.spentAs {l:List Coin} {t:Tx} {nm h:Int} {r s m:List Coin} (d:Done l t nm h r s m):SpentAs h l t.ins r s:=by
 obtain ⟨cs,e,S⟩:=d.spent.as d.ok.sorted
 rw [List.nil_append] at e
 exact e ▸ S
theorem Done.broughtAs {l:List Coin} {t:Tx} {nm h:Int} {r s m:List Coin} (d:Done l t nm h r s m):BroughtAs nm h (decide ((t.ins.length:Int)=0)) r 0 t.outs m:=d.brought.as d.spentAs.sorted
theorem Done.short {l:List Coin} {t:Tx} {nm h:Int} {r s m:List Coin} (d:Done l t nm h r s m):z8e s:=by
 have S:=d.spentAs
 exact ⟨by have:=S.len;have:=(z58 d.tx).ins;omega,fun c hc=>d.ok.short.2 c (S.from hc).1⟩
theorem zya {t:Tx} (ok:TxOK t):0<z1t t.outs:=by
 have key:∀ os:List Out,(∀ o ∈ os,1≤o.coin)→(os.length:Int)≤z1t os:=by
  intro os
  induction os with
  | nil=>intro _;simp [z1t]
  | cons o os ih =>
   intro h
   have h1:=h o (List.mem_cons_self ..)
   have h2:=ih fun x hx=>h x (List.mem_cons_of_mem _ hx)
   simp only [z1t,List.map_cons,List.sum_cons,List.length_cons] at h2 ⊢
   omega
 have:=key t.outs fun o ho=>(ok.good o ho).1
 have:=ok.some
 omega
theorem z08v {m:List Coin} {p:Point} (ok:CoinsOK m) (h:z2g m p=false):zwb m p=(z74,7):=by
 unfold zwb
 rw [if_neg (by rw [(z2r m).2 ok];decide),if_neg (by simp [h])]
theorem Done.gone {l:List Coin} {t:Tx} {nm h:Int} {r s m:List Coin} (d:Done l t nm h r s m) {x:In} (hx:x ∈ t.ins) (hn:x.p.tx≠nm):zwb m x.p=(z74,7):=by
 have S:=d.spentAs
 have B:=d.broughtAs
 refine z08v d.end_ (hasP_not.2 fun c hc e=>?_)
 rcases (B.mem c).1 hc with hc|⟨j,o,_,rfl⟩
 ·exact ((S.mem c).1 hc).2 x hx e.symm
 ·exact hn (by rw [← e];rfl)
end
section
open Go.RowKit
open Go.Lib (itoa)
set_option maxRecDepth 100000
set_option maxHeartbeats 4000000
def zmh (b:Block) (ns:List Int) (l:List Coin) (us:List Undo) (most:Int):List Coin × List Undo × Int :=
 if most < -z2z (b.txs.getD 0 zTx) [] then ([],[],9) else
 if (z0f l (b.txs.getD 0 zTx) (ns.getD 0 0) b.height).2.2≠0 then ([],[],(z0f l (b.txs.getD 0 zTx) (ns.getD 0 0) b.height).2.2) else
 ((z0f l (b.txs.getD 0 zTx) (ns.getD 0 0) b.height).1,us.set 0 ⟨(z0f l (b.txs.getD 0 zTx) (ns.getD 0 0) b.height).2.1⟩,0)
def zdd (b:Block) (ns:List Int) (l:List Coin) (us:List Undo) (most:Int) (i:Nat):List Tx→List Coin × List Undo × Int
 | []=>zmh b ns l us most
 | t::r=>if (z0f l t (ns.getD i 0) b.height).2.2≠0 then ([],[],(z0f l t (ns.getD i 0) b.height).2.2) else
  zdd b ns (z0f l t (ns.getD i 0) b.height).1 (us.set i ⟨(z0f l t (ns.getD i 0) b.height).2.1⟩) (most+z2z t (z0f l t (ns.getD i 0) b.height).2.1) (i+1) r
def z70 (k:Book) (l:List Coin) (b:Block):List Coin × List Undo × Int :=
 if zw l≠0 then ([],[],zw l) else
 if (z12 k b).2.2.2≠0 then ([],[],(z12 k b).2.2.2) else
 zdd b (z12 k b).2.2.1 l (List.replicate b.txs.length ⟨[]⟩) (z2d b.height) 1 (b.txs.drop 1)
theorem z05l {k:Book} {b:Block} (h:(z12 k b).2.2.2=0):ze b=0∧(z12 k b).2.2.1.length=b.txs.length:=by
 unfold z12 at h ⊢
 by_cases hp:(z07 b).2=0
 ·rw [if_neg (fun k=>k hp)] at h ⊢
  refine ⟨zeu hp,?_⟩
  unfold zei at h ⊢
  by_cases ha:(z0o k (zgo b++[(z07 b).1])).2.2=0
  ·rw [if_neg (fun k=>k ha)]
   have:=zhg ha
   have h1:(zgo b).length=b.txs.length:=by simp [zgo]
   show (List.take _ _).length=_
   rw [List.length_take,this,List.length_append,h1,List.length_singleton]
   omega
  ·rw [if_pos ha] at h;exact absurd h ha
 ·rw [if_pos hp] at h;exact absurd h hp
theorem z0br {t:Tx} (h:zb t=0):zd4 (t,[]):=by
 have ok:=z58 h
 exact ⟨by simp,by simp,by have:=ok.outs;simp only;omega,fun o ho=>by have:=ok.good o ho;omega⟩
theorem z0eb {t:Tx} (ok:TxOK t):z1t t.outs≤1000000000 * t.outs.length:=by
 have key:∀ os:List Out,(∀ o ∈ os,o.coin≤1000000000)→z1t os≤1000000000 * os.length:=by
  intro os
  induction os with
  | nil=>intro _;simp [z1t]
  | cons o os ih =>
   intro h
   have h1:=h o (List.mem_cons_self ..)
   have h2:=ih fun x hx=>h x (List.mem_cons_of_mem _ hx)
   simp only [z1t,List.map_cons,List.sum_cons,List.length_cons] at h2 ⊢
   omega
 exact key t.outs fun o ho=>(ok.good o ho).2.1
theorem z0ec {t:Tx} (h:zb t=0) : -10000000000≤z2z t []∧z2z t []<0:=by
 have ok:=z58 h
 have h1:=zya ok
 have h2:=z0eb ok
 have h3:=ok.outs
 rw [zy9]
 simp only [zj]
 omega
theorem z08w {l:List Coin} {t:Tx} {nm h:Int} (h0:(z0f l t nm h).2.2=0):zd4 (t,(z0f l t nm h).2.1) ∧ -10000000000≤z2z t (z0f l t nm h).2.1∧z2z t (z0f l t nm h).2.1≤10000000000:=by
 obtain ⟨r,d⟩:=z05k h0
 generalize (z0f l t nm h).2.1=s at *
 generalize (z0f l t nm h).1=m at *
 have ok:=z58 d.tx
 have S:=d.spentAs
 have B:=d.broughtAs
 have h1:=S.total
 have h2:=B.total
 have hl:=d.ok.total
 have hm:=d.end_.total
 have hr:0≤zj r:=zfl fun c hc=>d.ok.good c ((S.mem c).1 hc).1
 have hs:0≤zj s:=zfl fun c hc=>d.ok.good c (S.from hc).1
 have ho:=zya ok
 have hsl:=S.len
 have:=ok.ins
 have:=ok.outs
 refine ⟨⟨by simp only;omega,fun c hc=>by have:=z48 (d.ok.good c (S.from hc).1);omega,by simp only;omega,fun o ho=>by have:=ok.good o ho;omega⟩,?_⟩
 rw [zy9]
 omega
section
variable {sp:Nat→z7} {N:Nat} {E E':Env} {ks:List (List Dt→Option (List Dt))} {res:Option (List Dt)} {k:T}
theorem z0bs {a:Atom} {n:Nat} (ha:a.val E=some (I n)) (h:n≤1000):denX sp E (.mkz 1 [.nil 6] a)=some (.l 1 ((List.replicate n (⟨[]⟩:Undo)).map za6)):=by
 rw [z0fs (sz:=1) (z:=[.nil 6]) ha (by omega) (by omega) rfl,Int.toNat_natCast,List.map_replicate]
 rfl
theorem zgp {α:Type} {f:α→List Dt} {l:List α} {x y:α} {sz j n:Nat} {m:Int} {a b:Atom} {vs:List Atom} {ds:List Dt} (hm:m.toNat=n) (ha:a.val E=some (.l sz (l.map f))) (hb:b.val E=some (I m)) (hv:vals E vs=some ds) (h0:0≤m) (hs:j+ds.length≤sz) (hx:l[n]? = some x) (hy:z53 (f x) j ds=f y):denX sp E (.set a b j vs)=some (.l sz ((l.set n y).map f)):=by
 subst hm
 exact z074 ha hb hv h0 hs hx hy
theorem dqs {x:X} (hk:den sp N k E ks=res) (h:denX sp E x=some (.b true)):den sp N (.lets [] [x] k) E ks=res:=zcr (by with_unfolding_all simp only [z14,h]) hk
end
theorem zbm {α:Type} {l:List α} {i:Nat} (d:α) (h:i<l.length):l[i]? = some (l.getD i d):=by
 rw [List.getD_eq_getElem?_getD,List.getElem?_eq_getElem h]
 rfl
def z0cf (b:Block) (ns:List Int) (us:List Undo) (l:List Coin):Nat→List Coin × Int
 | 0=>(l,0)
 | i+1=>if (z7c l (b.txs.getD (i+1) zTx) (ns.getD (i+1) 0) (us.getD (i+1) ⟨[]⟩).spent).2≠0 then ([],(z7c l (b.txs.getD (i+1) zTx) (ns.getD (i+1) 0) (us.getD (i+1) ⟨[]⟩).spent).2) else
  z0cf b ns us (z7c l (b.txs.getD (i+1) zTx) (ns.getD (i+1) 0) (us.getD (i+1) ⟨[]⟩).spent).1 i
def z0h5 (k:Book) (l:List Coin) (b:Block) (us:List Undo):List Coin × Int :=
 if zw l≠0 then ([],zw l) else
 if (z12 k b).2.2.2≠0 then ([],(z12 k b).2.2.2) else
 if (us.length:Int)≠b.txs.length then ([],4) else
 if (z7c l (b.txs.getD 0 zTx) ((z12 k b).2.2.1.getD 0 0) (us.getD 0 ⟨[]⟩).spent).2≠0 then ([],(z7c l (b.txs.getD 0 zTx) ((z12 k b).2.2.1.getD 0 0) (us.getD 0 ⟨[]⟩).spent).2) else
 z0cf b (z12 k b).2.2.1 us (z7c l (b.txs.getD 0 zTx) ((z12 k b).2.2.1.getD 0 0) (us.getD 0 ⟨[]⟩).spent).1 (b.txs.length - 1)
noncomputable def z42:z7:=spD (fun _:Book × List Coin × Block=>True) fun x=>z70 x.1 x.2.1 x.2.2
theorem zik (k:Book) (l:List Coin) (b:Block):z42 [.l 1 (k.texts.map z26),.l 6 (l.map z00),I b.parent,I b.height,I b.work,I b.nonce,.l 3 (b.txs.map eTx)]=some [.l 6 ((z70 k l b).1.map z00),.l 1 ((z70 k l b).2.1.map za6),I (z70 k l b).2.2]:=zd (f:=fun x:Book × List Coin × Block=>z70 x.1 x.2.1 x.2.2) (k,l,b) trivial
theorem zyb (n:Int):0≤z2d n∧z2d n≤1000:=by
 have h:=zol n
 exact h
attribute [local irreducible] den denX z0r z14
attribute [local irreducible] z08 spD z0f z7c z2z z12 zw z2d
def zmi:T :=
 .lets [.call 13 [.v 35,.v 36,.v 37,.v 38] 0] [] (.lets [.bin .add (.v 22) (.v 39)] [] (.lets [.bin .add (.v 23) (.c (.i .i64 1))] [] (.again 0 [.v 30,.v 19,.v 33,.v 32,.v 40,
 .v 41])))
def zmj:T :=
 .lets [.idx (.v 6) (.v 23) 0,.idx (.v 6) (.v 23) 1,.idx (.v 6) (.v 23) 2] [] (.lets [] [.inr 1 (.v 33) (.v 23)] (.lets [.idx (.v 33) (.v 23) 0] [] zmi))
def zmk:T :=
 .lets [.set (.v 20) (.v 23) 0 [.v 31]] [] (.lets [.bin .neq (.v 32) (.c (.i .i64 0))] [] (.ite (.v 34) (.ret [.c (.nil 6),.c (.nil 1),.v 32]) (.lets [] [.inr 3 (.v 6) (.v 23)]
 zmj)))
def zml:T :=
 .lets [.call 18 [.v 18,.v 26,.v 27,.v 28,.v 29,.v 3] 0,.call 18 [.v 18,.v 26,.v 27,.v 28,.v 29,.v 3] 1,.call 18 [.v 18,.v 26,.v 27,.v 28,.v 29,.v 3] 2] [] (.lets []
 [.inr 1 (.v 20) (.v 23)] zmk)
def zmm:T :=
 .lets [.idx (.v 6) (.v 23) 0,.idx (.v 6) (.v 23) 1,.idx (.v 6) (.v 23) 2] [] (.lets [] [.inr 1 (.v 11) (.v 23)] (.lets [.idx (.v 11) (.v 23) 0] [] zml))
def zmn:T :=
 .lets [.set (.v 20) (.c (.i .i64 0)) 0 [.v 37]] [] (.lets [.bin .neq (.v 38) (.c (.i .i64 0))] [] (.ite (.v 40) (.ret [.c (.nil 6),.c (.nil 1),.v 38]) (.ret [.v 36,.v 39,.c (.i
 .i64 0)])))
def zmo:T :=
 .lets [.call 18 [.v 18,.v 32,.v 33,.v 34,.v 35,.v 3] 0,.call 18 [.v 18,.v 32,.v 33,.v 34,.v 35,.v 3] 1,.call 18 [.v 18,.v 32,.v 33,.v 34,.v 35,.v 3] 2] [] (.lets []
 [.inr 1 (.v 20) (.c (.i .i64 0))] zmn)
def zmp:T :=
 .lets [.idx (.v 6) (.c (.i .i64 0)) 0,.idx (.v 6) (.c (.i .i64 0)) 1,.idx (.v 6) (.c (.i .i64 0)) 2] [] (.lets [] [.inr 1 (.v 11) (.c (.i .i64 0))] (.lets [.idx (.v 11) (.c (.i
 .i64 0)) 0] [] zmo))
def zmq:T :=
 .lets [.neg (.v 29)] [] (.lets [.bin .gtr (.v 30) (.v 22)] [] (.ite (.v 31) (.ret [.c (.nil 6),.c (.nil 1),.c (.i .i64 9)]) (.lets [] [.inr 3 (.v 6) (.c (.i .i64 0))]
 zmp)))
def zmr:T :=
 .lets [.idx (.v 6) (.c (.i .i64 0)) 0,.idx (.v 6) (.c (.i .i64 0)) 1,.idx (.v 6) (.c (.i .i64 0)) 2] [] (.lets [.call 13 [.v 26,.v 27,.v 28,.c (.nil 6)] 0] [] zmq)
def zkr:T :=
 .lets [.len (.v 6)] [] (.lets [.bin .lss (.v 23) (.v 24)] [] (.ite (.v 25) (.lets [] [.inr 3 (.v 6) (.v 23)] zmm) (.lets [] [.inr 3 (.v 6) (.c (.i .i64 0))]
 zmr)))
def zks:T :=
 .lets [.call 74 [.v 3] 0,.call 74 [.v 3] 1] [] (.lets [.len (.v 6)] [] (.lets [.mkz 1 [.nil 6] (.v 16)] [] (.loop [.v 1,.c (.nil 6),.v 17,.v 12,.v 14,.c (.i .i64 1)]
 zkr)))
def zkt:T :=
 .lets [.call 73 [.v 0,.v 2,.v 3,.v 4,.v 5,.v 6] 0,.call 73 [.v 0,.v 2,.v 3,.v 4,.v 5,.v 6] 1,.call 73 [.v 0,.v 2,.v 3,.v 4,.v 5,.v 6] 2,.call 73 [.v 0,.v 2,.v 3,
 .v 4,.v 5,.v 6] 3] [] (.lets [.bin .neq (.v 12) (.c (.i .i64 0))] [] (.ite (.v 13) (.ret [.c (.nil 6),.c (.nil 1),.v 12]) zks))
def zbn:T :=
 .lets [.call 8 [.v 1] 0] [] (.lets [.bin .neq (.v 7) (.c (.i .i64 0))] [] (.ite (.v 8) (.ret [.c (.nil 6),.c (.nil 1),.v 7]) zkt))
attribute [local irreducible] z3n z5f z8i z57 z7b
theorem zyc:Meets Tryz.prog z42 59 ⟨[.agg 1,.one,.agg 5],[(false,[.pure]),(false,[.pure]),(false,[.scal])],false⟩:=by
 refine zn (sp:=(z0g [(8,z57),(13,z7b),(18,z8i),(73,z3n),(74,z5f)])) (sigs:=z0k) (cut:=[]) (hints:=[⟨10,[.t 1,.r 6 102 6,.r 7 207 1,.t 8,.t 13,.t 15,.z 41]⟩]) (fn:=Tryz.f59) (t:=zbn) (by kernel_rfl) (by kernel_rfl) (by kernel_rfl) ?_ ?_
 ·exact (z04 (L:=[(8,z57),(13,z7b),(18,z8i),(73,z3n),(74,z5f)]) ⟨z6 rfl zo4,z6 rfl z039,z6 rfl z08q,z6 rfl zko,z6 rfl zxc,trivial⟩)
 ·rintro ds rs hok h
  obtain ⟨⟨k,l,b⟩,-,rfl,rfl⟩:=zl h
  clear h
  refine ⟨⟨100,?_⟩,z7p ⟨rfl,trivial⟩⟩
  show den _ _ zbn [.l 1 (k.texts.map z26),.l 6 (l.map z00),I b.parent,I b.height,I b.work,I b.nonce,.l 3 (b.txs.map eTx)] []=ret (z70 k l b)
  have a1:=z72 l
  have a2:=zdb k b
  have a3:=zih b.height
  have hnm:=z05l (k:=k) (b:=b)
  have hrw:0≤z2d b.height∧z2d b.height≤1000:=zyb b.height
  unfold zbn z70
  generalize z12 k b=nm at *
  obtain ⟨tx,n0,ns,e⟩:=nm
  generalize z2d b.height=rw0 at *
  simp only at *
  by_cases hc:zw l=0
  rotate_left
  ·repeat' (first|refine dq1 ?_|refine dqk rfl (a1) ?_|exact z5 rfl rfl|refine tR (fun h=>?_) fun h=>?_|fail)
   all_goals (exfalso;omega)
  by_cases he:e=0
  rotate_left
  ·repeat' (first|refine dq1 ?_|refine dqk rfl (a1) ?_|refine dqK rfl (a2) ?_|exact z5 rfl rfl|refine tR (fun h=>?_) fun h=>?_|fail)
   all_goals (exfalso;omega)
  obtain ⟨hb,hnl⟩:=hnm he
  have ok:=z5h hb
  have hl4:=ok.len
  have hl1:=ok.some
  subst he
  repeat' (first|refine dq1 ?_|refine dqk rfl (a1) ?_|refine dqK rfl (a2) ?_|refine dqK rfl (a3) ?_|refine z4 (z0bs rfl (by omega)) ?_|exact z5 rfl rfl|refine tR (fun h=>?_) fun h=>?_|fail)
  have hdl:(b.txs.drop 1).length=b.txs.length - 1:=by simp
  (refine zy (fun (a:List Coin × List Undo × Int) k=>[.l 6 (a.1.map z00),.l 6 [],.l 1 (a.2.1.map za6),I 0,I a.2.2,I (k+1)]) (fun (a:List Coin × List Undo × Int) k (r:List Tx)=>zdd b ns a.1 a.2.1 a.2.2 (k+1) r) (fun a k=>a.2.1.length=b.txs.length ∧ -(10000000000 * ((k:Int)+1))≤a.2.2∧a.2.2≤10000000000 * ((k:Int)+1)) (l,List.replicate b.txs.length ⟨[]⟩,rw0) (b.txs.drop 1) ?_ ?_ ?_ ?_ ?_;rfl;exact ⟨by simp,by simp only;omega,by simp only;omega⟩;omega)
  ·rintro ⟨l,us,most⟩ i x r hx hd hk ⟨hu,m1,m2⟩ again hag
   simp only at hu m1 m2 hag ⊢
   have hx':b.txs[((i:Int)+1).toNat]? = some x:=by
    rw [show ((i:Int)+1).toNat=1+i by omega,← List.getElem?_drop];exact hx
   have hn':ns[((i:Int)+1).toNat]? = some (ns.getD (i+1) 0):=by
    rw [show ((i:Int)+1).toNat=i+1 by omega];exact zbm 0 (by omega)
   have hu':us[i+1]? = some (us.getD (i+1) ⟨[]⟩):=zbm _ (by omega)
   rw [zdd]
   have a4:=zew l x (ns.getD (i+1) 0) b.height
   have hfee:=z08w (l:=l) (t:=x) (nm:=ns.getD (i+1) 0) (h:=b.height)
   generalize ns.getD (i+1) 0=nm at *
   generalize us.getD (i+1) ⟨[]⟩=u0 at *
   generalize z0f l x nm b.height=q at *
   obtain ⟨l2,sp,f⟩:=q
   simp only at a4 hfee ⊢
   by_cases hf:f=0
   ·obtain ⟨hd1,hd2,hd3⟩:=hfee hf
    subst hf
    rw [if_neg (fun h=>h rfl)]
    have a5:=zci x sp hd1
    have hs1:(us.set (i+1) (⟨sp⟩:Undo))[((i:Int)+1).toNat]? = some ⟨sp⟩:=by
     rw [show ((i:Int)+1).toNat=i+1 by omega];exact List.getElem?_set_self (by omega)
    have hsl:(us.set (i+1) (⟨sp⟩:Undo)).length=us.length:=List.length_set ..
    generalize z2z x sp=fe at *
    repeat' (first|refine dq1 ?_|refine dqc ?_|refine dqm ?_|refine dqK rfl (a4) ?_|refine dqk rfl (a5) ?_|refine z4 (zgp (n:=i+1) (x:=u0) (y:=⟨sp⟩) (by omega) rfl rfl rfl (by omega) (Nat.le_refl _) hu' rfl) ?_|refine dqT ?_|refine dqF ?_|fail)
    exact z9 rfl rfl (hag (l2,us.set (i+1) ⟨sp⟩,most+fe) ⟨by simpa using hu,by simp only;omega,by simp only;omega⟩)
   ·rw [if_pos hf]
    repeat' (first|refine dq1 ?_|refine dqc ?_|refine dqm ?_|refine dqK rfl (a4) ?_|refine z4 (zgp (n:=i+1) (x:=u0) (y:=⟨sp⟩) (by omega) rfl rfl rfl (by omega) (Nat.le_refl _) hu' rfl) ?_|exact z5 rfl rfl|refine dqT ?_|fail)
  ·rintro ⟨l,us,most⟩ ⟨hu,m1,m2⟩ again
   simp only at hu m1 m2 ⊢
   have ht0:b.txs[(0:Int).toNat]? = some (b.txs.getD 0 zTx):=zbm _ hl1
   have hn0:ns[(0:Int).toNat]? = some (ns.getD 0 0):=zbm _ (by omega)
   have hu0:us[0]? = some (us.getD 0 ⟨[]⟩):=zbm _ (by omega)
   have e0:zdd b ns l us most ((b.txs.drop 1).length+1) []=zmh b ns l us most:=by rw [zdd]
   rw [e0]
   unfold zmh
   have hct:=ok.each (b.txs.getD 0 zTx) (List.mem_of_getElem? ht0)
   obtain ⟨f1,f2⟩:=z0ec hct
   have a5:=zci (b.txs.getD 0 zTx) [] (z0br hct)
   have a4:=zew l (b.txs.getD 0 zTx) (ns.getD 0 0) b.height
   generalize b.txs.getD 0 zTx=t0 at *
   generalize ns.getD 0 0=nm at *
   generalize us.getD 0 ⟨[]⟩=u0 at *
   generalize z2z t0 []=fe at *
   generalize z0f l t0 nm b.height=q at *
   obtain ⟨l2,sp,f⟩:=q
   simp only at a4 ⊢
   repeat' (first|refine dq1 ?_|refine dqc ?_|refine dqm ?_|refine dqK rfl (a4) ?_|refine dqk rfl (a5) ?_|refine z4 (zgp (n:=0) (x:=u0) (y:=⟨sp⟩) rfl rfl rfl rfl (by omega) (Nat.le_refl _) hu0 rfl) ?_|exact z5 rfl rfl|refine tR (fun h=>?_) fun h=>?_|refine dqF ?_|fail)
end
section
open Go.RowKit
open Go.Lib (itoa)
set_option maxRecDepth 100000
set_option maxHeartbeats 4000000
section
variable {sp:Nat→z7} {E:Env}
theorem zil {a:Atom} {x:List UInt8} {lo:Atom} {m:Int} (ha:a.val E=some (.s x)) (hl:lo.val E=some (I m)) (h0:0≤m) (h1:m≤x.length):denX sp E (.ssub a (some lo) none)=some (.s (x.drop m.toNat)):=by
 have hb:bndI E 0 (some lo)=some m:=by show asI (lo.val E)=some m;rw [hl];rfl
 have:=zgk (sp:=sp) (lo:=some lo) (hi:=none) (m:=m) (n:=(x.length:Int)) ha hb rfl h0 h1 (by omega)
 rw [this]
 simp
theorem z0bt {a:Atom} {x:List UInt8} {hi:Atom} {n:Int} (ha:a.val E=some (.s x)) (hh:hi.val E=some (I n)) (h0:0≤n) (h1:n≤x.length):denX sp E (.ssub a none (some hi))=some (.s (x.take n.toNat)):=by
 have hb:bndI E (x.length:Int) (some hi)=some n:=by show asI (hi.val E)=some n;rw [hh];rfl
 have:=zgk (sp:=sp) (lo:=none) (hi:=some hi) (m:=0) (n:=n) ha rfl hb (by omega) h0 h1
 rw [this]
 simp
end
theorem z026 {f:Nat} {s x:List UInt8} {r:List (List UInt8)} (h:x::r=z10 f s):s≠[]∧x=z5a s∧∃ g,f=g+1∧r=z10 g (s.drop x.length):=by
 cases f with
 | zero=>cases h
 | succ f =>
  unfold z10 at h
  by_cases hs:s=[]
  ·rw [if_pos hs] at h;cases h
  ·rw [if_neg hs] at h
   injection h with h1 h2
   exact ⟨hs,h1,f,rfl,h1 ▸ h2⟩
theorem z05m {f:Nat} {s:List UInt8} (h:[]=z10 f s) (hf:s.length≤f):s=[]:=by
 cases f with
 | zero=>exact List.eq_nil_of_length_eq_zero (by omega)
 | succ f =>
  unfold z10 at h
  by_cases hs:s=[]
  ·exact hs
  ·rw [if_neg hs] at h;cases h
theorem z0bu {x:List UInt8} (h:(zr x).2.is=true):(z20 x).2=false:=by unfold z20;rw [h];rfl
theorem z0ed {x:List UInt8} (h:(zr x).2.is=false):z20 x=((zr x).1,decide (itoa (zr x).1=x)):=by unfold z20;rw [h];rfl
attribute [local irreducible] den denX z0r z14
attribute [local irreducible] z08 spD za zr z09 ze z10 z4v z5a itoa
noncomputable def z76:z7:=spD (fun s:List UInt8=>s.length≤1000000000) fun s=>z21 s
theorem zim (s:List UInt8) (h:s.length≤1000000000):z76 [.s s]=some [I (z21 s).1.1,I (z21 s).1.2.1,I (z21 s).1.2.2.1,I (z21 s).1.2.2.2,.b (z21 s).2]:=zd (p:=fun s:List UInt8=>s.length≤1000000000) (f:=fun s:List UInt8=>z21 s) s h
def zms:T :=
 .lets [.sel [.v 16,.v 10,.v 10,.v 10] (.v 9),.sel [.v 11,.v 16,.v 11,.v 11] (.v 9),.sel [.v 12,.v 12,.v 16,.v 12] (.v 9),.sel [.v 13,.v 13,.v 13,.v 16] (.v 9)] []
 (.lets [.bin .add (.v 9) (.c (.i .i64 1))] [] (.again 0 [.v 8,.v 25,.v 21,.v 22,.v 23,.v 24]))
def zmt:T :=
 .lets [.bin .neq (.v 19) (.v 15)] [] (.ite (.v 20) (.ret [.v 10,.v 11,.v 12,.v 13,.c (.b false)]) (.lets [] [.sel [.c (.b true),.c (.b true),.c (.b true),.c (.b true)] (.v
 9)] zms))
def zmu:T :=
 .lets [.call 42 [.v 15] 0,.call 42 [.v 15] 1] [] (.lets [.ise true (.v 17)] [] (.ite (.v 18) (.ret [.v 10,.v 11,.v 12,.v 13,.c (.b false)]) (.lets [.call 37 [.v 16] 0] []
 zmt)))
def zmv:T :=
 .lets [.bin .lss (.v 9) (.v 7)] [] (.ite (.v 14) (.lets [] [.inr 1 (.v 6) (.v 9)] (.lets [.idx (.v 6) (.v 9) 0] [] zmu)) (.ret [.v 10,.v 11,.v 12,.v 13,.c (.b
 true)]))
def zmw:T :=
 .lets [.sub 1 (.v 1) (some (.c (.i .i64 1))) none] [] (.lets [.len (.v 6)] [] (.loop [.c (.b false),.c (.i .i64 0),.c (.i .i64 0),.c (.i .i64 0),.c (.i .i64 0),.c (.i .i64 0)]
 zmv))
def zmx:T :=
 .lets [.bin .neq (.v 4) (.c (.s [98,108,111,99,107]))] [] (.ite (.v 5) (.ret [.c (.i .i64 0),.c (.i .i64 0),.c (.i .i64 0),.c (.i .i64 0),.c (.b false)]) zmw)
def zmy:T :=
 .ite (.v 3) (.ret [.c (.i .i64 0),.c (.i .i64 0),.c (.i .i64 0),.c (.i .i64 0),.c (.b false)]) (.lets [] [.inr 1 (.v 1) (.c (.i .i64 0))] (.lets [.idx (.v 1) (.c (.i .i64 0)) 0]
 [] zmx))
def zbo:T :=
 .lets [.call 41 [.v 0,.c (.s [32])] 0] [] (.lets [.len (.v 1)] [] (.lets [.bin .neq (.v 2) (.c (.i .i64 5))] [] zmy))
def zyd:T :=
 .lets [.mk 3 [[.v 25,.v 26,.v 27]]] [] (.lets [.app 3 (.v 16) (.v 30)] [] (.lets [.slen (.v 24)] [] (.lets [.ssub (.v 18) (some (.v 32)) none] [] (.again 0 [.v 31,.v 17,.v
 33]))))
def zye:T :=
 .lets [.bin .neq (.v 28) (.c (.i .i64 0))] [] (.ite (.v 29) (.ret [.c (.i .i64 0),.c (.i .i64 0),.c (.i .i64 0),.c (.i .i64 0),.c (.nil 3),.v 28]) zyd)
def zyf:T :=
 .lets [.bin .add (.v 21) (.c (.i .i64 2))] [] (.lets [.ssub (.v 18) none (some (.v 23))] [] (.lets [.call 63 [.v 24] 0,.call 63 [.v 24] 1,.call 63 [.v 24] 2,.call 63 [.v 24] 3]
 [] zye))
def zyg:T :=
 .lets [.mk 3 [[.v 23,.v 24,.v 25]]] [] (.lets [.app 3 (.v 16) (.v 28)] [] (.lets [.slen (.v 18)] [] (.lets [.ssub (.v 18) (some (.v 30)) none] [] (.again 0 [.v 29,.v 17,.v
 31]))))
def zyh:T :=
 .lets [.bin .neq (.v 26) (.c (.i .i64 0))] [] (.ite (.v 27) (.ret [.c (.i .i64 0),.c (.i .i64 0),.c (.i .i64 0),.c (.i .i64 0),.c (.nil 3),.v 26]) zyg)
def zyi:T :=
 .lets [.bin .geq (.v 21) (.c (.i .i64 0))] [] (.ite (.v 22) zyf (.lets [.call 63 [.v 18] 0,.call 63 [.v 18] 1,.call 63 [.v 18] 2,.call 63 [.v 18] 3] [] zyh))
def zyj:T :=
 .ite (.v 21) (.ret [.c (.i .i64 0),.c (.i .i64 0),.c (.i .i64 0),.c (.i .i64 0),.c (.nil 3),.v 20]) (.ret [.v 12,.v 13,.v 14,.v 15,.v 16,.c (.i .i64 0)])
def zyk:T :=
 .ite (.v 19) (.lets [.ssub (.v 18) (some (.c (.i .i64 1))) none] [] (.lets [.call 50 [.v 20,.c (.s [10,116,120,32])] 0] [] zyi)) (.lets [.call 72 [.v 12,.v 13,.v 14,
 .v 15,.v 16] 0] [] (.lets [.bin .neq (.v 20) (.c (.i .i64 0))] [] zyj))
def zyl:T :=
 .lets [] [.sel [.c (.b true),.c (.b true),.c (.b true),.c (.b true)] (.c (.i .i64 3))] (.lets [.sel [.v 6,.v 7,.v 8,.v 9] (.c (.i .i64 3))] [] (.loop [.c (.nil 3),.c (.i .i64
 0),.v 4] (.lets [.bin .neq (.v 18) (.c (.s []))] [] zyk)))
def zym:T :=
 .lets [] [.sel [.c (.b true),.c (.b true),.c (.b true),.c (.b true)] (.c (.i .i64 2))] (.lets [.sel [.v 6,.v 7,.v 8,.v 9] (.c (.i .i64 2))] [] zyl)
def zqb:T :=
 .lets [] [.sel [.c (.b true),.c (.b true),.c (.b true),.c (.b true)] (.c (.i .i64 1))] (.lets [.sel [.v 6,.v 7,.v 8,.v 9] (.c (.i .i64 1))] [] zym)
def zqc:T :=
 .lets [] [.sel [.c (.b true),.c (.b true),.c (.b true),.c (.b true)] (.c (.i .i64 0))] (.lets [.sel [.v 6,.v 7,.v 8,.v 9] (.c (.i .i64 0))] [] zqb)
def zqd:T :=
 .lets [.call 92 [.v 3] 0,.call 92 [.v 3] 1,.call 92 [.v 3] 2,.call 92 [.v 3] 3,.call 92 [.v 3] 4] [] (.lets [.not (.v 10)] [] (.ite (.v 11) (.ret [.c (.i .i64 0),.c (.i .i64
 0),.c (.i .i64 0),.c (.i .i64 0),.c (.nil 3),.c (.i .i64 1)]) zqc))
def zqe:T :=
 .ite (.v 2) (.ret [.c (.i .i64 0),.c (.i .i64 0),.c (.i .i64 0),.c (.i .i64 0),.c (.nil 3),.c (.i .i64 2)]) (.lets [.call 48 [.v 0,.c (.s [10])] 0,.call 48 [.v 0,.c (.s
 [10])] 1,.call 48 [.v 0,.c (.s [10])] 2] [] zqd)
def zem:T :=
 .lets [.slen (.v 0)] [] (.lets [.bin .gtr (.v 1) (.c (.i .i64 4000))] [] zqe)
attribute [local irreducible] z4r z1e z0b
theorem zyn:Meets Tryz.prog z76 53 ⟨[.one],[(true,[.scal,.scal,.scal,.scal]),(false,[.scal])],true⟩:=by
 refine zn (sp:=(z0g [(37,z1e),(41,z0b),(42,z4r)])) (sigs:=z0k) (cut:=[]) (hints:=[⟨6,[.t 3,.t 25,.o 4]⟩]) (fn:=Tryz.f53) (t:=zbo) (by kernel_rfl) (by kernel_rfl) (by kernel_rfl) ?_ ?_
 ·exact (z04 (L:=[(37,z1e),(41,z0b),(42,z4r)]) ⟨z6 rfl zb7,z6 rfl z6j,z6 rfl zsl,trivial⟩)
 ·rintro ds rs hok h
  obtain ⟨s,hs,rfl,rfl⟩:=zl h
  clear h
  refine ⟨⟨10,?_⟩,z7p ⟨rfl,rfl,rfl,rfl,rfl,trivial⟩⟩
  show den _ _ zbo [.s s] []=ret (z21 s)
  have a1:=z2e s 32 hs
  have hcl:=(z3l 32 s).2
  have hne:=z2p 32 s
  unfold zbo z21
  generalize za 32 s=w at *
  cases w with
  | nil=>exact absurd rfl hne
  | cons w0 ws =>
  have hx:(w0::ws)[0]? = some w0:=rfl
  have hln:(w0::ws).length=ws.length+1:=rfl
  simp only [List.headD_cons,List.drop_succ_cons,List.drop_zero]
  by_cases h5:ws.length=4
  rotate_left
  ·repeat' (first|refine dq1 ?_|refine dqc ?_|refine dqk rfl (a1) ?_|exact z5 rfl rfl|refine tR (fun h=>?_) fun h=>?_|refine dqT ?_|fail)
   all_goals (exfalso;omega)
  by_cases hw:w0=tBlk
  rotate_left
  ·rw [if_neg (by omega),if_pos hw]
   repeat' (first|refine dq1 ?_|refine dqc ?_|refine dqk rfl (a1) ?_|exact z5 rfl rfl|refine dqT ?_|refine dqF ?_|fail)
  subst hw
  rw [if_neg (by omega),if_neg (fun h=>h rfl)]
  repeat' (first|refine dq1 ?_|refine dqc ?_|refine dqk rfl (a1) ?_|refine z4 (zd2 rfl) ?_|refine dqF ?_|refine z13 rfl ?_|fail)
  (refine zy (fun (o:z8c) k=>[.b false,I k,I o.1,I o.2.1,I o.2.2.1,I o.2.2.2]) (fun (o:z8c) k (r:List (List UInt8))=>zeb o k r) (fun _ _=>True) (0,0,0,0) ws ?_ ?_ ?_ ?_ ?_;rfl;exact trivial;omega)
  ·rintro ⟨o0,o1,o2,o3⟩ k x r hx hd hk - again hag
   have hxl:x.length≤1000000000:=by have:=hcl x (List.mem_cons_of_mem _ (List.mem_of_getElem? hx));omega
   have a2:=zdw x hxl
   rw [zeb]
   cases hi:(zr x).2.is with
   | true =>
    rw [hi] at a2
    rw [if_neg (by rw [z0bu hi];decide)]
    repeat' (first|refine dq1 ?_|refine dqc ?_|refine dqK rfl (a2) ?_|refine z4 (z5d rfl) ?_|exact z5 rfl rfl|refine dqT ?_|refine z19 rfl ?_|fail)
   | false =>
    rw [hi] at a2
    rw [z0ed hi]
    generalize (zr x).1=n at *
    have a3:=z2x n
    by_cases hit:itoa n=x
    ·rw [if_pos (by simpa using hit)]
     have hag':=hag (set4 (o0,o1,o2,o3) k n) trivial
     have hit':¬ itoa n≠x:=fun h=>h hit
     match k,hk,hx,hag' with
     | 0,_,hx,hag' =>
      repeat' (first|refine dq1 ?_|refine dqc ?_|refine dqK rfl (a2) ?_|refine dqk rfl (a3) ?_|refine z4 (z5d rfl) ?_|refine dqs ?_ (z1k rfl rfl (by decide) rfl)|refine z4c (zu (z1k rfl rfl (by decide) rfl) (zu (z1k rfl rfl (by decide) rfl) (zu (z1k rfl rfl (by decide) rfl) (zu (z1k rfl rfl (by decide) rfl) z5w)))) ?_ rfl|refine dqT ?_|refine dqF ?_|refine z13 rfl ?_|fail)
      exact z9 rfl rfl hag'
     | 1,_,hx,hag' =>
      repeat' (first|refine dq1 ?_|refine dqc ?_|refine dqK rfl (a2) ?_|refine dqk rfl (a3) ?_|refine z4 (z5d rfl) ?_|refine dqs ?_ (z1k rfl rfl (by decide) rfl)|refine z4c (zu (z1k rfl rfl (by decide) rfl) (zu (z1k rfl rfl (by decide) rfl) (zu (z1k rfl rfl (by decide) rfl) (zu (z1k rfl rfl (by decide) rfl) z5w)))) ?_ rfl|refine dqT ?_|refine dqF ?_|refine z13 rfl ?_|fail)
      exact z9 rfl rfl hag'
     | 2,_,hx,hag' =>
      repeat' (first|refine dq1 ?_|refine dqc ?_|refine dqK rfl (a2) ?_|refine dqk rfl (a3) ?_|refine z4 (z5d rfl) ?_|refine dqs ?_ (z1k rfl rfl (by decide) rfl)|refine z4c (zu (z1k rfl rfl (by decide) rfl) (zu (z1k rfl rfl (by decide) rfl) (zu (z1k rfl rfl (by decide) rfl) (zu (z1k rfl rfl (by decide) rfl) z5w)))) ?_ rfl|refine dqT ?_|refine dqF ?_|refine z13 rfl ?_|fail)
      exact z9 rfl rfl hag'
     | 3,_,hx,hag' =>
      repeat' (first|refine dq1 ?_|refine dqc ?_|refine dqK rfl (a2) ?_|refine dqk rfl (a3) ?_|refine z4 (z5d rfl) ?_|refine dqs ?_ (z1k rfl rfl (by decide) rfl)|refine z4c (zu (z1k rfl rfl (by decide) rfl) (zu (z1k rfl rfl (by decide) rfl) (zu (z1k rfl rfl (by decide) rfl) (zu (z1k rfl rfl (by decide) rfl) z5w)))) ?_ rfl|refine dqT ?_|refine dqF ?_|refine z13 rfl ?_|fail)
      exact z9 rfl rfl hag'
     | k+4,hk,_,_=>exact absurd hk (by omega)
    ·rw [if_neg (by simpa using hit)]
     repeat' (first|refine dq1 ?_|refine dqc ?_|refine dqK rfl (a2) ?_|refine dqk rfl (a3) ?_|refine z4 (z5d rfl) ?_|exact z5 rfl rfl|refine dqT ?_|refine z13 rfl ?_|fail)
  ·rintro ⟨o0,o1,o2,o3⟩ - again
   rw [zeb]
   repeat' (first|refine dq1 ?_|exact z5 rfl rfl|refine dqF ?_|fail)
attribute [local irreducible] z21 z1y zeb
noncomputable def z4h:z7:=spD (fun _:List UInt8=>True) fun s=>z0m s
theorem zmz (s:List UInt8):z4h [.s s]=some (z43 (z0m s).1++[I (z0m s).2]):=zd (f:=fun s:List UInt8=>z0m s) s trivial
theorem z05n (h:z8c) (l:List Tx):z1y h l []=zw5 h l:=by with_unfolding_all rfl
theorem z027 (h:z8c) (l:List Tx) (p:List UInt8) (r:List (List UInt8)):z1y h l (p::r)=if (z09 p).2≠0 then (zch,(z09 p).2) else z1y h (l++[(z09 p).1]) r:=by with_unfolding_all rfl
attribute [local irreducible] z30 z52 z6u z8b
theorem z05o:Meets Tryz.prog z4h 12 ⟨[.one],[(true,[.scal,.scal,.scal,.scal,.pure]),(false,[.scal])],false⟩:=by
 refine z7i (sp:=(z0g [(48,z52),(50,z6u),(63,z8b),(72,z30),(92,z76)])) (sigs:=z0k) (cut:=[]) (hints:=[⟨8,[.n 9 4 660 56 3,.c 9 4 660,.t 3,.t 5]⟩]) (fns:=[z9t 207 Tryz.f207 [] []]) (dep:=1) (pool:=600) (fn:=Tryz.f12) (t:=zem) (by kernel_rfl) (by kernel_rfl) (by kernel_rfl) ?_ ?_ ?_
 ·exact (z2k (fn:=Tryz.f207) (by kernel_rfl) (by kernel_rfl) (by kernel_rfl) (by kernel_rfl) (by kernel_rfl) z8t)
 ·exact (z04 (L:=[(48,z52),(50,z6u),(63,z8b),(72,z30),(92,z76)]) ⟨z6 rfl zsm,z6 rfl z04h,z6 rfl z07x,z6 rfl zkn,z6 rfl zyn,trivial⟩)
 ·rintro ds rs hok h
  obtain ⟨s,-,rfl,rfl⟩:=zl h
  clear h
  refine ⟨⟨s.length+5000,?_⟩,z7p ⟨rfl,rfl,rfl,rfl,rfl,trivial⟩⟩
  show den _ _ zem [.s s] []=ret (z0m s)
  unfold zem z0m
  repeat' (first|refine dq1 ?_|exact z5 rfl rfl|refine tR (fun h=>?_) fun h=>?_|fail)
  have hs4:s.length≤4000:=by omega
  have a1:=zfn s [10] (by omega)
  have hc:(Go.Lib.cut s [10]).1.length≤4000∧(Go.Lib.cut s [10]).2.1.length≤4000:=by
   unfold Go.Lib.cut
   split
   ·simp;omega
   ·simp;omega
  have a2:=zim (Go.Lib.cut s [10]).1 (by omega)
  generalize Go.Lib.cut s [10]=c at *
  obtain ⟨first,rest,fd⟩:=c
  simp only at *
  generalize z21 first=nb at *
  obtain ⟨⟨h0,h1,h2,h3⟩,ok⟩:=nb
  obtain ⟨hc1,hc2⟩:=hc
  obtain ⟨q1,q2,q3⟩:=zec rest.length rest (Nat.le_refl _)
  simp only at *
  cases ok with
  | false =>
   repeat' (first|refine dq1 ?_|refine dqK rfl (a1) ?_|refine dqK rfl (a2) ?_|exact z5 rfl rfl|refine tN (fun h=>?_) fun h=>?_|fail)
   all_goals contradiction
  | true =>
  repeat' (first|refine dq1 ?_|refine dqK rfl (a1) ?_|refine dqK rfl (a2) ?_|refine dqs ?_ (z1k rfl rfl (by decide) rfl)|exact z5 rfl rfl|refine tN (fun h=>?_) fun h=>?_|fail)
  (refine zy (fun (a:List Tx × List UInt8) k=>[.l 3 (a.1.map eTx),I 0,.s a.2]) (fun (a:List Tx × List UInt8) _ (r:List (List UInt8))=>z1y (h0,h1,h2,h3) a.1 r) (fun a k=>a.1.length=k∧a.2.length≤4000∧∃ f,a.2.length≤f∧(z10 rest.length rest).drop k=z10 f a.2) ([],rest) (z10 rest.length rest) ?_ ?_ ?_ ?_ ?_;rfl;exact ⟨rfl,hc2,rest.length,Nat.le_refl _,rfl⟩;omega)
  ·rintro ⟨txs,s2⟩ k x r hx hd hk ⟨i1,i2,f,i3,i4⟩ again hag
   simp only at i1 i2 i3 i4 hag ⊢
   rw [hd] at i4
   obtain ⟨hne,hxp,g,rfl,hr⟩:=z026 i4
   have hpos:0<s2.length:=List.length_pos_iff.2 hne
   have hxne:=zi8 hne
   have hxpos:0<x.length:=by rw [hxp];exact List.length_pos_iff.2 hxne
   have hxle:x.length≤s2.length:=by
    have:=congrArg List.length (zfy s2)
    rw [List.length_append,← hxp] at this
    omega
   have a3:=zlu (s2.drop (1:Int).toNat) z11 (by rw [List.length_drop];omega)
   have hK:Go.Lib.index (s2.drop (1:Int).toNat) z11=z4v s2:=by with_unfolding_all rfl
   rw [hK] at a3
   have a4:=zq3 x
   have hd1:(z10 rest.length rest).drop (k+1)=r:=by rw [← List.drop_drop,hd];rfl
   have hag':=fun t=>hag (txs++[t],s2.drop ((x.length:Int)).toNat) ⟨by simp only [List.length_append,List.length_cons,List.length_nil];omega,by simp only [List.length_drop];omega,g,by simp only [List.length_drop];omega,by rw [hd1,hr,Int.toNat_natCast]⟩
   clear hag
   rw [z027]
   have hkq:k<4001:=by omega
   generalize z09 x=q at *
   obtain ⟨t,e⟩:=q
   have hag':=hag' t
   by_cases h0k:0≤z4v s2
   ·have hlt:=z07y hne h0k
    have hxt:s2.take (z4v s2+2).toNat=x:=by rw [hxp];with_unfolding_all exact (if_pos h0k).symm
    generalize z4v s2=j at *
    simp only at a4 hag' ⊢
    repeat' (first|refine dq1 ?_|refine dqk rfl (a3) ?_|refine z4 (zil rfl rfl (by omega) (by omega)) ?_|refine dqT ?_|fail)
    refine z4 (z0bt rfl rfl (by omega) (by omega)) ?_ rfl
    rw [hxt]
    repeat' (first|refine dq1 ?_|refine dqK rfl (a4) ?_|refine z4 (z1h rfl rfl (by simp)) ?_|refine z4 (zil rfl rfl (by omega) (by omega)) ?_|exact z5 rfl rfl|refine tR (fun h=>?_) fun h=>?_|fail)
    exact z9 rfl rfl hag'
   ·have hxt:s2=x:=by rw [hxp];with_unfolding_all exact (if_neg h0k).symm
    generalize z4v s2=j at *
    subst hxt
    simp only at a4 hag' ⊢
    repeat' (first|refine dq1 ?_|refine dqk rfl (a3) ?_|refine dqK rfl (a4) ?_|refine z4 (z1h rfl rfl (by simp)) ?_|refine z4 (zil rfl rfl (by omega) (by omega)) ?_|exact z5 rfl rfl|refine tR (fun h=>?_) fun h=>?_|refine dqT ?_|refine dqF ?_|fail)
    exact z9 rfl rfl hag'
  ·rintro ⟨txs,s2⟩ ⟨i1,i2,f,i3,i4⟩ again
   simp only at i1 i2 i3 i4 ⊢
   rw [List.drop_length] at i4
   obtain rfl:=z05m i4 i3
   rw [z05n]
   unfold zw5
   have a5:=zda ⟨h0,h1,h2,h3,txs⟩
   simp only at a5
   have hnn:¬ ([]:List UInt8)≠[]:=fun h=>h rfl
   repeat' (first|refine dq1 ?_|refine dqk rfl (a5) ?_|exact z5 rfl rfl|refine tR (fun h=>?_) fun h=>?_|refine dqF ?_|fail)
end
section
open Go.RowKit
open Go.Lib (itoa)
set_option maxRecDepth 100000
set_option maxHeartbeats 4000000
def z0cg:List Int→List Int→Nat
 | a::x,b::y=>if a=b then z0cg x y+1 else 0
 | _,_=>0
section
variable {α:Type} {f:α→List Dt} {sp:Nat→z7} {E:Env}
end
attribute [local irreducible] den denX z0r z14
attribute [local irreducible] z08 spD z70 z0h5 z08d z0ca z1j z0cg
attribute [local irreducible] zxb zhh
attribute [local irreducible] z42 zxj
end
section
open Go.RowKit
open Go.Lib (itoa)
set_option maxRecDepth 100000
set_option maxHeartbeats 4000000
attribute [local irreducible] den denX z0r z14
theorem z0gh (a b:Block):(if a.parent=b.parent then if a.height=b.height then if a.work=b.work then if a.nonce=b.nonce then decide (a.txs=b.txs) else false else false else false else false)=decide (a=b):=by
 cases a;cases b
 simp only [Block.mk.injEq,Bool.decide_and]
 split <;> rename_i h1 <;> simp only [h1,decide_true,decide_false,Bool.true_and,Bool.false_and]
 split <;> rename_i h2 <;> simp only [h2,decide_true,decide_false,Bool.true_and,Bool.false_and]
 split <;> rename_i h3 <;> simp only [h3,decide_true,decide_false,Bool.true_and,Bool.false_and]
 split <;> rename_i h4 <;> simp only [h4,decide_true,decide_false,Bool.true_and,Bool.false_and]
noncomputable def zgq:z7:=spD (fun _:List Tx × List Tx=>True) fun x=>decide (x.1=x.2)
theorem z05p (l m:List Tx):zgq [.l 3 (l.map eTx),.l 3 (m.map eTx)]=some [.b (decide (l=m))]:=zd (f:=fun x:List Tx × List Tx=>decide (x.1=x.2)) (l,m) trivial
noncomputable def z8j:z7:=spD (fun _:Block × Block=>True) fun x=>decide (x.1=x.2)
theorem zqf (a b:Block):z8j [I a.parent,I a.height,I a.work,I a.nonce,.l 3 (a.txs.map eTx),I b.parent,I b.height,I b.work,I b.nonce,.l 3 (b.txs.map eTx)]=some [.b (decide (a=b))]:=zd (f:=fun x:Block × Block=>decide (x.1=x.2)) (a,b) trivial
theorem zqg (x y:Tx):z7o [I x.height,.l 3 (x.ins.map eIn),.l 2 (x.outs.map z27),I y.height,.l 3 (y.ins.map eIn),.l 2 (y.outs.map z27)]=some [.b (decide (x=y))]:=zwc x y
attribute [local irreducible] z08 spD
def z0bv:T :=
 .lets [.call 69 [.v 9,.v 10,.v 11,.v 12,.v 13,.v 14] 0] [] (.lets [.not (.v 15)] [] (.ite (.v 16) (.ret [.c (.b false)]) (.lets [.bin .add (.v 7) (.c (.i .i64 1))] [] (.again 0
 [.v 6,.v 17]))))
def z0bw:T :=
 .lets [.idx (.v 0) (.v 7) 0,.idx (.v 0) (.v 7) 1,.idx (.v 0) (.v 7) 2] [] (.lets [] [.inr 3 (.v 1) (.v 7)] (.lets [.idx (.v 1) (.v 7) 0,.idx (.v 1) (.v 7) 1,.idx (.v 1) (.v 7)
 2] [] z0bv))
def z0bx:T :=
 .lets [.len (.v 0)] [] (.loop [.c (.b false),.c (.i .i64 0)] (.lets [.bin .lss (.v 7) (.v 5)] [] (.ite (.v 8) (.lets [] [.inr 3 (.v 0) (.v 7)] z0bw) (.ret [.c (.b true)]))))
def zyo:T :=
 .lets [.len (.v 0)] [] (.lets [.len (.v 1)] [] (.lets [.bin .neq (.v 2) (.v 3)] [] (.ite (.v 4) (.ret [.c (.b false)]) z0bx)))
def z028:T :=
 .ite (.v 12) (.lets [.bin .eql (.v 3) (.v 8)] [] (.ite (.v 13) (.lets [.call 76 [.v 4,.v 9] 0] [] (.ret [.v 14])) (.ret [.c (.b false)]))) (.ret [.c (.b false)])
def zg6:T :=
 .lets [.bin .eql (.v 0) (.v 5)] [] (.ite (.v 10) (.lets [.bin .eql (.v 1) (.v 6)] [] (.ite (.v 11) (.lets [.bin .eql (.v 2) (.v 7)] [] z028) (.ret [.c (.b false)]))) (.ret
 [.c (.b false)]))
attribute [local irreducible] z7o
theorem z0gi:Meets Tryz.prog zgq 61 ⟨[.one,.one,.clos 62 []],[(false,[.scal])],true⟩:=by
 refine zn (sp:=(z0g [(69,z7o)])) (sigs:=z0k) (cut:=[]) (hints:=[⟨4,[.t 6,.t 17]⟩]) (fn:=Tryz.f61) (t:=zyo) (by kernel_rfl) (by kernel_rfl) (by kernel_rfl) ?_ ?_
 ·exact (z04 (L:=[(69,z7o)]) ⟨z6 rfl z0bb,trivial⟩)
 ·rintro ds rs hok h
  obtain ⟨⟨l,m⟩,-,rfl,rfl⟩:=zl h
  clear h
  have hll:=ok_l (hok (.l 3 (l.map eTx)) (List.mem_cons_self ..))
  refine ⟨⟨l.length+1,?_⟩,z0e rfl⟩
  show den _ _ zyo [.l 3 (l.map eTx),.l 3 (m.map eTx)] []=ret (decide (l=m))
  rw [zg0]
  unfold zyo
  repeat' (first|refine dq1 ?_|exact z5 rfl rfl|refine tR (fun h=>?_) fun h=>?_|fail)
  have hlm:l.length=m.length:=by omega
  (refine zy (fun (_:Unit) k=>[.b false,I k]) (fun (_:Unit) k (r:List Tx)=>decide (r=m.drop k)) (fun _ _=>True) () l ?_ ?_ ?_ ?_ ?_;rfl;exact trivial;exact Nat.lt_succ_self _)
  ·rintro _ k x r hx hd hk - again hag
   have hy:m[k]? = some (m[k]'(by omega)):=List.getElem?_eq_getElem (by omega)
   have hdy:m.drop k=m[k]'(by omega)::m.drop (k+1):=List.drop_eq_getElem_cons (by omega)
   rw [hdy]
   generalize m[k]'(by omega)=y at *
   have e:decide (x::r=y::m.drop (k+1))=if decide (x=y)=true then decide (r=m.drop (k+1)) else false:=by
    by_cases h:x=y
    ·simp [h]
    ·simp [h]
   rw [e]
   have hkm:k<m.length:=by omega
   repeat' (first|refine dq1 ?_|refine dqc ?_|refine dqm ?_|refine dqk rfl (zqg x y) ?_|exact z5 rfl rfl|exact z9 rfl rfl (hag () trivial)|refine tN (fun h=>?_) fun h=>?_|refine dqT ?_|fail)
  ·rintro _ - again
   rw [hlm,List.drop_length]
   repeat' (first|refine dq1 ?_|exact z5 rfl rfl|refine dqF ?_|fail)
theorem z08x:Meets Tryz.prog z8j 16 ⟨[.agg 5,.agg 5],[(false,[.scal])],true⟩:=by
 refine zn (sp:=(z0g [(76,zgq)])) (sigs:=z0k) (cut:=[]) (hints:=[]) (fn:=Tryz.f16) (t:=zg6) (by kernel_rfl) (by kernel_rfl) (by kernel_rfl) ?_ ?_
 ·exact (z04 (L:=[(76,zgq)]) ⟨z6 rfl z0gi,trivial⟩)
 ·rintro ds rs - h
  obtain ⟨⟨a,b⟩,-,rfl,rfl⟩:=zl h
  clear h
  refine ⟨⟨1,?_⟩,z0e rfl⟩
  show den _ _ zg6 [I a.parent,I a.height,I a.work,I a.nonce,.l 3 (a.txs.map eTx),I b.parent,I b.height,I b.work,I b.nonce,.l 3 (b.txs.map eTx)] []=ret (decide (a=b))
  rw [← z0gh]
  unfold zg6
  repeat' (first|refine dq1 ?_|refine dqk rfl (z05p _ _) ?_|exact z5 rfl rfl|refine tR (fun h=>?_) fun h=>?_|fail)
def lb0:Block:=⟨0,1,2,0,[⟨1,[],[⟨64,[]⟩]⟩]⟩
def lbT:List UInt8:=[98,108,111,99,107,32,48,32,49,32,50,32,48,10,116,120,32,49,10,111,117,116,32,54,52,58,10]
def lbX:List UInt8:=[116,120,32,49,10,111,117,116,32,54,52,58,10]
deriving instance DecidableEq for Undo
theorem z08y:z07 lb0=(lbT,0):=by with_unfolding_all decide +kernel
theorem z08z:z12 ⟨[]⟩ lb0=([lbX,lbT],2,[1],0):=by with_unfolding_all decide +kernel
theorem z0by:z70 ⟨[]⟩ [] lb0=([⟨⟨1,0⟩,⟨64,[]⟩,1,true⟩],[⟨[]⟩],0):=by with_unfolding_all decide +kernel
noncomputable def zbp:z7:=spD (fun _:Unit=>True) fun _=>true
theorem z029:zbp []=some [.b true]:=zd (f:=fun _:Unit=>true) () trivial
attribute [local irreducible] z07 z12 z70 z1u z3n z42
def z090:T :=
 .lets [.bin .eql (.v 22) (.c (.i .i64 1))] [] (.ite (.v 23) (.lets [] [.inr 6 (.v 8) (.c (.i .i64 0))] (.lets [.idx (.v 8) (.c (.i .i64 0)) 5] [] (.ret [.v 24]))) (.ret [.c (.b
 false)]))
def z091:T :=
 .ite (.v 19) (.lets [.len (.v 8)] [] (.lets [.bin .eql (.v 20) (.c (.i .i64 1))] [] (.ite (.v 21) (.lets [.len (.v 9)] [] z090) (.ret [.c (.b false)])))) (.ret [.c (.b false)])
def z092:T :=
 .lets [.mk 1 [[.c (.i .i64 1)]]] [] (.lets [.call 54 [.v 6,.v 16] 0] [] (.ite (.v 17) (.lets [.len (.v 4)] [] (.lets [.bin .eql (.v 18) (.c (.i .i64 2))] [] z091)) (.ret [.c
 (.b false)])))
def z093:T :=
 .lets [.bin .eql (.v 2) (.c (.s [98,108,111,99,107,32,48,32,49,32,50,32,48,10,116,120,32,49,10,111,117,116,32,54,52,58,10]))] [] (.ite (.v 14) (.lets [.bin
 .eql (.v 5) (.c (.i .i64 2))] [] (.ite (.v 15) z092 (.ret [.c (.b false)]))) (.ret [.c (.b false)]))
def z094:T :=
 .lets [.bin .eql (.v 7) (.c (.i .i64 0))] [] (.ite (.v 12) (.lets [.bin .eql (.v 10) (.c (.i .i64 0))] [] (.ite (.v 13) z093 (.ret [.c (.b false)]))) (.ret [.c (.b false)]))
def z095:T :=
 .lets [.call 75 [.c (.nil 1),.c (.nil 6),.c (.i .i64 0),.c (.i .i64 1),.c (.i .i64 2),.c (.i .i64 0),.v 1] 0,.call 75 [.c (.nil 1),.c (.nil 6),.c (.i .i64 0),.c (.i .i64
 1),.c (.i .i64 2),.c (.i .i64 0),.v 1] 1,.call 75 [.c (.nil 1),.c (.nil 6),.c (.i .i64 0),.c (.i .i64 1),.c (.i .i64 2),.c (.i .i64 0),.v 1] 2] [] (.lets [.bin .eql (.v 3)
 (.c (.i .i64 0))] [] (.ite (.v 11) z094 (.ret [.c (.b false)])))
def z096:T :=
 .lets [.call 73 [.c (.nil 1),.c (.i .i64 0),.c (.i .i64 1),.c (.i .i64 2),.c (.i .i64 0),.v 1] 0,.call 73 [.c (.nil 1),.c (.i .i64 0),.c (.i .i64 1),.c (.i .i64 2),.c (.i
 .i64 0),.v 1] 1,.call 73 [.c (.nil 1),.c (.i .i64 0),.c (.i .i64 1),.c (.i .i64 2),.c (.i .i64 0),.v 1] 2,.call 73 [.c (.nil 1),.c (.i .i64 0),.c (.i .i64 1),.c (.i .i64
 2),.c (.i .i64 0),.v 1] 3] [] z095
def z097:T :=
 .lets [.call 65 [.c (.i .i64 0),.c (.i .i64 1),.c (.i .i64 2),.c (.i .i64 0),.v 1] 0,.call 65 [.c (.i .i64 0),.c (.i .i64 1),.c (.i .i64 2),.c (.i .i64 0),.v 1] 1] []
 z096
def zn0:T :=
 .lets [.mk 2 [[.c (.i .i64 64),.c (.nil 2)]]] [] (.lets [.mk 3 [[.c (.i .i64 1),.c (.nil 3),.v 0]]] [] z097)
attribute [local irreducible] z9n
theorem z0ee:Meets Tryz.prog zbp 14 ⟨[],[(false,[.scal])],true⟩:=by
 refine zn (sp:=(z0g [(54,z9n),(65,z1u),(73,z3n),(75,z42)])) (sigs:=z0k) (cut:=[]) (hints:=[]) (fn:=Tryz.f14) (t:=zn0) (by kernel_rfl) (by kernel_rfl) (by kernel_rfl) ?_ ?_
 ·exact (z04 (L:=[(54,z9n),(65,z1u),(73,z3n),(75,z42)]) ⟨z6 rfl z0b1,z6 rfl ze7,z6 rfl zko,z6 rfl zyc,trivial⟩)
 ·rintro ds rs - h
  obtain ⟨⟨⟩,-,rfl,rfl⟩:=zl h
  clear h
  refine ⟨⟨1,?_⟩,z0e rfl⟩
  show den _ _ zn0 [] []=ret true
  have a1:=z8h lb0
  rw [z08y] at a1
  have a2:=zdb ⟨[]⟩ lb0
  rw [z08z] at a2
  have a3:=zik ⟨[]⟩ [] lb0
  rw [z0by] at a3
  have a4:=zvm [1] [1]
  rw [decide_eq_true rfl] at a4
  have x0:([⟨⟨1,0⟩,⟨64,[]⟩,1,true⟩]:List Coin)[(0:Int).toNat]? = some ⟨⟨1,0⟩,⟨64,[]⟩,1,true⟩:=rfl
  have x1:([⟨⟨1,0⟩,⟨64,[]⟩,1,true⟩]:List Coin).length=1:=rfl
  unfold zn0
  repeat' (first|refine dq1 ?_|refine dqc ?_|refine dqK rfl (a1) ?_|refine dqK rfl (a2) ?_|refine dqK rfl (a3) ?_|refine dqk rfl (a4) ?_|refine z4 (z1h rfl rfl (by simp)) ?_|exact z5 rfl rfl|refine dqT ?_|refine z19 rfl ?_|fail)
end
section
open Go.RowKit
open Go.Lib (itoa)
set_option maxRecDepth 100000
set_option maxHeartbeats 4000000
noncomputable def z2i:z7:=spD (fun _:Block=>True) fun b=>ze b
theorem zc6 (b:Block):z2i [I b.parent,I b.height,I b.work,I b.nonce,.l 3 (b.txs.map eTx)]=some [I (ze b)]:=zd (f:=fun b:Block=>ze b) b trivial
theorem zhl:Meets Tryz.prog z2i 13 ⟨[.agg 5],[(false,[.scal])],true⟩ :=
 z85 rfl (z0v (fn:=Tryz.f13) (by kernel_rfl) (by kernel_rfl) (by kernel_rfl)) fun b _ W F us hF h=>by
  obtain ⟨cs,rfl,hr⟩:=z78 h
  have hS:Sep W F [rep b cs shBlock] W:=(Sep.start W F hF.1).addRep (S:=shBlock) (shBlock.more (fun b hb=>⟨.inl hb,by simp⟩) (she_block.of hr))
  exact ⟨(zsg b).i64,(z0bz b cs hS At.z).mono fun e w' h=>⟨h.1,h.2.below⟩⟩
noncomputable def z5l:z7:=spD (fun _:Block × Block=>True) fun x=>decide (x.1=x.2)
theorem zde (x y:Block):z5l [I x.parent,I x.height,I x.work,I x.nonce,.l 3 (x.txs.map eTx),I y.parent,I y.height,I y.work,I y.nonce,.l 3 (y.txs.map eTx)]=some [.b (decide (x=y))]:=zd (f:=fun x:Block × Block=>decide (x.1=x.2)) (x,y) trivial
theorem z05r:Meets Tryz.prog z5l 17 ⟨[.agg 5,.agg 5],[(false,[.scal])],true⟩ :=
 zaa rfl (z0v (fn:=Tryz.f17) (by kernel_rfl) (by kernel_rfl) (by kernel_rfl)) fun x _ W F us hF h=>by
  obtain ⟨c1,us,rfl,r1,h⟩:=z02u (d1:=z43 x.1) (d2:=z43 x.2) h rfl
  obtain ⟨c2,rfl,r2⟩:=z78 h
  have hS:Sep W F [rep x.1 c1 shBlock] W:=(Sep.start W F hF.1).addRep (S:=shBlock) (shBlock.more (fun b hb=>⟨.inl hb,by simp⟩) (she_block.of r1))
  have hS2:Sep W F [rep x.2 c2 shBlock,rep x.1 c1 shBlock] W:=hS.addRep (S:=shBlock) (shBlock.more (fun b hb=>⟨.inl hb,fun q hq=>by rcases List.mem_cons.1 hq with rfl|hq;exact (by simp [rep,zfa]);cases hq⟩) (she_block.of r2))
  exact (zvl x.1 x.2 c1 c2 hS2 (At.s At.z) At.z).mono fun e w' h=>⟨h.1,h.2.below⟩
attribute [local irreducible] z08 spD itoa zb ze z09 z1s zk za
attribute [local irreducible] den denX z0r z14
theorem zyp (b:Block):z3x b=tBlk++[b.parent,b.height,b.work,b.nonce].flatMap (fun n=>32::itoa n)++[10]:=by simp [z3x,tBlk]
noncomputable def z71:z7:=spD (fun b:Block=>ze b=0) fun b=>z3e b
theorem zn1 (b:Block) (h:ze b=0):z71 [I b.parent,I b.height,I b.work,I b.nonce,.l 3 (b.txs.map eTx)]=some [.s (z3e b)]:=zd (p:=fun b:Block=>ze b=0) (f:=fun b:Block=>z3e b) b h
def zyq:T :=
 .lets [.call 37 [.v 10] 0] [] (.lets [.bin .add (.c (.s [32])) (.v 11)] [] (.lets [.bin .add (.v 7) (.v 12)] [] (.lets [.bin .add (.v 8) (.c (.i .i64 1))] [] (.again 0 [.v 13,.v
 14]))))
def zyr:T :=
 .lets [.idx (.v 4) (.v 13) 0,.idx (.v 4) (.v 13) 1,.idx (.v 4) (.v 13) 2] [] (.lets [.call 80 [.v 15,.v 16,.v 17] 0] [] (.lets [.bin .add (.v 12) (.v 18)] [] (.lets [.bin .add
 (.v 13) (.c (.i .i64 1))] [] (.again 1 [.v 19,.v 20]))))
def zys:T :=
 .lets [.len (.v 4)] [] (.loop [.v 10,.c (.i .i64 0)] (.lets [.bin .lss (.v 13) (.v 11)] [] (.ite (.v 14) (.lets [] [.inr 3 (.v 4) (.v 13)] zyr) (.ret [.v 12]))))
def zyt:T :=
 .lets [.bin .lss (.v 8) (.v 6)] [] (.ite (.v 9) (.lets [] [.inr 1 (.v 5) (.v 8)] (.lets [.idx (.v 5) (.v 8) 0] [] zyq)) (.lets [.bin .add (.v 7) (.c (.s [10]))] []
 zys))
def zen:T :=
 .lets [.mk 1 [[.v 0],[.v 1],[.v 2],[.v 3]]] [] (.lets [.len (.v 5)] [] (.loop [.c (.s [98,108,111,99,107]),.c (.i .i64 0)] zyt))
attribute [local irreducible] z1e z8f
theorem z05s:Meets Tryz.prog z71 18 ⟨[.agg 5],[(false,[.scal])],true⟩:=by
 refine zn (sp:=(z0g [(37,z1e),(80,z8f)])) (sigs:=z0k) (cut:=[]) (hints:=[⟨3,[.t 3,.t 18]⟩,⟨9,[.t 3,.t 33]⟩]) (fn:=Tryz.f18) (t:=zen) (by kernel_rfl) (by kernel_rfl) (by kernel_rfl) ?_ ?_
 ·exact (z04 (L:=[(37,z1e),(80,z8f)]) ⟨z6 rfl zb7,z6 rfl z087,trivial⟩)
 ·rintro ds rs - h
  obtain ⟨b,hb,rfl,rfl⟩:=zl h
  clear h
  refine ⟨⟨20,?_⟩,z0e rfl⟩
  show den _ _ zen [I b.parent,I b.height,I b.work,I b.nonce,.l 3 (b.txs.map eTx)] []=ret (z3x b++b.txs.flatMap z1s)
  have ok:=z5h hb
  have hn:=ok.len
  have hr:=ok.range
  unfold z2q at hr
  have htb:tBlk.length=5:=rfl
  rw [zyp]
  unfold zen
  repeat' (first|refine z4 (z1h rfl rfl (by simp)) ?_|fail)
  change den _ _ _ [I b.parent,I b.height,I b.work,I b.nonce,.l 3 (b.txs.map eTx),.l 1 (([b.parent,b.height,b.work,b.nonce]:List Int).map z1c)] []=_
  repeat' (first|refine dq1 ?_|fail)
  (refine zy (fun (a:List UInt8) k=>[.s a,I k]) (fun (a:List UInt8) _ (r:List Int)=>a++r.flatMap (fun n=>32::itoa n)++[10]++b.txs.flatMap z1s) (fun a k=>a.length≤5+30 * k) tBlk [b.parent,b.height,b.work,b.nonce] ?_ ?_ ?_ ?_ ?_;rfl;exact (by omega);simp)
  ·rintro a k x r hx hd hk ha again hag
   have hxm:x ∈ [b.parent,b.height,b.work,b.nonce]:=List.mem_of_getElem? hx
   have hxb:0≤x∧x≤1000000000:=by
    simp only [List.mem_cons,List.not_mem_nil,or_false] at hxm
    omega
   have l1:=z3q (n:=x) (by omega) (by omega)
   have hk4:k<4:=hk
   have e:a++(x::r).flatMap (fun n=>32::itoa n)++[10]++b.txs.flatMap z1s=(a++32::itoa x)++r.flatMap (fun n=>32::itoa n)++[10]++b.txs.flatMap z1s:=by simp
   rw [e]
   have hag':=hag (a++32::itoa x) (by simp only [List.length_append,List.length_cons,List.length_nil];omega)
   clear hag e
   repeat' (first|refine dq1 ?_|refine dqc ?_|refine dqk rfl (z2x _) ?_|refine z4 (z4a rfl rfl (by simp only [List.length_append,List.length_cons,List.length_nil];omega)) ?_|refine dqT ?_|fail)
   exact z9 rfl rfl hag'
  ·rintro a ha again
   simp only [List.flatMap_nil,List.append_nil]
   have ha4:a.length≤200:=by simp only [List.length_cons,List.length_nil] at ha;omega
   repeat' (first|refine dq1 ?_|refine z4 (z4a rfl rfl (by simp only [List.length_append,List.length_cons,List.length_nil];omega)) ?_|refine dqF ?_|fail)
   (refine zy (fun (c:List UInt8) k=>[.s c,I k]) (fun (c:List UInt8) _ (r:List Tx)=>c++r.flatMap z1s) (fun c k=>c.length≤300+3000 * k) (a++[10]) b.txs ?_ ?_ ?_ ?_ ?_;rfl;exact (by simp only [List.length_append,List.length_cons,List.length_nil];omega);omega)
   ·rintro c k x r hx hd hk hc again' hag
    have hxc:=ok.each x (List.mem_of_getElem? hx)
    have a3:=zq5 x hxc
    have tl:=zfo hxc
    have e:c++(x::r).flatMap z1s=(c++z1s x)++r.flatMap z1s:=by simp
    rw [e]
    have hag':=hag (c++z1s x) (by rw [List.length_append];omega)
    clear hag e
    repeat' (first|refine dq1 ?_|refine dqc ?_|refine dqm ?_|refine dqk rfl (a3) ?_|refine z4 (z4a rfl rfl (by omega)) ?_|refine dqT ?_|fail)
    exact z9 rfl rfl hag'
   ·rintro c hc again'
    simp only [List.flatMap_nil,List.append_nil]
    repeat' (first|refine dq1 ?_|exact z5 rfl rfl|refine dqF ?_|fail)
section
variable {sp:Nat→z7} {E:Env} {α:Type} {f:α→List Dt} {sz:Nat}
theorem zn2 {a:List α} {u y:α} {m:Int} {A B:Atom} {vs:List Atom} {ds:List Dt} (hm:m=(a.length:Int)) (ha:A.val E=some (.l sz ((a++[u]).map f))) (hb:B.val E=some (I m)) (hv:vals E vs=some ds) (hs:0+ds.length≤sz) (hy:z53 (f u) 0 ds=f y):denX sp E (.set A B 0 vs)=some (.l sz ((a++[y]).map f)):=by
 have h:=zgp (sp:=sp) (l:=a++[u]) (x:=u) (y:=y) (n:=a.length) (m:=m) (j:=0) (by omega) ha hb hv (by omega) hs (by simp) hy
 rw [h]
 simp
end
theorem z02a (h:z8c) (l:List Tx):z1y h l []=zw5 h l:=by with_unfolding_all rfl
theorem zyu (h:z8c) (l:List Tx) (p:List UInt8) (r:List (List UInt8)):z1y h l (p::r)=if (z09 p).2≠0 then (zch,(z09 p).2) else z1y h (l++[(z09 p).1]) r:=by with_unfolding_all rfl
theorem zin (a b c d:Int) (l:List Tx):z2i [I a,I b,I c,I d,.l 3 (l.map eTx)]=some [I (ze ⟨a,b,c,d,l⟩)]:=zc6 ⟨a,b,c,d,l⟩
attribute [local irreducible] z1y z0a
noncomputable def z5m:z7:=spD (fun s:List UInt8=>s.length≤4000) fun s=>z0m s
theorem zn3 (s:List UInt8) (h:s.length≤4000):z5m [.s s]=some [I (z0m s).1.parent,I (z0m s).1.height,I (z0m s).1.work,I (z0m s).1.nonce,.l 3 ((z0m s).1.txs.map eTx),I (z0m s).2]:=zd (p:=fun s:List UInt8=>s.length≤4000) (f:=fun s:List UInt8=>z0m s) s h
def zyv:T :=
 .ite (.v 18) (.ret [.c (.i .i64 0),.c (.i .i64 0),.c (.i .i64 0),.c (.i .i64 0),.c (.nil 3),.c (.i .i64 1)]) (.lets [.mk 1 [[.v 16]]] [] (.lets [.app 1 (.v 12) (.v 19)] []
 (.lets [.bin .add (.v 13) (.c (.i .i64 1))] [] (.again 0 [.v 11,.v 20,.v 21]))))
def zyw:T :=
 .lets [.bin .add (.v 32) (.v 24)] [] (.lets [] [.inr 1 (.v 29) (.v 31)] (.lets [.set (.v 29) (.v 31) 0 [.v 33]] [] (.lets [.bin .add (.v 22) (.c (.i .i64 1))] [] (.again 1 [.v 34,
 .v 35]))))
def zyx:T :=
 .lets [.app 1 (.v 21) (.v 28)] [] (.lets [.len (.v 29)] [] (.lets [.bin .sub (.v 30) (.c (.i .i64 1))] [] (.lets [] [.inr 1 (.v 29) (.v 31)] (.lets [.idx (.v 29) (.v 31) 0] []
 zyw))))
def zyy:T :=
 .lets [.bin .add (.v 33) (.v 24)] [] (.lets [] [.inr 1 (.v 30) (.v 32)] (.lets [.set (.v 30) (.v 32) 0 [.v 34]] [] (.lets [.bin .add (.v 22) (.c (.i .i64 1))] [] (.again 1 [.v 35,
 .v 36]))))
def zyz:T :=
 .lets [.app 1 (.v 21) (.v 29)] [] (.lets [.len (.v 30)] [] (.lets [.bin .sub (.v 31) (.c (.i .i64 1))] [] (.lets [] [.inr 1 (.v 30) (.v 32)] (.lets [.idx (.v 30) (.v 32) 0] []
 zyy))))
def zz0:T :=
 .lets [.bin .add (.v 31) (.v 24)] [] (.lets [] [.inr 1 (.v 21) (.v 30)] (.lets [.set (.v 21) (.v 30) 0 [.v 32]] [] (.lets [.bin .add (.v 22) (.c (.i .i64 1))] [] (.again 1 [.v 33,
 .v 34]))))
def zz1:T :=
 .ite (.v 28) (.lets [.mk 1 [[.c (.s [])]]] [] zyz) (.lets [.len (.v 21)] [] (.lets [.bin .sub (.v 29) (.c (.i .i64 1))] [] (.lets [] [.inr 1 (.v 21) (.v 30)] (.lets [.idx
 (.v 21) (.v 30) 0] [] zz0))))
def zz2:T :=
 .lets [.bin .eql (.v 26) (.c (.i .i64 0))] [] (.ite (.v 27) (.lets [.mk 1 [[.c (.s [])]]] [] zyx) (.lets [.call 46 [.v 24,.c (.s [116,120,32])] 0] [] zz1))
def zz3:T :=
 .lets [.bin .eql (.v 24) (.c (.s []))] [] (.ite (.v 25) (.lets [.bin .add (.v 22) (.c (.i .i64 1))] [] (.again 1 [.v 21,.v 26])) (.lets [.len (.v 21)] [] zz2))
def zz4:T :=
 .ite (.v 34) (.ret [.c (.i .i64 0),.c (.i .i64 0),.c (.i .i64 0),.c (.i .i64 0),.c (.nil 3),.v 33]) (.lets [.mk 3 [[.v 30,.v 31,.v 32]]] [] (.lets [.app 3 (.v 25) (.v 35)] []
 (.lets [.bin .add (.v 27) (.c (.i .i64 1))] [] (.again 2 [.v 36,.v 26,.v 37]))))
def zqh:T :=
 .lets [.idx (.v 21) (.v 27) 0] [] (.lets [.call 81 [.v 29] 0,.call 81 [.v 29] 1,.call 81 [.v 29] 2,.call 81 [.v 29] 3] [] (.lets [.bin .neq (.v 33) (.c (.i .i64 0))] []
 zz4))
def zqi:T :=
 .ite (.v 30) (.ret [.c (.i .i64 0),.c (.i .i64 0),.c (.i .i64 0),.c (.i .i64 0),.c (.nil 3),.v 29]) (.ret [.v 15,.v 16,.v 17,.v 18,.v 25,.c (.i .i64 0)])
def zqj:T :=
 .ite (.v 28) (.lets [] [.inr 1 (.v 21) (.v 27)] zqh) (.lets [.call 103 [.v 15,.v 16,.v 17,.v 18,.v 25] 0] [] (.lets [.bin .neq (.v 29) (.c (.i .i64 0))] []
 zqi))
def zqk:T :=
 .ite (.v 23) (.lets [] [.inr 1 (.v 19) (.v 22)] (.lets [.idx (.v 19) (.v 22) 0] [] zz3)) (.lets [.len (.v 21)] [] (.loop [.c (.nil 3),.v 11,.c (.i .i64 0)] (.lets [.bin
 .lss (.v 27) (.v 24)] [] zqj)))
def zql:T :=
 .lets [.sub 1 (.v 1) (some (.c (.i .i64 1))) none] [] (.lets [.len (.v 19)] [] (.loop [.c (.nil 1),.c (.i .i64 0)] (.lets [.bin .lss (.v 22) (.v 20)] [] zqk)))
def zqm:T :=
 .lets [] [.inr 1 (.v 12) (.c (.i .i64 2))] (.lets [.idx (.v 12) (.c (.i .i64 2)) 0] [] (.lets [] [.inr 1 (.v 12) (.c (.i .i64 3))] (.lets [.idx (.v 12) (.c (.i .i64 3)) 0] []
 zql)))
def zqn:T :=
 .lets [] [.inr 1 (.v 12) (.c (.i .i64 0))] (.lets [.idx (.v 12) (.c (.i .i64 0)) 0] [] (.lets [] [.inr 1 (.v 12) (.c (.i .i64 1))] (.lets [.idx (.v 12) (.c (.i .i64 1)) 0] []
 zqm)))
def zqo:T :=
 .ite (.v 14) (.lets [] [.inr 1 (.v 9) (.v 13)] (.lets [.idx (.v 9) (.v 13) 0] [] (.lets [.call 59 [.v 15] 0,.call 59 [.v 15] 1] [] (.lets [.not (.v 17)] [] zyv))))
 zqn
def zqp:T :=
 .lets [.sub 1 (.v 4) (some (.c (.i .i64 1))) none] [] (.lets [.len (.v 9)] [] (.loop [.c (.i .i64 0),.c (.nil 1),.c (.i .i64 0)] (.lets [.bin .lss (.v 13) (.v 10)] []
 zqo)))
def zqq:T :=
 .lets [.bin .neq (.v 7) (.c (.s [98,108,111,99,107]))] [] (.ite (.v 8) (.ret [.c (.i .i64 0),.c (.i .i64 0),.c (.i .i64 0),.c (.i .i64 0),.c (.nil 3),.c (.i .i64 1)])
 zqp)
def zqr:T :=
 .ite (.v 6) (.ret [.c (.i .i64 0),.c (.i .i64 0),.c (.i .i64 0),.c (.i .i64 0),.c (.nil 3),.c (.i .i64 1)]) (.lets [] [.inr 1 (.v 4) (.c (.i .i64 0))] (.lets [.idx (.v 4) (.c
 (.i .i64 0)) 0] [] zqq))
def zqs:T :=
 .lets [.call 53 [.v 2,.c (.s [10])] 0] [] (.lets [.call 41 [.v 3,.c (.s [32])] 0] [] (.lets [.len (.v 4)] [] (.lets [.bin .neq (.v 5) (.c (.i .i64 5))] [] zqr)))
def zeo:T :=
 .lets [.call 102 [.v 0,.c (.s [10])] 0] [] (.lets [] [.inr 1 (.v 1) (.c (.i .i64 0))] (.lets [.idx (.v 1) (.c (.i .i64 0)) 0] [] zqs))
attribute [local irreducible] z35 z2i z6l z3m z5e z0b z5b
theorem z05t:Meets Tryz.prog z5m 19 ⟨[.one],[(true,[.scal,.scal,.scal,.scal,.pure]),(false,[.scal])],false⟩:=by
 refine z7i (sp:=(z0g [(41,z0b),(46,z35),(53,z5b),(59,z3m),(81,z6l),(102,z5e),(103,z2i)])) (sigs:=z0k) (cut:=[]) (hints:=[⟨8,[.t 3,.r 7 3 1,.t 44]⟩,⟨18,[.r 13 9 1,.t 80]⟩,⟨26,[.n 12 4 660 56 3,.c 12 4 660,.t 3,.t 108]⟩]) (fns:=[z9t 65 Tryz.f65 [] []]) (dep:=1) (pool:=600) (fn:=Tryz.f19) (t:=zeo) (by kernel_rfl) (by kernel_rfl) (by kernel_rfl) ?_ ?_ ?_
 ·exact (z2k (fn:=Tryz.f65) (by kernel_rfl) (by kernel_rfl) (by kernel_rfl) (by kernel_rfl) (by kernel_rfl) z8t)
 ·exact (z04 (L:=[(41,z0b),(46,z35),(53,z5b),(59,z3m),(81,z6l),(102,z5e),(103,z2i)]) ⟨z6 rfl z6j,z6 rfl zh3,z6 rfl zso,z6 rfl zid,z6 rfl z089,z6 rfl zx8,z6 rfl zhl,trivial⟩)
 ·rintro ds rs hok h
  obtain ⟨s,hs,rfl,rfl⟩:=zl h
  clear h
  refine ⟨⟨s.length+5000,?_⟩,z7p ⟨rfl,rfl,rfl,rfl,rfl,trivial⟩⟩
  show den _ _ zeo [.s s] []=ret (z0m s)
  rw [z013 hs]
  have a1:=zig s (by omega)
  obtain ⟨hl1,hl2⟩:=zeh s
  have hfl:=z053 s
  have hlne:=z08a s
  unfold zeo zw9
  generalize zk s=ls at *
  cases ls with
  | nil=>exact absurd rfl hlne
  | cons l0 lr =>
  have hx0:(l0::lr)[(0:Int).toNat]? = some l0:=rfl
  have hlen0:(l0::lr).length=lr.length+1:=rfl
  have hl0:=hl2 l0 (by simp)
  have a2:=zi5 l0 [10]
  have htl:=z8x l0 [10]
  have a3:=z2e (Go.Lib.trimSuffix l0 [10]) 32 (by omega)
  have hcl:=(z3l 32 (Go.Lib.trimSuffix l0 [10])).2
  simp only [List.headD_cons,List.drop_succ_cons,List.drop_zero] at *
  generalize Go.Lib.trimSuffix l0 [10]=q at *
  have hne:=z2p 32 q
  generalize za 32 q=w at *
  cases w with
  | nil=>exact absurd rfl hne
  | cons w0 ws =>
  have hw0:(w0::ws)[(0:Int).toNat]? = some w0:=rfl
  have hlw:(w0::ws).length=ws.length+1:=rfl
  simp only [List.headD_cons,List.drop_succ_cons,List.drop_zero] at *
  by_cases h5:ws.length=4
  rotate_left
  ·repeat' (first|refine dq1 ?_|refine dqc ?_|refine dqk rfl (a1) ?_|refine dqk rfl (a2) ?_|refine dqk rfl (a3) ?_|exact z5 rfl rfl|refine tR (fun h=>?_) fun h=>?_|refine dqT ?_|fail)
   all_goals (exfalso;omega)
  by_cases hw:w0=tBlk
  rotate_left
  ·rw [if_neg (by omega),if_pos hw]
   repeat' (first|refine dq1 ?_|refine dqc ?_|refine dqk rfl (a1) ?_|refine dqk rfl (a2) ?_|refine dqk rfl (a3) ?_|exact z5 rfl rfl|refine dqT ?_|refine dqF ?_|fail)
  subst hw
  rw [if_neg (by omega),if_neg (fun h=>h rfl)]
  repeat' (first|refine dq1 ?_|refine dqc ?_|refine dqk rfl (a1) ?_|refine dqk rfl (a2) ?_|refine dqk rfl (a3) ?_|refine z4 (zd2 rfl) ?_|refine dqF ?_|refine z13 rfl ?_|fail)
  (refine zy (fun (n:List Int) k=>[I 0,.l 1 (n.map z1c),I k]) (fun (n:List Int) _ (r:List (List UInt8))=>zd3 (fun n=>z1y (n.getD 0 0,n.getD 1 0,n.getD 2 0,n.getD 3 0) [] (grp [] lr)) n r) (fun n k=>n.length=k) [] ws ?_ ?_ ?_ ?_ ?_;rfl;exact rfl;omega)
  ·rintro n k x r hx hd hk hn again hag
   have hxl:x.length≤1000000000:=by have:=hcl x (List.mem_cons_of_mem _ (List.mem_of_getElem? hx));omega
   have b1:=z4w x hxl
   rw [zd3,show z20 x=z0a x by with_unfolding_all rfl]
   have hag':=hag (n++[(z0a x).1]) (by simp;omega)
   generalize z0a x=p at *
   obtain ⟨m,g⟩:=p
   simp only at b1 hag' ⊢
   cases g with
   | false =>
    rw [if_pos rfl]
    repeat' (first|refine dq1 ?_|refine dqc ?_|refine dqK rfl (b1) ?_|exact z5 rfl rfl|refine dqT ?_|refine z19 rfl ?_|fail)
   | true =>
    rw [if_neg (by simp)]
    repeat' (first|refine dq1 ?_|refine dqc ?_|refine dqK rfl (b1) ?_|refine dqT ?_|refine z13 rfl ?_|fail)
    exact z9 rfl rfl hag'
  ·rintro n hn again
   rw [zd3]
   have hn4:n.length=4:=by omega
   clear hn
   match n,hn4 with
   | [na,nb,nc,nd],_ =>
   have x0:[na,nb,nc,nd][(0:Int).toNat]? = some na:=rfl
   have x1:[na,nb,nc,nd][(1:Int).toNat]? = some nb:=rfl
   have x2:[na,nb,nc,nd][(2:Int).toNat]? = some nc:=rfl
   have x3:[na,nb,nc,nd][(3:Int).toNat]? = some nd:=rfl
   have xl:[na,nb,nc,nd].length=4:=rfl
   show _=ret (z1y (na,nb,nc,nd) [] (grp [] lr))
   repeat' (first|refine dq1 ?_|refine dqc ?_|refine z4 (zd2 rfl) ?_|refine dqF ?_|fail)
   (refine zy (fun (a:List (List UInt8)) k=>[.l 1 (a.map z26),I k]) (fun (a:List (List UInt8)) _ (r:List (List UInt8))=>z1y (na,nb,nc,nd) [] (grp a r)) (fun a k=>a.length≤k∧a.flatten.length+(lr.drop k).flatten.length≤4000) [] lr ?_ ?_ ?_ ?_ ?_;rfl;exact ⟨by simp,by simp only [List.flatten_nil,List.length_nil,List.drop_zero];omega⟩;omega)
   ·rintro a k x r hx hd hk ⟨ha1,ha2⟩ again' hag
    rw [hd,List.flatten_cons,List.length_append] at ha2
    have hd1:lr.drop (k+1)=r:=by rw [← List.drop_drop,hd];rfl
    rw [grp]
    by_cases e1:x=[]
    ·rw [if_pos e1]
     have hag':=hag a ⟨by omega,by rw [hd1];omega⟩
     repeat' (first|refine dq1 ?_|refine dqc ?_|refine dqT ?_|fail)
     exact z9 rfl rfl hag'
    ·rw [if_neg e1]
     by_cases e2:a=[]
     ·subst e2
      rw [if_pos (.inl rfl)]
      have f1:([x]:List (List UInt8)).flatten.length=x.length:=by simp
      have f0:([]:List (List UInt8)).flatten.length=0:=rfl
      have hag':=hag [x] ⟨by simp only [List.length_append,List.length_cons,List.length_nil];omega,by rw [hd1];omega⟩
      have y0:([[]]:List (List UInt8))[((([[]]:List (List UInt8)).length:Int) - 1).toNat]? = some []:=rfl
      have yl:([[]]:List (List UInt8)).length=1:=rfl
      have ex:[]++x=x:=rfl
      have en:([]:List (List UInt8)).length=0:=rfl
      repeat' (first|refine dq1 ?_|refine dqc ?_|refine z4 (z1h rfl rfl (by simp)) ?_|refine z4 (z4a rfl rfl (by simp only [List.length_append,List.length_cons,List.length_nil];omega)) ?_|refine z4 (zn2 (a:=([]:List (List UInt8))) (u:=([]:List UInt8)) (y:=x) rfl rfl rfl rfl (by simp) rfl) ?_|refine dqT ?_|refine dqF ?_|fail)
      all_goals exact z9 rfl rfl hag'
     ·have hal:0<a.length:=List.length_pos_iff.2 e2
      have b1:=zc0 x tTx
      by_cases hp:Go.Lib.hasPrefix x tTx=true
      ·rw [if_pos (.inr hp)]
       rw [hp] at b1
       have f1:(a++[x]).flatten.length=a.flatten.length+x.length:=by simp
       have hag':=hag (a++[x]) ⟨by simp only [List.length_append,List.length_cons,List.length_nil];omega,by rw [hd1];omega⟩
       have yl:((a++[([]:List UInt8)]).length:Int)=a.length+1:=by simp
       have y0:(a++[([]:List UInt8)])[(((a++[([]:List UInt8)]).length:Int) - 1).toNat]? = some []:=by rw [yl];simp
       have hm:((a++[([]:List UInt8)]).length:Int) - 1=a.length:=by omega
       have ex:[]++x=x:=rfl
       repeat' (first|refine dq1 ?_|refine dqc ?_|refine dqk rfl (b1) ?_|refine z4 (z1h rfl rfl (by simp)) ?_|refine z4 (z4a rfl rfl (by simp only [List.length_append,List.length_cons,List.length_nil];omega)) ?_|refine z4 (zn2 (a:=a) (u:=([]:List UInt8)) (y:=x) hm rfl rfl rfl (by simp) rfl) ?_|refine dqT ?_|refine dqF ?_|refine z19 rfl ?_|fail)
       all_goals exact z9 rfl rfl hag'
      ·have hp:Go.Lib.hasPrefix x tTx=false:=by simpa using hp
       rw [if_neg (by rintro (h|h);exact e2 h;rw [hp] at h;cases h)]
       rw [hp] at b1
       obtain ⟨b,u,rfl⟩:∃ b u,a=b++[u]:=by
        rcases List.eq_nil_or_concat a with k|⟨b,y,k⟩
        ·exact absurd k e2
        ·exact ⟨b,y,by simpa using k⟩
       have eb:(b++[u]).dropLast++[(b++[u]).getLastD []++x]=b++[u++x]:=by simp
       rw [eb]
       have f1:(b++[u++x]).flatten.length=(b++[u]).flatten.length+x.length:=by simp only [List.flatten_append,List.flatten_cons,List.flatten_nil,List.length_append,List.append_nil];omega
       have hag':=hag (b++[u++x]) ⟨by simp only [List.length_append,List.length_cons,List.length_nil] at ha1 ⊢;omega,by rw [hd1];omega⟩
       have yl:((b++[u]).length:Int)=b.length+1:=by simp
       have y0:(b++[u])[(((b++[u]).length:Int) - 1).toNat]? = some u:=by rw [yl];simp
       have hm:((b++[u]).length:Int) - 1=b.length:=by omega
       have hul:u.length≤4000:=by have:=zi9 (p:=u) (a:=b++[u]) (by simp);omega
       have hxl2:x.length≤4000:=by omega
       repeat' (first|refine dq1 ?_|refine dqc ?_|refine dqk rfl (b1) ?_|refine z4 (z4a rfl rfl (by omega)) ?_|refine z4 (zn2 (a:=b) (u:=u) (y:=u++x) hm rfl rfl rfl (by simp) rfl) ?_|refine dqT ?_|refine dqF ?_|refine z13 rfl ?_|fail)
       all_goals exact z9 rfl rfl hag'
   ·rintro a ⟨ha1,ha2⟩ again'
    rw [grp]
    have hpl:∀ p ∈ a,p.length≤4000:=fun p hp=>by have:=zi9 hp;omega
    have hal:a.length≤5000:=by omega
    repeat' (first|refine dq1 ?_|refine dqF ?_|fail)
    (refine zy (fun (l:List Tx) k=>[.l 3 (l.map eTx),I 0,I k]) (fun (l:List Tx) _ (r:List (List UInt8))=>z1y (na,nb,nc,nd) l r) (fun l k=>l.length≤k) [] a ?_ ?_ ?_ ?_ ?_;rfl;exact (by simp);omega)
    ·rintro l k x r hx hd hk hl again2 hag
     have c1:z6l [.s x]=some [I (z09 x).1.height,.l 3 ((z09 x).1.ins.map eIn),.l 2 ((z09 x).1.outs.map z27),I (z09 x).2]:=zq6 x (hpl x (List.mem_of_getElem? hx))
     rw [zyu]
     have hag':=hag (l++[(z09 x).1]) (by simp;omega)
     generalize z09 x=z at *
     obtain ⟨t,e⟩:=z
     simp only at c1 hag' ⊢
     repeat' (first|refine dq1 ?_|refine dqc ?_|refine dqK rfl (c1) ?_|refine z4 (z1h rfl rfl (by simp)) ?_|exact z5 rfl rfl|refine tR (fun h=>?_) fun h=>?_|refine dqT ?_|fail)
     exact z9 rfl rfl hag'
    ·rintro l hl again2
     rw [z02a]
     unfold zw5
     have d1:=zin na nb nc nd l
     simp only at d1 ⊢
     generalize ze ⟨na,nb,nc,nd,l⟩=ce at *
     repeat' (first|refine dq1 ?_|refine dqk rfl (d1) ?_|exact z5 rfl rfl|refine tR (fun h=>?_) fun h=>?_|refine dqF ?_|fail)
end
section
open Go.RowKit
open Go.Lib (itoa)
set_option maxRecDepth 100000
set_option maxHeartbeats 8000000
attribute [local irreducible] z08 spD itoa z8 zb ze z0m z07 z3e
attribute [local irreducible] den denX z0r z14
noncomputable def zn4:z7:=spD (fun _:Block × Block × List UInt8=>True) fun _=>true
def zku:T :=
 .ite (.v 35) (.lets [.call 104 [.v 13,.v 14,.v 15,.v 16,.v 17,.c (.i .i64 0),.c (.i .i64 0),.c (.i .i64 0),.c (.i .i64 0),.c (.nil 3)] 0] [] (.ret [.v 36])) (.ret [.c (.b
 false)])
def zkv:T :=
 .lets [.bin .eql (.v 18) (.v 40)] [] (.ite (.v 41) (.lets [.call 104 [.v 13,.v 14,.v 15,.v 16,.v 17,.v 35,.v 36,.v 37,.v 38,.v 39] 0] [] (.ret [.v 42])) (.ret [.c (.b
 false)]))
def zkw:T :=
 .ite (.v 34) (.lets [.bin .eql (.v 18) (.c (.i .i64 2))] [] zku) (.lets [.call 106 [.v 10] 0,.call 106 [.v 10] 1,.call 106 [.v 10] 2,.call 106 [.v 10] 3,.call 106
 [.v 10] 4,.call 106 [.v 10] 5] [] zkv)
def zkx:T :=
 .lets [.bin .neq (.v 11) (.c (.s []))] [] (.ite (.v 32) (.ret [.c (.b false)]) (.lets [.slen (.v 10)] [] (.lets [.bin .gtr (.v 33) (.c (.i .i64 4000))] [] zkw)))
def zky:T :=
 .ite (.v 34) (.lets [.call 104 [.v 13,.v 14,.v 15,.v 16,.v 17,.c (.i .i64 0),.c (.i .i64 0),.c (.i .i64 0),.c (.i .i64 0),.c (.nil 3)] 0] [] (.ret [.v 35])) (.ret [.c (.b
 false)])
def zkz:T :=
 .lets [.bin .eql (.v 18) (.v 39)] [] (.ite (.v 40) (.lets [.call 104 [.v 13,.v 14,.v 15,.v 16,.v 17,.v 34,.v 35,.v 36,.v 37,.v 38] 0] [] (.ret [.v 41])) (.ret [.c (.b
 false)]))
def zl0:T :=
 .ite (.v 33) (.lets [.bin .eql (.v 18) (.c (.i .i64 2))] [] zky) (.lets [.call 106 [.v 10] 0,.call 106 [.v 10] 1,.call 106 [.v 10] 2,.call 106 [.v 10] 3,.call 106
 [.v 10] 4,.call 106 [.v 10] 5] [] zkz)
def zl1:T :=
 .lets [.bin .neq (.v 19) (.c (.i .i64 0))] [] (.ite (.v 31) zkx (.lets [.slen (.v 10)] [] (.lets [.bin .gtr (.v 32) (.c (.i .i64 4000))] [] zl0)))
def zl2:T :=
 .ite (.v 33) (.lets [.call 104 [.v 13,.v 14,.v 15,.v 16,.v 17,.c (.i .i64 0),.c (.i .i64 0),.c (.i .i64 0),.c (.i .i64 0),.c (.nil 3)] 0] [] (.ret [.v 34])) (.ret [.c (.b
 false)])
def zl3:T :=
 .lets [.bin .eql (.v 18) (.v 38)] [] (.ite (.v 39) (.lets [.call 104 [.v 13,.v 14,.v 15,.v 16,.v 17,.v 33,.v 34,.v 35,.v 36,.v 37] 0] [] (.ret [.v 40])) (.ret [.c (.b
 false)]))
def zio:T :=
 .ite (.v 32) (.lets [.bin .eql (.v 18) (.c (.i .i64 2))] [] zl2) (.lets [.call 106 [.v 10] 0,.call 106 [.v 10] 1,.call 106 [.v 10] 2,.call 106 [.v 10] 3,.call 106
 [.v 10] 4,.call 106 [.v 10] 5] [] zl3)
def zip:T :=
 .lets [.bin .neq (.v 11) (.c (.s []))] [] (.ite (.v 30) (.ret [.c (.b false)]) (.lets [.slen (.v 10)] [] (.lets [.bin .gtr (.v 31) (.c (.i .i64 4000))] [] zio)))
def ziq:T :=
 .ite (.v 32) (.lets [.call 104 [.v 13,.v 14,.v 15,.v 16,.v 17,.c (.i .i64 0),.c (.i .i64 0),.c (.i .i64 0),.c (.i .i64 0),.c (.nil 3)] 0] [] (.ret [.v 33])) (.ret [.c (.b
 false)])
def zir:T :=
 .lets [.bin .eql (.v 18) (.v 37)] [] (.ite (.v 38) (.lets [.call 104 [.v 13,.v 14,.v 15,.v 16,.v 17,.v 32,.v 33,.v 34,.v 35,.v 36] 0] [] (.ret [.v 39])) (.ret [.c (.b
 false)]))
def zis:T :=
 .ite (.v 31) (.lets [.bin .eql (.v 18) (.c (.i .i64 2))] [] ziq) (.lets [.call 106 [.v 10] 0,.call 106 [.v 10] 1,.call 106 [.v 10] 2,.call 106 [.v 10] 3,.call 106
 [.v 10] 4,.call 106 [.v 10] 5] [] zir)
def zit:T :=
 .lets [.bin .neq (.v 19) (.c (.i .i64 0))] [] (.ite (.v 29) zip (.lets [.slen (.v 10)] [] (.lets [.bin .gtr (.v 30) (.c (.i .i64 4000))] [] zis)))
def ziu:T :=
 .ite (.v 28) (.lets [.call 105 [.v 0,.v 1,.v 2,.v 3,.v 4] 0] [] (.lets [.bin .neq (.v 11) (.v 29)] [] (.ite (.v 30) (.ret [.c (.b false)]) zl1))) zit
def ziv:T :=
 .ite (.v 26) (.ret [.c (.b false)]) (.lets [.bin .neq (.v 12) (.v 19)] [] (.ite (.v 27) (.ret [.c (.b false)]) (.lets [.bin .eql (.v 19) (.c (.i .i64 0))] [] ziu)))
def ziw:T :=
 .lets [.call 77 [.v 0,.v 1,.v 2,.v 3,.v 4,.v 5,.v 6,.v 7,.v 8,.v 9] 0] [] (.lets [.call 104 [.v 0,.v 1,.v 2,.v 3,.v 4,.v 5,.v 6,.v 7,.v 8,.v 9] 0] [] (.lets [.beq
 true (.v 24) (.v 25)] [] ziv))
def zix:T :=
 .ite (.v 21) (.ret [.c (.b false)]) (.lets [.call 72 [.v 0,.v 1,.v 2,.v 3,.v 4] 0] [] (.lets [.bin .neq (.v 22) (.v 19)] [] (.ite (.v 23) (.ret [.c (.b false)])
 ziw)))
def ziy:T :=
 .lets [.call 93 [.v 10] 0,.call 93 [.v 10] 1,.call 93 [.v 10] 2,.call 93 [.v 10] 3,.call 93 [.v 10] 4,.call 93 [.v 10] 5] [] (.lets [.call 103 [.v 0,.v 1,.v 2,.v 3,.v 4] 0]
 [] (.lets [.call 79 [] 0] [] (.lets [.not (.v 20)] [] zix)))
def za0:T :=
 .lets [.call 65 [.v 0,.v 1,.v 2,.v 3,.v 4] 0,.call 65 [.v 0,.v 1,.v 2,.v 3,.v 4] 1] [] ziy
theorem zl4 (s:List UInt8):z4h [.s s]=some [I (z0m s).1.parent,I (z0m s).1.height,I (z0m s).1.work,I (z0m s).1.nonce,.l 3 ((z0m s).1.txs.map eTx),I (z0m s).2]:=zmz s
attribute [local irreducible] z30 z4h z1u z8j zbp z71 z2i z5m z5l
theorem zqt:Meets Tryz.prog zn4 3 ⟨[.agg 5,.agg 5,.one],[(false,[.scal])],true⟩:=by
 refine zn (sp:=(z0g [(65,z1u),(72,z30),(77,z8j),(79,zbp),(93,z4h),(103,z2i),(104,z5l),(105,z71),(106,z5m)])) (sigs:=z0k) (cut:=[]) (hints:=[]) (fn:=Tryz.f3) (t:=za0) (by kernel_rfl) (by kernel_rfl) (by kernel_rfl) ?_ ?_
 ·exact (z04 (L:=[(65,z1u),(72,z30),(77,z8j),(79,zbp),(93,z4h),(103,z2i),(104,z5l),(105,z71),(106,z5m)]) ⟨z6 rfl ze7,z6 rfl zkn,z6 rfl z08x,z6 rfl z0ee,z6 rfl z05o,z6 rfl zhl,z6 rfl z05r,z6 rfl z05s,z6 rfl z05t,trivial⟩)
 ·rintro ds rs - h
  obtain ⟨⟨b,c,s⟩,-,rfl,rfl⟩:=zl h
  clear h
  refine ⟨⟨1,?_⟩,z0e rfl⟩
  show den _ _ za0 [I b.parent,I b.height,I b.work,I b.nonce,.l 3 (b.txs.map eTx),I c.parent,I c.height,I c.work,I c.nonce,.l 3 (c.txs.map eTx),.s s] []=ret true
  have a1:=z8h b
  have a2:=z029
  have a3:=zda b
  have a4:=zc6 b
  have a5:=zqf b c
  have a6:=zde b c
  have a7:=zl4 s
  have h00:¬ (0:Int)≠0:=fun h=>h rfl
  have hee:([]:List UInt8)=[]:=rfl
  unfold za0
  have key:∀ P:Prop,(∀ q:Block × Int,z4h [.s s]=some [I q.1.parent,I q.1.height,I q.1.work,I q.1.nonce,.l 3 (q.1.txs.map eTx),I q.2]→z5l [I q.1.parent,I q.1.height,I q.1.work,I q.1.nonce,.l 3 (q.1.txs.map eTx),I q.1.parent,I q.1.height,I q.1.work,I q.1.nonce,.l 3 (q.1.txs.map eTx)]=some [.b true]→((4000<(s.length:Int)∧q=(zch,2))∨(¬ 4000<(s.length:Int)∧z5m [.s s]=some [I q.1.parent,I q.1.height,I q.1.work,I q.1.nonce,.l 3 (q.1.txs.map eTx),I q.2]))→P)→P:=by
   intro P hP
   refine hP (z0m s) a7 ?_ ?_
   ·have:=zde (z0m s).1 (z0m s).1
    rwa [decide_eq_true rfl] at this
   ·by_cases hs:4000<(s.length:Int)
    ·refine .inl ⟨hs,?_⟩
     with_unfolding_all unfold z0m
     exact if_pos (by exact hs)
    ·exact .inr ⟨hs,zn3 s (by omega)⟩
  clear a7
  refine key _ fun q a7 a8 hq=>?_
  clear key
  by_cases hb:ze b=0
  ·rw [z000 hb] at a1
   have a9:=zn1 b hb
   rw [hb] at a3 a4
   have htt:¬ z3e b≠z3e b:=fun k=>k rfl
   generalize decide (b=c)=d at *
   have hbb:¬ d≠d:=fun h=>h rfl
   rcases hq with ⟨hs,rfl⟩|⟨hs,a10⟩
   ·cases d
    ·repeat' (first|refine dq1 ?_|refine dqK rfl (a1) ?_|refine dqk rfl (a2) ?_|refine dqk rfl (a3) ?_|refine dqk rfl (a4) ?_|refine dqk rfl (a5) ?_|refine dqk rfl (a6) ?_|refine dqK rfl (a7) ?_|refine dqk rfl (a8) ?_|refine dqk rfl (a9) ?_|exact z5 rfl rfl|refine dqT ?_|refine dqF ?_|refine z19 rfl ?_|refine z13 rfl ?_|fail)
    ·repeat' (first|refine dq1 ?_|refine dqK rfl (a1) ?_|refine dqk rfl (a2) ?_|refine dqk rfl (a3) ?_|refine dqk rfl (a4) ?_|refine dqk rfl (a5) ?_|refine dqk rfl (a6) ?_|refine dqK rfl (a7) ?_|refine dqk rfl (a8) ?_|refine dqk rfl (a9) ?_|exact z5 rfl rfl|refine dqT ?_|refine dqF ?_|refine z19 rfl ?_|refine z13 rfl ?_|fail)
   ·obtain ⟨x,e⟩:=q
    simp only at a7 a8 a10
    cases d
    ·repeat' (first|refine dq1 ?_|refine dqK rfl (a1) ?_|refine dqk rfl (a2) ?_|refine dqk rfl (a3) ?_|refine dqk rfl (a4) ?_|refine dqk rfl (a5) ?_|refine dqk rfl (a6) ?_|refine dqK rfl (a7) ?_|refine dqk rfl (a8) ?_|refine dqk rfl (a9) ?_|refine dqK rfl (a10) ?_|exact z5 rfl rfl|refine dqF ?_|refine z19 rfl ?_|refine z13 rfl ?_|fail)
    ·repeat' (first|refine dq1 ?_|refine dqK rfl (a1) ?_|refine dqk rfl (a2) ?_|refine dqk rfl (a3) ?_|refine dqk rfl (a4) ?_|refine dqk rfl (a5) ?_|refine dqk rfl (a6) ?_|refine dqK rfl (a7) ?_|refine dqk rfl (a8) ?_|refine dqk rfl (a9) ?_|refine dqK rfl (a10) ?_|exact z5 rfl rfl|refine dqF ?_|refine z19 rfl ?_|refine z13 rfl ?_|fail)
  ·have hp:z07 b=([],ze b):=by with_unfolding_all exact if_pos hb
   rw [hp] at a1
   generalize ze b=eb at *
   have hcc:¬ eb≠eb:=fun h=>h rfl
   generalize decide (b=c)=d at *
   rcases hq with ⟨hs,rfl⟩|⟨hs,a10⟩
   ·cases d
    ·repeat' (first|refine dq1 ?_|refine dqK rfl (a1) ?_|refine dqk rfl (a2) ?_|refine dqk rfl (a3) ?_|refine dqk rfl (a4) ?_|refine dqk rfl (a5) ?_|refine dqk rfl (a6) ?_|refine dqK rfl (a7) ?_|refine dqk rfl (a8) ?_|exact z5 rfl rfl|refine dqT ?_|refine dqF ?_|refine z19 rfl ?_|refine z13 rfl ?_|fail)
    ·repeat' (first|refine dq1 ?_|refine dqK rfl (a1) ?_|refine dqk rfl (a2) ?_|refine dqk rfl (a3) ?_|refine dqk rfl (a4) ?_|refine dqk rfl (a5) ?_|refine dqk rfl (a6) ?_|refine dqK rfl (a7) ?_|refine dqk rfl (a8) ?_|exact z5 rfl rfl|refine dqT ?_|refine dqF ?_|refine z19 rfl ?_|refine z13 rfl ?_|fail)
   ·obtain ⟨x,e⟩:=q
    simp only at a7 a8 a10
    cases d
    ·repeat' (first|refine dq1 ?_|refine dqK rfl (a1) ?_|refine dqk rfl (a2) ?_|refine dqk rfl (a3) ?_|refine dqk rfl (a4) ?_|refine dqk rfl (a5) ?_|refine dqk rfl (a6) ?_|refine dqK rfl (a7) ?_|refine dqk rfl (a8) ?_|refine dqK rfl (a10) ?_|exact z5 rfl rfl|refine dqT ?_|refine dqF ?_|refine z19 rfl ?_|refine z13 rfl ?_|fail)
    ·repeat' (first|refine dq1 ?_|refine dqK rfl (a1) ?_|refine dqk rfl (a2) ?_|refine dqk rfl (a3) ?_|refine dqk rfl (a4) ?_|refine dqk rfl (a5) ?_|refine dqk rfl (a6) ?_|refine dqK rfl (a7) ?_|refine dqk rfl (a8) ?_|refine dqK rfl (a10) ?_|exact z5 rfl rfl|refine dqT ?_|refine dqF ?_|refine z19 rfl ?_|refine z13 rfl ?_|fail)
theorem blockParse_walk (b:Block) (c_b:List Value) (c:Block) (c_c:List Value) (s:List UInt8) (w:World) (h_b:shBlock.rep w (Lt w.heap.size) b c_b) (h_c:shBlock.rep w (Lt w.heap.size) c c_c) (s_l:s.length≤9223372036854775807) (hG:Glob w) :
  Calls Tryz.prog 3 #[.agg c_b.toArray,.agg c_c.toArray,.string ⟨s.toArray⟩] w fun e w'=>e = .returned (.bool true)∧Below w.heap.size w w' :=
 zze (F:=Lt w.heap.size) (us:=[.agg c_b.toArray,.agg c_c.toArray,.string ⟨s.toArray⟩]) rfl (z0v (fn:=Tryz.f3) (by kernel_rfl) (by kernel_rfl) (by kernel_rfl)) zqt ⟨fun _ h=>h,hG⟩ (zd (f:=fun _=>true) (b,c,s) trivial)
  (zjk (d1:=z43 b) (she_block.to h_b) rfl (zjk (d1:=z43 c) (she_block.to h_c) rfl (zjj (.s _ s_l) zji)))
end
end Go.Proofs.YtgkfhlnklienoaaGreatDoor
