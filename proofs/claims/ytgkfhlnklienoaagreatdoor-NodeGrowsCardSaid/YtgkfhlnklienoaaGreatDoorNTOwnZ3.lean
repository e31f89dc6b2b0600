/- Own texts, put together by wip/bundle.py: VC8, VC9, VC10, VR2, VR3, VT4, VR1, VR4, VR5, VR7, VR8, VN0, VN1, VU5, VU6, VN2, VR9, VR10, VR11, VR12, VR13, VR14, VW18, VR15, VC7, VW19, VR16, VW20. -/
import Derived.Test.YtgkfhlnklienoaaGreatDoorNTOwnB
import Derived.Test.YtgkfhlnklienoaaGreatDoorNTOwnC
import Derived.Test.YtgkfhlnklienoaaGreatDoorNTOwnR
import Derived.Test.YtgkfhlnklienoaaGreatDoorNTOwnS
import Derived.Test.YtgkfhlnklienoaaGreatDoorNTOwnV2
import Derived.Test.YtgkfhlnklienoaaGreatDoorNTOwnZ2
set_option linter.unusedVariables false
set_option linter.unusedSimpArgs false
namespace Go.Proofs.YtgkfhlnklienoaaGreatDoor
section
open Go.RowKit
open Go.Lib (itoa)
set_option maxRecDepth 100000
set_option maxHeartbeats 4000000
def z0s (x:List (List UInt8)) (l:List Coin) (t:Tx) (h:Int):List (List UInt8) × List Coin × Int × Int :=
 if (zp t).2≠0 then (x,[],0,(zp t).2) else if (t.ins.length:Int)=0 then (x,[],0,4) else
 if z1z ⟨x⟩ (zp t).1≠0 then (x,[],0,z1z ⟨x⟩ (zp t).1) else
 if (zr l t (z17 ⟨x⟩ (zp t).1) h).2.2≠0 then (x,[],0,(zr l t (z17 ⟨x⟩ (zp t).1) h).2.2) else
 (z2g ⟨x⟩ (zp t).1,(zr l t (z17 ⟨x⟩ (zp t).1) h).1,z1i t (zr l t (z17 ⟨x⟩ (zp t).1) h).2.1,0)
abbrev z0fq:=List (List UInt8) × List Tx × List Coin × Int × Int
structure Sw where
 x:List (List UInt8)
 s:List Tx
 m:List Coin
 f:Int
def z2f (h:Int):Sw→List Tx→z0fq
 | a,[]=>(a.x,a.s,a.m,a.f,0)
 | a,t::r=>if (z0s a.x a.m t h).2.2.2≠0 then z2f h a r else
  z2f h ⟨(z0s a.x a.m t h).1,a.s++[t],(z0s a.x a.m t h).2.1,a.f+(z0s a.x a.m t h).2.2.1⟩ r
def zt (k:Book) (l:List Coin) (p:List Tx) (h:Int):z0fq :=
 if zf k≠0 then ([],[],[],0,zf k) else if zx l≠0 then ([],[],[],0,zx l) else
 if h<1 then ([],[],[],0,3) else if h > 1000 then ([],[],[],0,3) else if (p.length:Int) > 8 then ([],[],[],0,2) else
 z2f h ⟨k.texts,[],l,0⟩ p
def zb8 (x:List (List UInt8)) (s:List Tx) (m:List Coin) (t:Tx) (h:Int):List (List UInt8) × List Tx × Int :=
 if (z0s x m t h).2.2.2≠0 then ([],[],(z0s x m t h).2.2.2) else if (s.length:Int)=8 then ([],[],12) else ((z0s x m t h).1,s++[t],0)
def z1t (k:Book) (l:List Coin) (p:List Tx) (t:Tx) (h:Int):List (List UInt8) × List Tx × Int :=
 if (zt k l p h).2.2.2.2≠0 then ([],[],(zt k l p h).2.2.2.2) else if t ∈ (zt k l p h).2.1 then ([],[],6) else
 zb8 (zt k l p h).1 (zt k l p h).2.1 (zt k l p h).2.2.1 t h
def zp7 (parent height work nonce:Int) (lk:List Op) (s:List Tx) (f:Int):Block × Int :=
 if z3o height≠0 then (z6k,z3o height) else if z18 height+f=0 then (z6k,9) else
 if za ⟨parent,height,work,nonce,⟨height,[],[⟨z18 height+f,lk⟩]⟩::s⟩≠0 then (z6k,za ⟨parent,height,work,nonce,⟨height,[],[⟨z18 height+f,lk⟩]⟩::s⟩) else
 (⟨parent,height,work,nonce,⟨height,[],[⟨z18 height+f,lk⟩]⟩::s⟩,0)
def z33 (k:Book) (l:List Coin) (p:List Tx) (parent height work nonce:Int) (lk:List Op):Block × Int :=
 if (zt k l p (height+1)).2.2.2.2≠0 then (z6k,(zt k l p (height+1)).2.2.2.2) else
 if (zt k l ((zt k l p (height+1)).2.1.take 3) (height+1)).2.2.2.2≠0 then (z6k,(zt k l ((zt k l p (height+1)).2.1.take 3) (height+1)).2.2.2.2) else
 zp7 parent (height+1) work nonce lk (zt k l ((zt k l p (height+1)).2.1.take 3) (height+1)).2.1 (zt k l ((zt k l p (height+1)).2.1.take 3) (height+1)).2.2.2.1
theorem zn4 {x:List (List UInt8)} {l:List Coin} {t:Tx} {h:Int} (h0:(z0s x l t h).2.2.2=0) :
  zl t=0∧t.ins.length≠0∧z1z ⟨x⟩ (z1h t)=0∧(zr l t (z17 ⟨x⟩ (z1h t)) h).2.2=0∧z0s x l t h=(z2g ⟨x⟩ (z1h t),(zr l t (z17 ⟨x⟩ (z1h t)) h).1,z1i t (zr l t (z17 ⟨x⟩ (z1h t)) h).2.1,0):=by
 by_cases hc:zl t=0
 rotate_left
 ·have e:zp t=([],zl t):=by unfold zp;exact if_pos hc
  unfold z0s at h0
  rw [e,if_pos hc] at h0
  exact absurd h0 hc
 unfold z0s at h0 ⊢
 rw [z9p hc,if_neg (fun k=>k rfl)] at h0 ⊢
 by_cases hi:(t.ins.length:Int)=0
 ·rw [if_pos hi] at h0
  exact absurd h0 (by show ¬ (4:Int)=0;decide)
 rw [if_neg hi] at h0 ⊢
 by_cases hn:z1z ⟨x⟩ (z1h t)=0
 rotate_left
 ·rw [if_pos hn] at h0
  exact absurd h0 hn
 rw [if_neg (fun k=>k hn)] at h0 ⊢
 by_cases ha:(zr l t (z17 ⟨x⟩ (z1h t)) h).2.2=0
 rotate_left
 ·rw [if_pos ha] at h0
  exact absurd h0 ha
 rw [if_neg (fun k=>k ha)]
 exact ⟨hc,by omega,hn,ha,rfl⟩
theorem z060 {x:List (List UInt8)} {l:List Coin} {t:Tx} {h:Int} (h0:(z0s x l t h).2.2.2=0) : -10000000000≤(z0s x l t h).2.2.1∧(z0s x l t h).2.2.1≤10000000000:=by
 obtain ⟨-,-,-,h4,h5⟩:=zn4 h0
 rw [h5]
 exact (zin h4).2
theorem zgr (h:Int):∀ (r:List Tx) (a:Sw) (n:Nat),a.s.length≤n → -10000000000 * (n:Int)≤a.f→a.f≤10000000000 * (n:Int)→(z2f h a r).2.1.length≤n+r.length ∧ -10000000000 * ((n:Int)+r.length)≤(z2f h a r).2.2.2.1∧(z2f h a r).2.2.2.1≤10000000000 * ((n:Int)+r.length)
 | [],a,n,h1,h2,h3=>by
  rw [z2f]
  simp only [List.length_nil]
  omega
 | t::r,a,n,h1,h2,h3=>by
  rw [z2f]
  by_cases he:(z0s a.x a.m t h).2.2.2=0
  ·rw [if_neg (fun k=>k he)]
   have hf:=z060 he
   have:=zgr h r ⟨(z0s a.x a.m t h).1,a.s++[t],(z0s a.x a.m t h).2.1,a.f+(z0s a.x a.m t h).2.2.1⟩ (n+1) (by simp;omega) (by simp only;omega) (by simp only;omega)
   simp only [List.length_cons]
   omega
  ·rw [if_pos he]
   have:=zgr h r a n h1 h2 h3
   simp only [List.length_cons]
   omega
theorem zc7 (k:Book) (l:List Coin) (p:List Tx) (h:Int):(zt k l p h).2.1.length≤8 ∧ -80000000000≤(zt k l p h).2.2.2.1∧(zt k l p h).2.2.2.1≤80000000000:=by
 unfold zt
 split
 ·exact ⟨by simp,by simp,by simp⟩
 split
 ·exact ⟨by simp,by simp,by simp⟩
 split
 ·exact ⟨by simp,by simp,by simp⟩
 split
 ·exact ⟨by simp,by simp,by simp⟩
 split
 ·exact ⟨by simp,by simp,by simp⟩
 ·rename_i h5
  have:=zgr h p ⟨k.texts,[],l,0⟩ 0 (by simp) (by simp) (by simp)
  omega
attribute [local irreducible] z0o spD zp zr z1i z1z z2g z17 zf zx za z18 z3o
attribute [local irreducible] den denX z1c z1n
noncomputable def z6d:z6:=spD (fun _:List (List UInt8) × List Coin × Tx × Int=>True) fun x=>z0s x.1 x.2.1 x.2.2.1 x.2.2.2
theorem zh5 (x:List (List UInt8)) (l:List Coin) (t:Tx) (h:Int):z6d [.l 1 (x.map z06),.l 6 (l.map zj),I t.height,.l 3 (t.ins.map eIn),.l 2 (t.outs.map z1x),I h]=some [.l 1 ((z0s x l t h).1.map z06),.l 6 ((z0s x l t h).2.1.map zj),I (z0s x l t h).2.2.1,I (z0s x l t h).2.2.2]:=zb (f:=fun x:List (List UInt8) × List Coin × Tx × Int=>z0s x.1 x.2.1 x.2.2.1 x.2.2.2) (x,l,t,h) trivial
theorem zn5 (x:List (List UInt8)) (s:List UInt8):z6r [.l 1 (x.map z06),.s s]=some [.l 1 ((z2g ⟨x⟩ s).map z06),I (z17 ⟨x⟩ s),I (z1z ⟨x⟩ s)]:=zos ⟨x⟩ s
theorem zl5 (x:List (List UInt8)):z25 [.l 1 (x.map z06)]=some [I (zf ⟨x⟩)]:=z9q ⟨x⟩
def z049:T :=
 .lets [.bin .neq (.v 17) (.c (.i .i64 0))] [] (.ite (.v 18) (.ret [.v 0,.c (.nil 6),.c (.i .i64 0),.v 17]) (.lets [.call 13 [.v 2,.v 3,.v 4,.v 16] 0] [] (.ret [.v 11,.v 15,
 .v 19,.c (.i .i64 0)])))
def z04a:T :=
 .lets [.call 18 [.v 1,.v 2,.v 3,.v 4,.v 12,.v 5] 0,.call 18 [.v 1,.v 2,.v 3,.v 4,.v 12,.v 5] 1,.call 18 [.v 1,.v 2,.v 3,.v 4,.v 12,.v 5] 2] [] z049
def z04b:T :=
 .lets [.call 84 [.v 0,.v 6] 0,.call 84 [.v 0,.v 6] 1,.call 84 [.v 0,.v 6] 2] [] (.lets [.bin .neq (.v 13) (.c (.i .i64 0))] [] (.ite (.v 14) (.ret [.v 0,.c (.nil 6),.c (.i
 .i64 0),.v 13]) z04a))
def z04c:T :=
 .ite (.v 8) (.ret [.v 0,.c (.nil 6),.c (.i .i64 0),.v 7]) (.lets [.len (.v 3)] [] (.lets [.bin .eql (.v 9) (.c (.i .i64 0))] [] (.ite (.v 10) (.ret [.v 0,.c (.nil 6),.c (.i
 .i64 0),.c (.i .i64 4)]) z04b)))
def zit:T :=
 .lets [.call 64 [.v 2,.v 3,.v 4] 0,.call 64 [.v 2,.v 3,.v 4] 1] [] (.lets [.bin .neq (.v 7) (.c (.i .i64 0))] [] z04c)
attribute [local irreducible] z6r z37 z5i z5p
theorem zrs:Meets Tryz.prog z6d 157 ⟨[.agg 1,.one,.agg 3,.one],[(true,[.pure]),(false,[.pure]),(false,[.scal]),(false,[.scal])],false⟩:=by
 refine z9 (sp:=(z05 [(13,z5p),(18,z5i),(64,z37),(84,z6r)])) (sigs:=z08) (cut:=[]) (hints:=[]) (fn:=Tryz.f157) (t:=zit) (by kernel_rfl) (by kernel_rfl) (by kernel_rfl) ?_ ?_
 ·exact (zq (L:=[(13,z5p),(18,z5i),(64,z37),(84,z6r)]) ⟨z5 rfl zol,z5 rfl zrp,z5 rfl zi7,z5 rfl z07v,trivial⟩)
 ·rintro ds rs - h
  obtain ⟨⟨x,l,t,hh⟩,-,rfl,rfl⟩:=zd h
  clear h
  refine ⟨⟨1,?_⟩,z1d ⟨rfl,rfl,trivial⟩⟩
  show den _ _ zit [.l 1 (x.map z06),.l 6 (l.map zj),I t.height,.l 3 (t.ins.map eIn),.l 2 (t.outs.map z1x),I hh] []=ret (z0s x l t hh)
  have a1:=zad t
  have a2:=zn5 x (zp t).1
  have a3:=zbl l t (z17 ⟨x⟩ (zp t).1) hh
  have a4:=fun h0=>zaq t _ (zin (l:=l) (t:=t) (nm:=z17 ⟨x⟩ (zp t).1) (h:=hh) h0).1
  unfold zit z0s
  generalize zp t=pt at *
  obtain ⟨s,e⟩:=pt
  simp only at *
  generalize z1z ⟨x⟩ s=en at *
  generalize z2g ⟨x⟩ s=xn at *
  generalize z17 ⟨x⟩ s=nm at *
  generalize zr l t nm hh=q at *
  obtain ⟨m,us,ea⟩:=q
  simp only at *
  by_cases hea:ea=0
  ·have a4:=a4 hea
   repeat' (first|refine dq1 ?_|refine dqK rfl (a1) ?_|refine dqK rfl (a2) ?_|refine dqK rfl (a3) ?_|refine dqk rfl (a4) ?_|exact z4 rfl rfl|refine tR (fun h=>?_) fun h=>?_|fail)
  ·clear a4
   repeat' (first|refine dq1 ?_|refine dqK rfl (a1) ?_|refine dqK rfl (a2) ?_|refine dqK rfl (a3) ?_|exact z4 rfl rfl|refine tR (fun h=>?_) fun h=>?_|fail)
   all_goals omega
noncomputable def z26:z6:=spD (fun _:List (List UInt8) × List Coin × List Tx × Int=>True) fun x=>zt ⟨x.1⟩ x.2.1 x.2.2.1 x.2.2.2
theorem z5k (x:List (List UInt8)) (l:List Coin) (p:List Tx) (h:Int):z26 [.l 1 (x.map z06),.l 6 (l.map zj),.l 3 (p.map eTx),I h]=some [.l 1 ((zt ⟨x⟩ l p h).1.map z06),.l 3 ((zt ⟨x⟩ l p h).2.1.map eTx),.l 6 ((zt ⟨x⟩ l p h).2.2.1.map zj),I (zt ⟨x⟩ l p h).2.2.2.1,I (zt ⟨x⟩ l p h).2.2.2.2]:=zb (f:=fun x:List (List UInt8) × List Coin × List Tx × Int=>zt ⟨x.1⟩ x.2.1 x.2.2.1 x.2.2.2) (x,l,p,h) trivial
def zts:T :=
 .lets [.mk 3 [[.v 30,.v 31,.v 32]]] [] (.lets [.app 3 (.v 17) (.v 33)] [] (.lets [.bin .add (.v 18) (.c (.i .i64 1))] [] (.again 0 [.v 25,.v 29,.v 34,.v 35,.v 24])))
def ztt:T :=
 .lets [.bin .add (.v 16) (.v 26)] [] (.lets [.call 91 [.v 21,.v 22,.v 23] 0,.call 91 [.v 21,.v 22,.v 23] 1,.call 91 [.v 21,.v 22,.v 23] 2] [] zts)
def ztu:T :=
 .lets [.bin .neq (.v 27) (.c (.i .i64 0))] [] (.ite (.v 28) (.lets [.bin .add (.v 18) (.c (.i .i64 1))] [] (.again 0 [.v 15,.v 16,.v 17,.v 29,.v 19])) ztt)
def ztv:T :=
 .lets [.call 97 [.v 19,.v 15,.v 21,.v 22,.v 23,.v 3] 0,.call 97 [.v 19,.v 15,.v 21,.v 22,.v 23,.v 3] 1,.call 97 [.v 19,.v 15,.v 21,.v 22,.v 23,.v 3] 2,.call 97 [.v
 19,.v 15,.v 21,.v 22,.v 23,.v 3] 3] [] ztu
def ztw:T :=
 .ite (.v 20) (.lets [] [.inr 3 (.v 2) (.v 18)] (.lets [.idx (.v 2) (.v 18) 0,.idx (.v 2) (.v 18) 1,.idx (.v 2) (.v 18) 2] [] ztv)) (.ret [.v 19,.v 17,.v 15,.v 16,.c
 (.i .i64 0)])
def ztx:T :=
 .lets [.call 83 [.v 0] 0] [] (.lets [.len (.v 2)] [] (.loop [.v 12,.c (.i .i64 0),.c (.nil 3),.c (.i .i64 0),.v 13] (.lets [.bin .lss (.v 18) (.v 14)] [] ztw)))
def zty:T :=
 .lets [.bin .gtr (.v 10) (.c (.i .i64 8))] [] (.ite (.v 11) (.ret [.c (.nil 1),.c (.nil 3),.c (.nil 6),.c (.i .i64 0),.c (.i .i64 2)]) (.lets [.call 11 [.v 1] 0] []
 ztx))
def ztz:T :=
 .lets [.bin .gtr (.v 3) (.c (.i .i64 1000))] [] (.ite (.v 9) (.ret [.c (.nil 1),.c (.nil 3),.c (.nil 6),.c (.i .i64 0),.c (.i .i64 3)]) (.lets [.len (.v 2)] [] zty))
def zu0:T :=
 .ite (.v 7) (.ret [.c (.nil 1),.c (.nil 3),.c (.nil 6),.c (.i .i64 0),.v 6]) (.lets [.bin .lss (.v 3) (.c (.i .i64 1))] [] (.ite (.v 8) (.ret [.c (.nil 1),.c (.nil 3),.c (.nil
 6),.c (.i .i64 0),.c (.i .i64 3)]) ztz))
def zu1:T :=
 .ite (.v 5) (.ret [.c (.nil 1),.c (.nil 3),.c (.nil 6),.c (.i .i64 0),.v 4]) (.lets [.call 8 [.v 1] 0] [] (.lets [.bin .neq (.v 6) (.c (.i .i64 0))] [] zu0))
def zej:T :=
 .lets [.call 70 [.v 0] 0] [] (.lets [.bin .neq (.v 4) (.c (.i .i64 0))] [] zu1)
attribute [local irreducible] z25 zd7 z2s z36 z7e
theorem zat:Meets Tryz.prog z26 78 ⟨[.agg 1,.one,.one,.one],[(true,[.pure]),(false,[.fresh 56 3]),(false,[.pure]),(false,[.scal]),(false,[.scal])],false⟩:=by
 refine z9 (sp:=(z05 [(8,z36),(11,z7e),(70,z25),(83,zd7),(91,z2s),(97,z6d)])) (sigs:=z0kc) (cut:=[]) (hints:=[⟨14,[.t 10,.t 11,.r 9 56 3,.t 52,.o 8]⟩]) (fn:=Tryz.f78) (t:=zej) (by kernel_rfl) (by kernel_rfl) (by kernel_rfl) ?_ ?_
 ·exact (zq (L:=[(8,z36),(11,z7e),(70,z25),(83,zd7),(91,z2s),(97,z6d)]) ⟨z5 rfl zdx,z5 rfl (zr2 rfl zz5),z5 rfl zef,z5 rfl (zr2 rfl z0hg),z5 rfl zgg,z5 rfl zrs,trivial⟩)
 ·rintro ds rs - h
  obtain ⟨⟨x,l,p,hh⟩,-,rfl,rfl⟩:=zd h
  clear h
  refine ⟨⟨10,?_⟩,z1d ⟨rfl,rfl,trivial⟩⟩
  show den _ _ zej [.l 1 (x.map z06),.l 6 (l.map zj),.l 3 (p.map eTx),I hh] []=ret (zt ⟨x⟩ l p hh)
  have a1:=zl5 x
  have a2:=z57 l
  have a3:=fun h0=>zi8 l ((z0l l).1 h0).short
  have a4:=fun h0=>z03f x (by have:=z8b (bk:=⟨x⟩) h0;simp only at this;omega)
  unfold zej zt
  generalize zf ⟨x⟩=eb at *
  generalize zx l=ec at *
  by_cases hb:eb=0
  ·by_cases hc:ec=0
   ·have a3:=a3 hc
    have a4:=a4 hb
    repeat' (first|refine dq1 ?_|refine dqk rfl (a1) ?_|refine dqk rfl (a2) ?_|refine dqk rfl (a3) ?_|refine dqk rfl (a4) ?_|exact z4 rfl rfl|refine tR (fun h=>?_) fun h=>?_|fail)
    have hp8:p.length≤8:=by omega
    (refine z0c (fun (a:Sw) k=>[.l 6 (a.m.map zj),I a.f,.l 3 (a.s.map eTx),I k,.l 1 (a.x.map z06)]) (fun (a:Sw) _ (r:List Tx)=>z2f hh a r) (fun a k=>a.s.length≤k ∧ -10000000000 * (k:Int)≤a.f∧a.f≤10000000000 * (k:Int)) ⟨x,[],l,0⟩ p ?_ ?_ ?_ ?_ ?_;rfl;exact ⟨by simp,by simp,by simp⟩;omega)
    ·rintro ⟨ax,as_,am,af⟩ i t r hx hd hk ⟨h1,h2,h3⟩ again hag
     simp only at h1 h2 h3
     have b1:=zh5 ax am t hh
     have b2:=fun h0=>zda t (z6j (zn4 (x:=ax) (l:=am) (t:=t) (h:=hh) h0).1)
     have b3:=fun h0=>z060 (x:=ax) (l:=am) (t:=t) (h:=hh) h0
     rw [z2f]
     simp only
     have hag0:=hag ⟨ax,as_,am,af⟩ ⟨by simp only;omega,by simp only;omega,by simp only;omega⟩
     have hag1:=fun (g0:(z0s ax am t hh).2.2.2=0)=>hag ⟨(z0s ax am t hh).1,as_++[t],(z0s ax am t hh).2.1,af+(z0s ax am t hh).2.2.1⟩ ⟨by simp;omega,by have:=b3 g0;simp only;omega,by have:=b3 g0;simp only;omega⟩
     generalize z0s ax am t hh=q at *
     obtain ⟨qx,qm,qf,qe⟩:=q
     simp only at *
     by_cases hq:qe=0
     ·have b2:=b2 hq
      have b3:=b3 hq
      have hag':=hag1 hq
      clear hag0 hag1
      repeat' (first|refine dq1 ?_|refine dqc ?_|refine dqm ?_|refine dqK rfl (b1) ?_|refine dqK rfl (b2) ?_|refine z7 (z5c rfl rfl (by simp)) ?_|refine tR (fun h=>?_) fun h=>?_|refine dqT ?_|fail)
      all_goals first|exact zm rfl rfl hag'|omega
     ·clear b2 b3 hag1
      have hag':=hag0
      repeat' (first|refine dq1 ?_|refine dqc ?_|refine dqm ?_|refine dqK rfl (b1) ?_|refine tR (fun h=>?_) fun h=>?_|refine dqT ?_|fail)
      all_goals first|exact zm rfl rfl hag'|omega
    ·rintro ⟨ax,as_,am,af⟩ - again
     rw [z2f]
     repeat' (first|refine dq1 ?_|exact z4 rfl rfl|refine dqF ?_|fail)
   ·clear a3 a4
    repeat' (first|refine dq1 ?_|refine dqk rfl (a1) ?_|refine dqk rfl (a2) ?_|exact z4 rfl rfl|refine tR (fun h=>?_) fun h=>?_|fail)
    all_goals omega
  ·clear a3 a4
   repeat' (first|refine dq1 ?_|refine dqk rfl (a1) ?_|refine dqk rfl (a2) ?_|exact z4 rfl rfl|refine tR (fun h=>?_) fun h=>?_|fail)
   all_goals omega
end
section
open Go.RowKit
open Go.Lib (itoa)
set_option maxRecDepth 100000
set_option maxHeartbeats 4000000
theorem z08a {t y:Tx} {r:List Tx} {a b:List (List UInt8) × List Tx × Int}:(if t ∈ y::r then a else b)=if decide (y=t)=true then a else if t ∈ r then a else b:=by
 by_cases h:y=t
 ·subst h;simp
 ·have h':¬ t=y:=fun e=>h e.symm
  simp [h,h']
attribute [local irreducible] z0o spD zt z0s zp zr z1i zf zx za z18 z3o
attribute [local irreducible] den denX z1c z1n
noncomputable def z6m:z6:=spD (fun _:List (List UInt8) × List Coin × List Tx × Tx × Int=>True) fun x=>z1t ⟨x.1⟩ x.2.1 x.2.2.1 x.2.2.2.1 x.2.2.2.2
theorem zl6 (x:List (List UInt8)) (l:List Coin) (p:List Tx) (t:Tx) (h:Int):z6m [.l 1 (x.map z06),.l 6 (l.map zj),.l 3 (p.map eTx),I t.height,.l 3 (t.ins.map eIn),.l 2 (t.outs.map z1x),I h]=some [.l 1 ((z1t ⟨x⟩ l p t h).1.map z06),.l 3 ((z1t ⟨x⟩ l p t h).2.1.map eTx),I (z1t ⟨x⟩ l p t h).2.2]:=zb (f:=fun x:List (List UInt8) × List Coin × List Tx × Tx × Int=>z1t ⟨x.1⟩ x.2.1 x.2.2.1 x.2.2.2.1 x.2.2.2.2) (x,l,p,t,h) trivial
theorem zu2 (x y:Tx):z4p [I x.height,.l 3 (x.ins.map eIn),.l 2 (x.outs.map z1x),I y.height,.l 3 (y.ins.map eIn),.l 2 (y.outs.map z1x)]=some [.b (decide (x=y))]:=zib x y
def zp8:T :=
 .lets [.call 91 [.v 3,.v 4,.v 5] 0,.call 91 [.v 3,.v 4,.v 5] 1,.call 91 [.v 3,.v 4,.v 5] 2] [] (.lets [.mk 3 [[.v 29,.v 30,.v 31]]] [] (.lets [.app 3 (.v 8) (.v 32)] []
 (.ret [.v 22,.v 33,.c (.i .i64 0)])))
def zp9:T :=
 .ite (.v 26) (.ret [.c (.nil 1),.c (.nil 3),.v 25]) (.lets [.len (.v 8)] [] (.lets [.bin .eql (.v 27) (.c (.i .i64 8))] [] (.ite (.v 28) (.ret [.c (.nil 1),.c (.nil 3),.c (.i
 .i64 12)]) zp8)))
def zpa:T :=
 .lets [.call 97 [.v 7,.v 9,.v 3,.v 4,.v 5,.v 6] 0,.call 97 [.v 7,.v 9,.v 3,.v 4,.v 5,.v 6] 1,.call 97 [.v 7,.v 9,.v 3,.v 4,.v 5,.v 6] 2,.call 97 [.v 7,.v 9,.v 3,
 .v 4,.v 5,.v 6] 3] [] (.lets [.bin .neq (.v 25) (.c (.i .i64 0))] [] zp9)
def zpb:T :=
 .ite (.v 20) (.lets [.bin .geq (.v 15) (.c (.i .i64 0))] [] (.ite (.v 21) (.ret [.c (.nil 1),.c (.nil 3),.c (.i .i64 6)]) zpa)) (.lets [.bin .add (.v 15) (.c (.i .i64
 1))] [] (.again 0 [.v 14,.v 21]))
def zpc:T :=
 .lets [] [.inr 3 (.v 8) (.v 15)] (.lets [.idx (.v 8) (.v 15) 0,.idx (.v 8) (.v 15) 1,.idx (.v 8) (.v 15) 2] [] (.lets [.call 69 [.v 17,.v 18,.v 19,.v 3,.v 4,.v 5] 0] []
 zpb))
def zpd:T :=
 .lets [.call 91 [.v 3,.v 4,.v 5] 0,.call 91 [.v 3,.v 4,.v 5] 1,.call 91 [.v 3,.v 4,.v 5] 2] [] (.lets [.mk 3 [[.v 25,.v 26,.v 27]]] [] (.lets [.app 3 (.v 8) (.v 28)] []
 (.ret [.v 18,.v 29,.c (.i .i64 0)])))
def zpe:T :=
 .ite (.v 22) (.ret [.c (.nil 1),.c (.nil 3),.v 21]) (.lets [.len (.v 8)] [] (.lets [.bin .eql (.v 23) (.c (.i .i64 8))] [] (.ite (.v 24) (.ret [.c (.nil 1),.c (.nil 3),.c (.i
 .i64 12)]) zpd)))
def zpf:T :=
 .lets [.call 97 [.v 7,.v 9,.v 3,.v 4,.v 5,.v 6] 0,.call 97 [.v 7,.v 9,.v 3,.v 4,.v 5,.v 6] 1,.call 97 [.v 7,.v 9,.v 3,.v 4,.v 5,.v 6] 2,.call 97 [.v 7,.v 9,.v 3,
 .v 4,.v 5,.v 6] 3] [] (.lets [.bin .neq (.v 21) (.c (.i .i64 0))] [] zpe)
def zpg:T :=
 .ite (.v 16) zpc (.lets [.bin .geq (.c (.i .i64 (-1))) (.c (.i .i64 0))] [] (.ite (.v 17) (.ret [.c (.nil 1),.c (.nil 3),.c (.i .i64 6)]) zpf))
def zph:T :=
 .ite (.v 12) (.ret [.c (.nil 1),.c (.nil 3),.v 11]) (.lets [.len (.v 8)] [] (.loop [.c (.i .i64 0),.c (.i .i64 0)] (.lets [.bin .lss (.v 15) (.v 13)] [] zpg)))
def zdd:T :=
 .lets [.call 98 [.v 0,.v 1,.v 2,.v 6] 0,.call 98 [.v 0,.v 1,.v 2,.v 6] 1,.call 98 [.v 0,.v 1,.v 2,.v 6] 2,.call 98 [.v 0,.v 1,.v 2,.v 6] 3,.call 98 [.v 0,.v 1,.v
 2,.v 6] 4] [] (.lets [.bin .neq (.v 11) (.c (.i .i64 0))] [] zph)
attribute [local irreducible] z6d z26 z2s z4p
theorem z011:Meets Tryz.prog z6m 87 ⟨[.agg 1,.one,.one,.agg 3,.one],[(true,[.pure]),(false,[.pure]),(false,[.scal])],false⟩:=by
 refine z8s (sp:=(z05 [(69,z4p),(91,z2s),(97,z6d),(98,z26)])) (sigs:=z08) (cut:=[]) (hints:=[]) (fns:=[z76 159 Tryz.f159 [] [],z76 219 Tryz.f219 [⟨2,[.t 4,.t 8]⟩] [],z76 162 Tryz.f162 [] []]) (dep:=4) (pool:=400) (fn:=Tryz.f87) (t:=zdd) (by kernel_rfl) (by kernel_rfl) (by kernel_rfl) ?_ ?_ ?_
 ·exact (z1y (fn:=Tryz.f159) (by kernel_rfl) (by kernel_rfl) (by kernel_rfl) (by kernel_rfl) (by kernel_rfl) (z1y (fn:=Tryz.f219) (by kernel_rfl) (by kernel_rfl) (by kernel_rfl) (by kernel_rfl) (by kernel_rfl) (z1y (fn:=Tryz.f162) (by kernel_rfl) (by kernel_rfl) (by kernel_rfl) (by kernel_rfl) (by kernel_rfl) za9)))
 ·exact (zq (L:=[(69,z4p),(91,z2s),(97,z6d),(98,z26)]) ⟨z5 rfl zz9,z5 rfl zgg,z5 rfl zrs,z5 rfl zat,trivial⟩)
 ·rintro ds rs - h
  obtain ⟨⟨x,l,p,t,hh⟩,-,rfl,rfl⟩:=zd h
  clear h
  refine ⟨⟨10,?_⟩,z1d ⟨rfl,trivial⟩⟩
  show den _ _ zdd [.l 1 (x.map z06),.l 6 (l.map zj),.l 3 (p.map eTx),I t.height,.l 3 (t.ins.map eIn),.l 2 (t.outs.map z1x),I hh] []=ret (z1t ⟨x⟩ l p t hh)
  have a1:=z5k x l p hh
  have hs:=(zc7 ⟨x⟩ l p hh).1
  unfold zdd z1t
  generalize zt ⟨x⟩ l p hh=q at *
  obtain ⟨qx,qs,qm,qf,qe⟩:=q
  simp only at *
  repeat' (first|refine dq1 ?_|refine dqK rfl (a1) ?_|exact z4 rfl rfl|refine tR (fun h=>?_) fun h=>?_|fail)
  (refine z0c (fun (_:Unit) k=>[I 0,I k]) (fun (_:Unit) _ (r:List Tx)=>if t ∈ r then ([],[],6) else zb8 qx qs qm t hh) (fun _ _=>True) () qs ?_ ?_ ?_ ?_ ?_;rfl;exact trivial;omega)
  ·rintro _ i y r hx hd hk - again hag
   rw [z08a]
   have b1:=zu2 y t
   have hag':=hag () trivial
   by_cases hy:y=t
   ·rw [decide_eq_true hy,if_pos rfl]
    rw [decide_eq_true hy] at b1
    repeat' (first|refine dq1 ?_|refine dqc ?_|refine dqm ?_|refine dqk rfl (b1) ?_|exact z4 rfl rfl|refine dqT ?_|refine z6w rfl ?_|fail)
   ·rw [decide_eq_false hy,if_neg (by decide)]
    rw [decide_eq_false hy] at b1
    repeat' (first|refine dq1 ?_|refine dqc ?_|refine dqm ?_|refine dqk rfl (b1) ?_|refine dqT ?_|refine z4i rfl ?_|fail)
    exact zm rfl rfl hag'
  ·rintro _ - again
   rw [if_neg (by simp)]
   unfold zb8
   have b1:=zh5 qx qm t hh
   have b2:=fun h0=>zda t (z6j (zn4 (x:=qx) (l:=qm) (t:=t) (h:=hh) h0).1)
   generalize z0s qx qm t hh=w at *
   obtain ⟨wx,wm,wf,we⟩:=w
   simp only at *
   by_cases hw:we=0
   ·have b2:=b2 hw
    repeat' (first|refine dq1 ?_|refine dqK rfl (b1) ?_|refine dqK rfl (b2) ?_|refine z7 (z5c rfl rfl (by simp)) ?_|exact z4 rfl rfl|refine tR (fun h=>?_) fun h=>?_|refine dqF ?_|fail)
    all_goals omega
   ·clear b2
    repeat' (first|refine dq1 ?_|refine dqK rfl (b1) ?_|exact z4 rfl rfl|refine tR (fun h=>?_) fun h=>?_|refine dqF ?_|fail)
    all_goals omega
noncomputable def z88:z6:=spD (fun x:List (List UInt8) × List Coin × List Tx × Int × Int × Int × Int × List Op=>(-1≤x.2.2.2.2.1∧x.2.2.2.2.1≤1000)∧x.2.2.2.2.2.2.2.length≤8796093022208) fun x=>z33 ⟨x.1⟩ x.2.1 x.2.2.1 x.2.2.2.1 x.2.2.2.2.1 x.2.2.2.2.2.1 x.2.2.2.2.2.2.1 x.2.2.2.2.2.2.2
theorem zpi (x:List (List UInt8)) (l:List Coin) (p:List Tx) (a b c d:Int) (o:List Op) (h : -1≤b∧b≤1000) (h2:o.length≤8796093022208):z88 [.l 1 (x.map z06),.l 6 (l.map zj),.l 3 (p.map eTx),I a,I b,I c,I d,.l 2 (o.map eOp)]=some [I (z33 ⟨x⟩ l p a b c d o).1.parent,I (z33 ⟨x⟩ l p a b c d o).1.height,I (z33 ⟨x⟩ l p a b c d o).1.work,I (z33 ⟨x⟩ l p a b c d o).1.nonce,.l 3 ((z33 ⟨x⟩ l p a b c d o).1.txs.map eTx),I (z33 ⟨x⟩ l p a b c d o).2] :=
 zb (p:=fun x:List (List UInt8) × List Coin × List Tx × Int × Int × Int × Int × List Op=>(-1≤x.2.2.2.2.1∧x.2.2.2.2.1≤1000)∧x.2.2.2.2.2.2.2.length≤8796093022208) (f:=fun x:List (List UInt8) × List Coin × List Tx × Int × Int × Int × Int × List Op=>z33 ⟨x.1⟩ x.2.1 x.2.2.1 x.2.2.2.1 x.2.2.2.2.1 x.2.2.2.2.2.1 x.2.2.2.2.2.2.1 x.2.2.2.2.2.2.2) (x,l,p,a,b,c,d,o) ⟨h,h2⟩
theorem zn6 (a b c d:Int) (l:List Tx):z31 [I a,I b,I c,I d,.l 3 (l.map eTx)]=some [I (za ⟨a,b,c,d,l⟩)]:=zab ⟨a,b,c,d,l⟩
theorem z0c8 (n:Int):0≤z18 n∧z18 n≤1000:=zie n
def z012:T :=
 .lets [.bin .neq (.v 38) (.c (.i .i64 0))] [] (.ite (.v 39) (.ret [.c (.i .i64 0),.c (.i .i64 0),.c (.i .i64 0),.c (.i .i64 0),.c (.nil 3),.v 38]) (.ret [.v 3,.v 35,.v 5,.v
 6,.v 37,.c (.i .i64 0)]))
def z013:T :=
 .lets [.bin .add (.v 4) (.c (.i .i64 1))] [] (.lets [.mk 3 [[.v 31,.c (.nil 3),.v 34]]] [] (.lets [.app 3 (.v 36) (.v 20)] [] (.lets [.call 72 [.v 3,.v 35,.v 5,.v 6,.v 37] 0]
 [] z012)))
def z014:T :=
 .lets [.bin .add (.v 4) (.c (.i .i64 1))] [] (.lets [.bin .add (.v 26) (.v 22)] [] (.lets [.call 10 [.v 7] 0] [] (.lets [.mk 2 [[.v 32,.v 33]]] [] z013)))
def z015:T :=
 .lets [.bin .eql (.v 29) (.c (.i .i64 0))] [] (.ite (.v 30) (.ret [.c (.i .i64 0),.c (.i .i64 0),.c (.i .i64 0),.c (.i .i64 0),.c (.nil 3),.c (.i .i64 9)]) z014)
def z016:T :=
 .lets [.bin .neq (.v 27) (.c (.i .i64 0))] [] (.ite (.v 28) (.ret [.c (.i .i64 0),.c (.i .i64 0),.c (.i .i64 0),.c (.i .i64 0),.c (.nil 3),.v 27]) (.lets [.bin .add (.v 26) (.v
 22)] [] z015))
def z017:T :=
 .ite (.v 24) (.ret [.c (.i .i64 0),.c (.i .i64 0),.c (.i .i64 0),.c (.i .i64 0),.c (.nil 3),.v 23]) (.lets [.bin .add (.v 4) (.c (.i .i64 1))] [] (.lets [.call 74 [.v 25] 0,
 .call 74 [.v 25] 1] [] z016))
def z018:T :=
 .lets [.call 98 [.v 0,.v 1,.v 17,.v 18] 0,.call 98 [.v 0,.v 1,.v 17,.v 18] 1,.call 98 [.v 0,.v 1,.v 17,.v 18] 2,.call 98 [.v 0,.v 1,.v 17,.v 18] 3,.call 98 [.v 0,.v
 1,.v 17,.v 18] 4] [] (.lets [.bin .neq (.v 23) (.c (.i .i64 0))] [] z017)
def z019:T :=
 .lets [.len (.v 10)] [] (.lets [.mn (.v 15) (.c (.i .i64 3))] [] (.lets [.sub 3 (.v 10) none (some (.v 16))] [] (.lets [.bin .add (.v 4) (.c (.i .i64 1))] [] z018)))
def z01a:T :=
 .lets [.bin .neq (.v 13) (.c (.i .i64 0))] [] (.ite (.v 14) (.ret [.c (.i .i64 0),.c (.i .i64 0),.c (.i .i64 0),.c (.i .i64 0),.c (.nil 3),.v 13]) z019)
def z01b:T :=
 .lets [.call 98 [.v 0,.v 1,.v 2,.v 8] 0,.call 98 [.v 0,.v 1,.v 2,.v 8] 1,.call 98 [.v 0,.v 1,.v 2,.v 8] 2,.call 98 [.v 0,.v 1,.v 2,.v 8] 3,.call 98 [.v 0,.v 1,.v
 2,.v 8] 4] [] z01a
def zgs:T :=
 .lets [.bin .add (.v 4) (.c (.i .i64 1))] [] z01b
attribute [local irreducible] z31 z56 z3k
theorem z08b:Meets Tryz.prog z88 89 ⟨[.agg 1,.one,.one,.one,.one,.one,.one,.one],[(true,[.scal,.scal,.scal,.scal,.pure]),(false,[.scal])],false⟩:=by
 refine z9 (sp:=(z05 [(10,z56),(72,z31),(74,z3k),(98,z26)])) (sigs:=z08) (cut:=[]) (hints:=[]) (fn:=Tryz.f89) (t:=zgs) (by kernel_rfl) (by kernel_rfl) (by kernel_rfl) ?_ ?_
 ·exact (zq (L:=[(10,z56),(72,z31),(74,z3k),(98,z26)]) ⟨z5 rfl zma,z5 rfl zge,z5 rfl zif,z5 rfl zat,trivial⟩)
 ·rintro ds rs - h
  obtain ⟨⟨x,l,p,a,b,c,d,o⟩,⟨hb,ho⟩,rfl,rfl⟩:=zd h
  clear h
  simp only at hb ho
  refine ⟨⟨1,?_⟩,z1d ⟨rfl,rfl,rfl,rfl,rfl,trivial⟩⟩
  show den _ _ zgs [.l 1 (x.map z06),.l 6 (l.map zj),.l 3 (p.map eTx),I a,I b,I c,I d,.l 2 (o.map eOp)] []=ret (z33 ⟨x⟩ l p a b c d o)
  have a1:=z5k x l p (b+1)
  have hs:=(zc7 ⟨x⟩ l p (b+1)).1
  unfold zgs z33
  generalize zt ⟨x⟩ l p (b+1)=q at *
  obtain ⟨qx,qs,qm,qf,qe⟩:=q
  simp only at *
  have a2:=z5k x l (qs.take 3) (b+1)
  have hz:=zc7 ⟨x⟩ l (qs.take 3) (b+1)
  generalize zt ⟨x⟩ l (qs.take 3) (b+1)=w at *
  obtain ⟨wx,ws,wm,wf,we⟩:=w
  simp only at *
  unfold zp7
  have a3:=zd4 (b+1)
  have a4:=z7u o ho
  have hr:=z0c8 (b+1)
  generalize z18 (b+1)=rn at *
  generalize z3o (b+1)=re at *
  have a5:=zn6 a (b+1) c d (⟨b+1,[],[⟨rn+wf,o⟩]⟩::ws)
  generalize za ⟨a,b+1,c,d,⟨b+1,[],[⟨rn+wf,o⟩]⟩::ws⟩=be at *
  have ht:qs.take (if 3<(qs.length:Int) then 3 else (qs.length:Int)).toNat=qs.take 3:=by
   by_cases h3:3<(qs.length:Int)
   ·rw [if_pos h3];rfl
   ·rw [if_neg h3,Int.toNat_natCast,List.take_length,List.take_of_length_le (by omega)]
  repeat' (first|refine dq1 ?_|refine dqK rfl (a1) ?_|refine dqK rfl (a2) ?_|refine dqK rfl (a3) ?_|refine dqk rfl (a4) ?_|refine dqk rfl (a5) ?_|refine z7 (z5c rfl rfl (by simp)) ?_|refine z7 (zm9 (l:=[⟨b+1,[],[⟨rn+wf,o⟩]⟩]) (l':=ws) rfl rfl (by simp;omega)) ?_|exact z4 rfl rfl|refine tR (fun h=>?_) fun h=>?_|fail)
end
section
open Go.RowKit
open Go.Lib (itoa)
set_option maxRecDepth 100000
set_option maxHeartbeats 4000000
end
section
open Go.RowKit
set_option maxRecDepth 100000
theorem Done.total {l:List Coin} {t:Tx} {nm h:Int} {r s m:List Coin} (d:Done l t nm h r s m):ze m=ze l - z1i t s:=by
 have h1:=d.spentAs.total
 have h2:=d.broughtAs.total
 rw [zgq]
 omega
theorem Done.most {l:List Coin} {t:Tx} {nm h:Int} {r s m:List Coin} (d:Done l t nm h r s m):ze m≤ze l - z1i t []:=by
 have S:=d.spentAs
 have h1:=S.total
 have h2:=d.broughtAs.total
 have hs:0≤ze s:=zd1 fun c hc=>d.ok.good c (S.from hc).1
 rw [zgq]
 simp only [ze]
 omega
theorem zh6 {α:Type} {l:List α} {i:Nat} {x d:α} (h:i<l.length):(l.set i x).getD i d=x:=by
 rw [List.getD_eq_getElem?_getD,List.getElem?_set_self h]
 rfl
theorem getD_set_ne {α:Type} {l:List α} {i j:Nat} {x d:α} (h:i≠j):(l.set i x).getD j d=l.getD j d:=by
 rw [List.getD_eq_getElem?_getD,List.getElem?_set_ne h,← List.getD_eq_getElem?_getD]
theorem zk7 {b:Block} {ns:List Int} {m:List Coin} {us':List Undo}:∀ (r:List Tx) (l:List Coin) (us:List Undo) (most:Int) (j:Nat),z6l b ns l us most (j+1) r=(m,us',0)→b.txs.drop (j+1)=r→us.length=b.txs.length→j+1≤b.txs.length →
  ∃ l1 us1 most1,zck b ns l1 us1 most1=(m,us',0)∧us1.length=b.txs.length∧(∀ i,i≤j→us1.getD i ⟨[]⟩=us.getD i ⟨[]⟩)∧ze l1=ze l - (most1 - most) ∧
   ∀ U:List Undo,(∀ i,1≤i→U.getD i ⟨[]⟩=us1.getD i ⟨[]⟩)→zmz b ns U l1 (b.txs.length - 1)=zmz b ns U l j
 | [],l,us,most,j,h,hd,hu,hj=>by
  rw [z6l] at h
  have hl:=congrArg List.length hd
  rw [List.length_drop,List.length_nil] at hl
  have e:b.txs.length - 1=j:=by omega
  exact ⟨l,us,most,h,hu,fun _ _=>rfl,by omega,fun U _=>by rw [e]⟩
 | t::r,l,us,most,j,h,hd,hu,hj=>by
  rw [z6l] at h
  by_cases he:(zr l t (ns.getD (j+1) 0) b.height).2.2=0
  rotate_left
  ·rw [if_pos he] at h
   exact absurd (congrArg (fun x=>x.2.2) h) he
  rw [if_neg (fun k=>k he)] at h
  obtain ⟨rr,d⟩:=z9w he
  have hl:=congrArg List.length hd
  rw [List.length_drop,List.length_cons] at hl
  have hd2:b.txs.drop (j+1+1)=r:=by rw [← List.drop_drop,hd];rfl
  have ht:b.txs.getD (j+1) zTx=t:=by
   rw [List.getD_eq_getElem?_getD]
   have:(b.txs.drop (j+1))[0]? = some t:=by rw [hd];rfl
   rw [List.getElem?_drop] at this
   rw [show j+1=j+1+0 by omega,this]
   rfl
  obtain ⟨l1,us1,most1,h1,h2,h3,h4,h5⟩:=zk7 r _ _ _ (j+1) h hd2 (by rw [List.length_set];exact hu) (by omega)
  refine ⟨l1,us1,most1,h1,h2,fun i hi=>?_,by rw [h4,d.total];omega,fun U hU=>?_⟩
  ·rw [h3 i (by omega),getD_set_ne (by omega)]
  ·rw [h5 U hU,zmz,ht,hU (j+1) (by omega),h3 (j+1) (Nat.le_refl _),zh6 (by omega),d.back]
   exact if_neg fun k=>k rfl
theorem zrt {k:Book} {l m:List Coin} {b:Block} {us:List Undo} (h:z20 k l b=(m,us,0)):z088 k m b us=(l,0)∧CoinsOK l∧CoinsOK m∧ze m≤ze l+z18 b.height∧za b=0∧z6c us:=by
 have hsh:=z00z k l b
 rw [h] at hsh
 unfold z20 at h
 by_cases hc:zx l=0
 rotate_left
 ·rw [if_pos hc] at h
  exact absurd (congrArg (fun x=>x.2.2) h) hc
 rw [if_neg (fun k=>k hc)] at h
 by_cases he:(z00 k b).2.2.2=0
 rotate_left
 ·rw [if_pos he] at h
  exact absurd (congrArg (fun x=>x.2.2) h) he
 rw [if_neg (fun k=>k he)] at h
 obtain ⟨hb,hn⟩:=zmy he
 have ok:=z3w hb
 obtain ⟨l1,us1,most1,h1,h2,-,h4,h5⟩:=zk7 _ _ _ _ 0 h rfl (by simp) ok.some
 unfold zck at h1
 by_cases hm:most1 < -z1i (b.txs.getD 0 zTx) []
 ·rw [if_pos hm] at h1
  exact absurd (congrArg (fun x=>x.2.2) h1) (by show ¬ (9:Int)=0;decide)
 rw [if_neg hm] at h1
 by_cases ha:(zr l1 (b.txs.getD 0 zTx) ((z00 k b).2.2.1.getD 0 0) b.height).2.2=0
 rotate_left
 ·rw [if_pos ha] at h1
  exact absurd (congrArg (fun x=>x.2.2) h1) ha
 rw [if_neg (fun k=>k ha)] at h1
 obtain ⟨rr,d⟩:=z9w ha
 have e1:(zr l1 (b.txs.getD 0 zTx) ((z00 k b).2.2.1.getD 0 0) b.height).1=m:=congrArg (fun x=>x.1) h1
 have e2:us1.set 0 ⟨(zr l1 (b.txs.getD 0 zTx) ((z00 k b).2.2.1.getD 0 0) b.height).2.1⟩=us:=congrArg (fun x=>x.2.1) h1
 generalize zr l1 (b.txs.getD 0 zTx) ((z00 k b).2.2.1.getD 0 0) b.height=q at *
 obtain ⟨m',sp,f⟩:=q
 simp only at e1 e2 d
 subst e1
 have hl0:=ok.some
 refine ⟨?_,(z0l l).1 hc,d.end_,?_,hb,hsh⟩
 ·unfold z088
  rw [if_neg (by rw [(z0l m').2 d.end_];decide),if_neg (fun k=>k he)]
  have hul:us.length=b.txs.length:=by rw [← e2,List.length_set,h2]
  rw [if_neg (by omega)]
  have hu0:us.getD 0 ⟨[]⟩=⟨sp⟩:=by rw [← e2];exact zh6 (by omega)
  rw [hu0,d.back,if_neg (fun k=>k rfl),h5 us fun i hi=>by rw [← e2];exact getD_set_ne (by omega)]
  rfl
 ·have:=d.most
  omega
end
section
open Go.RowKit
set_option maxRecDepth 100000
theorem z08c {k:Book} {t:Tree} {n:Int} (h:(z2w k t n).2=0):zf k=0∧TreeOK t.names t.blocks∧(n=0∨0≤idx t.names n)∧(z2w k t n).1=z0n t.names t.blocks n∧z3x t n=(z0n t.names t.blocks n,0):=by
 unfold z2w at h ⊢
 by_cases hb:zf k=0
 rotate_left
 ·rw [if_pos hb] at h
  exact absurd h hb
 rw [if_neg (fun k=>k hb)] at h ⊢
 unfold z3x at h ⊢
 by_cases ht:zy t=0
 rotate_left
 ·rw [if_pos ht] at h
  exact absurd h ht
 rw [if_neg (fun k=>k ht)] at h ⊢
 by_cases hn:n≠0∧idx t.names n<0
 ·rw [if_pos hn] at h
  exact absurd h (by show ¬ (5:Int)=0;decide)
 rw [if_neg hn]
 exact ⟨hb,(z02 _ _).1 ht,by omega,rfl,rfl⟩
theorem zk8 {k:Book} {t:Tree} {n:Int} (hb:zf k=0) (ok:TreeOK t.names t.blocks) (hn:n=0∨0≤idx t.names n):z2w k t n=(z0n t.names t.blocks n,0):=by
 unfold z2w z3x
 rw [if_neg (fun k=>k hb),if_neg (fun k=>k ((z02 _ _).2 ok)),if_neg (by omega)]
theorem zgt {k:Book} {t:Tree} {n:Int} {l:List Coin} (h:z8 k t n=(l,0)):zf k=0∧TreeOK t.names t.blocks∧(n=0∨0≤idx t.names n)∧z2w k t n=(z0n t.names t.blocks n,0)∧z0w k t [] (z0n t.names t.blocks n)=(l,0):=by
 unfold z8 at h
 by_cases he:(z2w k t n).2=0
 ·rw [if_neg (fun k=>k he)] at h
  obtain ⟨h1,h2,h3,h4,h5⟩:=z08c he
  rw [h4] at h
  exact ⟨h1,h2,h3,zk8 h1 h2 h3,h⟩
 ·rw [if_pos he] at h
  exact absurd (congrArg (fun x=>x.2) h) he
theorem z5s {k:Book} {t:Tree} {n:Int} (hb:zf k=0) (ok:TreeOK t.names t.blocks) (hn:n=0∨0≤idx t.names n):z8 k t n=z0w k t [] (z0n t.names t.blocks n):=by
 unfold z8
 rw [zk8 hb ok hn]
 exact if_neg fun k=>k rfl
theorem zgu (k:Book) (t:Tree):∀ (p:List Int) (l m:List Coin) (r:List Int),z0w k t l (p++r)=(m,0)→∃ q,z0w k t l p=(q,0)∧z0w k t q r=(m,0)
 | [],l,m,r,h=>⟨l,rfl,h⟩
 | n::p,l,m,r,h=>by
  rw [List.cons_append,z0w] at h
  rw [z0w]
  by_cases he:(z20 k l (z0h t n)).2.2=0
  ·rw [if_neg (fun k=>k he)] at h ⊢
   exact zgu k t p _ m r h
  ·rw [if_pos he] at h
   exact absurd (congrArg (fun x=>x.2) h) he
theorem zru {k:Book} {t:Tree} {l m:List Coin} {n:Int} (h:z0w k t l [n]=(m,0)):∃ us,z20 k l (z0h t n)=(m,us,0):=by
 rw [z0w,z0w] at h
 by_cases he:(z20 k l (z0h t n)).2.2=0
 ·rw [if_neg (fun k=>k he)] at h
  generalize z20 k l (z0h t n)=q at *
  obtain ⟨a,b,c⟩:=q
  simp only [Prod.mk.injEq,and_true] at h he
  subst h he
  exact ⟨_,rfl⟩
 ·rw [if_pos he] at h
  exact absurd (congrArg (fun x=>x.2) h) he
theorem z38 {t:Tree} {n:Int} (ok:TreeOK t.names t.blocks) (hn:0≤idx t.names n):(z0h t n).parent=z0e t.names t.blocks n∧z1e t n=0∧z0h t n=z01 t.blocks (idx t.names n):=by
 have e:z1e t n=0:=by
  unfold z1e
  rw [if_neg (fun k=>k ((z02 _ _).2 ok)),if_neg (by omega)]
 have e2:z0h t n=z01 t.blocks (idx t.names n):=by unfold z0h;rw [if_pos e]
 exact ⟨by rw [e2];rfl,e,e2⟩
theorem z08d {k:Book} {t:Tree} {n:Int} {l:List Coin} (h:z8 k t n=(l,0)) (hn:0≤idx t.names n):∃ q us,z8 k t (z0h t n).parent=(q,0)∧z20 k q (z0h t n)=(l,us,0):=by
 obtain ⟨h1,h2,-,-,h5⟩:=zgt h
 obtain ⟨e1,-,-⟩:=z38 h2 hn
 obtain ⟨s1,s2,-⟩:=z2b h2 hn
 rw [s1] at h5
 obtain ⟨q,q1,q2⟩:=zgu k t _ _ _ _ h5
 obtain ⟨us,q3⟩:=zru q2
 exact ⟨q,us,by rw [e1,z5s h1 h2 s2,q1],q3⟩
theorem zek {t:Tree} (ok:TreeOK t.names t.blocks) (r:Nat):∀ n:Int,z4k t.names n≤r→0≤idx t.names n→(z01 t.blocks (idx t.names n)).height=((z0n t.names t.blocks n).length:Int):=by
 induction r with
 | zero =>
  intro n hr hn
  have:=(z2b ok hn).2.2
  omega
 | succ r ih =>
  intro n hr hn
  obtain ⟨s1,s2,s3⟩:=z2b ok hn
  obtain ⟨j,hj,hjs⟩:=z5h hn
  have hlt:=(List.getElem?_eq_some_iff.1 hjs).1
  obtain ⟨-,-,-,e⟩:=z6q (ok.step j hlt)
  rw [s1,List.length_append,List.length_singleton]
  rw [show z0e t.names t.blocks n=(z01 t.blocks (idx t.names n)).parent from rfl] at *
  rw [hj] at s1 s2 s3 ⊢
  rcases zc2 e with ⟨e1,e2⟩|⟨e1,i,e2,e3,e4,e5⟩
  ·rw [e1,z1g,e2];rfl
  ·have:=ih (z01 t.blocks j).parent (by omega) (by omega)
   rw [e3] at this
   rw [e5,this]
   omega
end
section
open Go.Lib (itoa atoiAll)
open Go.RowKit
end
section
open Go.Lib (itoa)
open Go.RowKit
structure PlainL (l:List UInt8):Prop where
 ne:∀ b ∈ l,b≠10
 no:∀ s,List.isPrefixOf tTx (l++s)=false
end
section
open Go.RowKit
set_option maxRecDepth 100000
theorem zrv:∀ (l t:List z1j) (o:List Int),z14 t→(z2r l t o).2.2=0→z14 (z2r l t o).1∧t <+: (z2r l t o).1∧(∀ s ∈ l,0≤idx (z2r l t o).1 s∧s.length≤4000)∧(z2r l t o).2.1=o++l.map fun s=>idx (z2r l t o).1 s+1
 | [],t,o,ht,_=>⟨ht,List.prefix_refl _,(fun s hs=>by cases hs),by simp [z2r]⟩
 | s::l,t,o,ht,he=>by
  rw [z2r] at he ⊢
  by_cases h:4000<s.length
  ·rw [if_pos h] at he;cases he
  rw [if_neg h] at he ⊢
  by_cases h2:z27 t s≠0
  ·rw [if_pos h2] at he;exact absurd he h2
  rw [if_neg h2] at he ⊢
  have h3:z27 t s=0:=by simpa using h2
  obtain ⟨a,b,c,d⟩:=z05y ht (by omega) h3
  obtain ⟨e,f,g,i⟩:=zrv l _ _ a he
  generalize z2r l (z3f t s) (o++[z2q t s])=q at *
  refine ⟨e,b.trans f,fun u hu=>?_,?_⟩
  ·rcases List.mem_cons.1 hu with rfl|hu
   ·exact ⟨z8f f c,by omega⟩
   ·exact g u hu
  ·rw [i,d,List.map_cons,z2a f c]
   simp
theorem zrw:∀ (l t:List z1j) (o:List Int),(∀ s ∈ l,0≤idx t s∧s.length≤4000)→z2r l t o=(t,o++l.map (fun s=>idx t s+1),0)
 | [],t,o,_=>by simp [z2r]
 | s::l,t,o,h=>by
  obtain ⟨h1,h2⟩:=h s (List.mem_cons_self ..)
  obtain ⟨a,b,c⟩:=zmn h1
  rw [z2r,if_neg (by omega),if_neg (by omega),b,c,zrw l t _ fun u hu=>h u (List.mem_cons_of_mem _ hu)]
  simp
theorem zu3 {k:Book} {b:Block} {x:List z1j} {n:Int} {ns:List Int} (h:z00 k b=(x,n,ns,0)) :
  za b=0∧z14 k.texts∧z14 x∧k.texts <+: x∧0≤idx x (z1a b)∧(z1a b).length≤4000∧n=idx x (z1a b)+1∧(∀ s ∈ z2v b,0≤idx x s∧s.length≤4000)∧ns=(z2v b).map fun s=>idx x s+1:=by
 unfold z00 at h
 by_cases hp:(z0d b).2=0
 rotate_left
 ·rw [if_pos hp] at h
  exact absurd (congrArg (fun x=>x.2.2.2) h) hp
 have hb:=zbi hp
 rw [if_neg (fun k=>k hp),z86 hb] at h
 unfold zac at h
 simp only at h
 by_cases ha:(z0z k (z2v b++[z1a b])).2.2=0
 rotate_left
 ·rw [if_pos ha] at h
  exact absurd (congrArg (fun x=>x.2.2.2) h) ha
 rw [if_neg (fun k=>k ha)] at h
 unfold z0z at h ha
 by_cases hc:zf k=0
 rotate_left
 ·rw [if_pos hc] at ha
  exact absurd ha hc
 rw [if_neg (fun k=>k hc)] at h ha
 have hk:=(z0q k.texts).1 hc
 obtain ⟨e,f,g,i⟩:=zrv _ _ _ hk ha
 generalize z2r (z2v b++[z1a b]) k.texts []=q at *
 obtain ⟨q1,q2,q3⟩:=q
 simp only [Prod.mk.injEq,and_true,List.nil_append,List.map_append,List.map_cons,List.map_nil] at *
 obtain ⟨rfl,h2,h3⟩:=h
 have hl:=g (z1a b) (by simp)
 refine ⟨hb,hk,e,f,hl.1,hl.2,?_,fun s hs=>g s (List.mem_append_left _ hs),?_⟩
 ·rw [← h2,i,List.getD_eq_getElem?_getD,List.getElem?_append_right (by simp)]
  simp
 ·rw [← h3,i,List.take_append_of_le_length (by simp)]
  rw [List.take_of_length_le (by simp)]
theorem zu4 {b:Block} {y:List z1j} (hb:za b=0) (hy:z14 y) (h1:0≤idx y (z1a b)) (h2:(z1a b).length≤4000) (h3:∀ s ∈ z2v b,0≤idx y s∧s.length≤4000) :
  z00 ⟨y⟩ b=(y,idx y (z1a b)+1,(z2v b).map (fun s=>idx y s+1),0):=by
 have e:z0z ⟨y⟩ (z2v b++[z1a b])=(y,(z2v b++[z1a b]).map (fun s=>idx y s+1),0):=by
  unfold z0z
  rw [if_neg (fun k=>k ((z0q y).2 hy)),zrw _ _ _ fun s hs=>?_,List.nil_append]
  rcases List.mem_append.1 hs with h|h
  ·exact h3 s h
  ·rw [List.mem_singleton.1 h];exact ⟨h1,h2⟩
 unfold z00
 rw [z86 hb,if_neg (fun k=>k rfl)]
 unfold zac
 rw [e,if_neg (fun k=>k rfl)]
 simp only [Prod.mk.injEq,and_true,true_and]
 refine ⟨?_,?_⟩
 ·rw [List.map_append,List.getD_eq_getElem?_getD,List.getElem?_append_right (by simp)]
  simp
 ·rw [List.map_append,List.take_append_of_le_length (by simp),List.take_of_length_le (by simp)]
end
section
open Go.RowKit
set_option maxRecDepth 100000
inductive RunC (h:Int) (y:List z1j):List Coin→List Tx→List Coin→Int→Prop where
 | nil (m:List Coin):RunC h y m [] m 0
 | cons {m m1 m' sp:List Coin} {t:Tx} {K:List Tx} {f:Int}:zl t=0→t.ins.length≠0→(z1h t).length≤4000→0≤idx y (z1h t)→zr m t (idx y (z1h t)+1) h=(m1,sp,0)→RunC h y m1 K m' f→RunC h y m (t::K) m' (z1i t sp+f)
theorem RunC.more {h:Int} {y z:List z1j} {m m':List Coin} {K:List Tx} {f:Int} (hp:y <+: z) (R:RunC h y m K m' f):RunC h z m K m' f:=by
 induction R with
 | nil m=>exact .nil m
 | cons h1 h2 h3 h4 h5 _ ih =>
  have e:=z2a hp h4
  exact .cons h1 h2 h3 (by omega) (by rw [e];exact h5) ih
theorem z04d {m m1 sp:List Coin} {t:Tx} {nm h:Int} (hi:t.ins.length≠0) (h0:zr m t nm h=(m1,sp,0)):CoinsOK m∧CoinsOK m1∧0≤z1i t sp∧ze m1=ze m - z1i t sp:=by
 obtain ⟨r,d⟩:=z9w (l:=m) (t:=t) (nm:=nm) (h:=h) (by rw [h0])
 rw [h0] at d
 exact ⟨d.ok,d.end_,d.fee hi,d.total⟩
theorem RunC.facts {h:Int} {y:List z1j} {m m':List Coin} {K:List Tx} {f:Int} (R:RunC h y m K m' f):0≤f∧ze m'=ze m - f∧(CoinsOK m→CoinsOK m'):=by
 induction R with
 | nil m=>exact ⟨by omega,by omega,fun h=>h⟩
 | cons h1 h2 h3 h4 h5 _ ih =>
  obtain ⟨a,b,c,d⟩:=z04d h2 h5
  obtain ⟨e,f,g⟩:=ih
  exact ⟨by omega,by omega,fun _=>g b⟩
theorem RunC.part {h:Int} {y:List z1j} {m':List Coin} {L:List Tx}:∀ {K:List Tx} {m:List Coin} {f:Int},RunC h y m (K++L) m' f→∃ m1 f1 f2,RunC h y m K m1 f1∧RunC h y m1 L m' f2
 | [],m,f,R=>⟨m,0,f,.nil m,R⟩
 | t::K,m,f,R=>by
  rw [List.cons_append] at R
  cases R with
  | cons h1 h2 h3 h4 h5 R =>
   obtain ⟨m1,f1,f2,a,b⟩:=RunC.part R
   exact ⟨m1,_,f2,.cons h1 h2 h3 h4 h5 a,b⟩
theorem RunC.snoc {h:Int} {y:List z1j} {m m' m2 sp:List Coin} {K:List Tx} {f:Int} {t:Tx} (R:RunC h y m K m' f) (h1:zl t=0) (h2:t.ins.length≠0) (h3:(z1h t).length≤4000) (h4:0≤idx y (z1h t)) (h5:zr m' t (idx y (z1h t)+1) h=(m2,sp,0)):RunC h y m (K++[t]) m2 (f+z1i t sp):=by
 induction R with
 | nil m =>
  have:=RunC.cons h1 h2 h3 h4 h5 (.nil _)
  rw [show z1i t sp+0=0+z1i t sp by omega] at this
  exact this
 | cons g1 g2 g3 g4 g5 _ ih =>
  have:=RunC.cons g1 g2 g3 g4 g5 (ih h5)
  rw [← Int.add_assoc] at this
  exact this
theorem z0ex {x:List z1j} {s:z1j} (hx:z14 x) (h:z1z ⟨x⟩ s=0):s.length≤4000∧z14 (z2g ⟨x⟩ s)∧x <+: z2g ⟨x⟩ s∧0≤idx (z2g ⟨x⟩ s) s∧z17 ⟨x⟩ s=idx (z2g ⟨x⟩ s) s+1:=by
 have hc:=(z0q x).2 hx
 unfold z1z at h
 rw [if_neg (fun k=>k hc)] at h
 by_cases hl:4000<s.length
 ·rw [if_pos hl] at h;exact absurd h (by decide)
 rw [if_neg hl] at h
 have e1:z2g ⟨x⟩ s=z3f x s:=by
  unfold z2g
  rw [if_neg (fun k=>k hc),if_neg hl]
 have e2:z17 ⟨x⟩ s=z2q x s:=by
  unfold z17
  rw [if_neg (fun k=>k hc),if_neg hl]
 rw [e1,e2]
 obtain ⟨a,b,c,d⟩:=z05y hx (by omega) h
 exact ⟨by omega,a,b,c,d⟩
theorem z04e {x:List z1j} {s:z1j} (hx:z14 x) (hl:s.length≤4000) (h:0≤idx x s):z1z ⟨x⟩ s=0∧z2g ⟨x⟩ s=x∧z17 ⟨x⟩ s=idx x s+1:=by
 have hc:=(z0q x).2 hx
 obtain ⟨a,b,c⟩:=zmn h
 refine ⟨?_,?_,?_⟩
 ·unfold z1z;rw [if_neg (fun k=>k hc),if_neg (by omega)];exact a
 ·unfold z2g;rw [if_neg (fun k=>k hc),if_neg (by omega)];exact b
 ·unfold z17;rw [if_neg (fun k=>k hc),if_neg (by omega)];exact c
theorem zpj {x x1:List z1j} {m m1:List Coin} {t:Tx} {h f1:Int} (hx:z14 x) (h0:z0s x m t h=(x1,m1,f1,0)):z14 x1∧x <+: x1∧zl t=0∧t.ins.length≠0∧(z1h t).length≤4000∧0≤idx x1 (z1h t)∧∃ sp,zr m t (idx x1 (z1h t)+1) h=(m1,sp,0)∧f1=z1i t sp:=by
 obtain ⟨a,b,c,d,e⟩:=zn4 (x:=x) (l:=m) (t:=t) (h:=h) (by rw [h0])
 rw [h0] at e
 simp only [Prod.mk.injEq,and_true] at e
 obtain ⟨e1,e2,e3⟩:=e
 obtain ⟨p,q,r,s,u⟩:=z0ex hx c
 rw [← e1] at q r s u
 rw [u] at d e2 e3
 refine ⟨q,r,a,b,p,s,_,?_,e3⟩
 rw [e2,← d]
theorem z0c9 {y:List z1j} {m m1 sp:List Coin} {t:Tx} {h:Int} (hy:z14 y) (h1:zl t=0) (h2:t.ins.length≠0) (h3:(z1h t).length≤4000) (h4:0≤idx y (z1h t)) (h5:zr m t (idx y (z1h t)+1) h=(m1,sp,0)):z0s y m t h=(y,m1,z1i t sp,0):=by
 obtain ⟨a,b,c⟩:=z04e hy h3 h4
 unfold z0s
 rw [z9p h1,if_neg (fun k=>k rfl),if_neg (by omega),if_neg (fun k=>k a),c,h5,if_neg (fun k=>k rfl),b]
theorem zb9 {h:Int} {x':List z1j} {s':List Tx} {m':List Coin} {f':Int} {w0:List Coin}:∀ (r:List Tx) (a:Sw),z14 a.x→RunC h a.x w0 a.s a.m a.f→z2f h a r=(x',s',m',f',0)→z14 x'∧a.x <+: x'∧RunC h x' w0 s' m' f'∧s'.length≤a.s.length+r.length
 | [],a,hx,R,h0=>by
  rw [z2f] at h0
  simp only [Prod.mk.injEq,and_true] at h0
  obtain ⟨rfl,rfl,rfl,rfl⟩:=h0
  exact ⟨hx,List.prefix_refl _,R,by simp⟩
 | t::r,a,hx,R,h0=>by
  rw [z2f] at h0
  by_cases he:(z0s a.x a.m t h).2.2.2=0
  ·rw [if_neg (fun k=>k he)] at h0
   have hp:z0s a.x a.m t h=((z0s a.x a.m t h).1,(z0s a.x a.m t h).2.1,(z0s a.x a.m t h).2.2.1,0):=by rw [← he]
   obtain ⟨p1,p2,p3,p4,p5,p6,sp,p7,p8⟩:=zpj hx hp
   have R2:=(R.more p2).snoc p3 p4 p5 p6 p7
   rw [← p8] at R2
   obtain ⟨q1,q2,q3,q4⟩:=zb9 r ⟨_,a.s++[t],_,_⟩ p1 R2 h0
   refine ⟨q1,p2.trans q2,q3,?_⟩
   simp only [List.length_append,List.length_cons,List.length_nil] at q4 ⊢
   omega
  ·rw [if_pos he] at h0
   obtain ⟨q1,q2,q3,q4⟩:=zb9 r a hx R h0
   exact ⟨q1,q2,q3,by simp only [List.length_cons];omega⟩
theorem z01c {h:Int} {y:List z1j} (hy:z14 y) {m m':List Coin} {K:List Tx} {f:Int} (R:RunC h y m K m' f):∀ (s:List Tx) (g:Int),z2f h ⟨y,s,m,g⟩ K=(y,s++K,m',g+f,0):=by
 induction R with
 | nil m=>intro s g;rw [z2f];simp
 | cons h1 h2 h3 h4 h5 _ ih =>
  intro s g
  rw [z2f]
  simp only
  rw [z0c9 hy h1 h2 h3 h4 h5,if_neg (fun k=>k rfl),ih]
  simp [Int.add_assoc]
theorem z89 {k:Book} {l:List Coin} {p:List Tx} {h:Int} {x:List z1j} {s:List Tx} {m:List Coin} {f:Int} (h0:zt k l p h=(x,s,m,f,0)):z14 x∧CoinsOK l∧1≤h∧h≤1000∧s.length≤8∧RunC h x l s m f:=by
 unfold zt at h0
 by_cases h1:zf k=0
 rotate_left
 ·rw [if_pos h1] at h0;exact absurd (congrArg (fun x=>x.2.2.2.2) h0) h1
 rw [if_neg (fun k=>k h1)] at h0
 by_cases h2:zx l=0
 rotate_left
 ·rw [if_pos h2] at h0;exact absurd (congrArg (fun x=>x.2.2.2.2) h0) h2
 rw [if_neg (fun k=>k h2)] at h0
 by_cases h3:h<1
 ·rw [if_pos h3] at h0;exact absurd (congrArg (fun x=>x.2.2.2.2) h0) (by show ¬ (3:Int)=0;decide)
 rw [if_neg h3] at h0
 by_cases h4:h > 1000
 ·rw [if_pos h4] at h0;exact absurd (congrArg (fun x=>x.2.2.2.2) h0) (by show ¬ (3:Int)=0;decide)
 rw [if_neg h4] at h0
 by_cases h5:(p.length:Int) > 8
 ·rw [if_pos h5] at h0;exact absurd (congrArg (fun x=>x.2.2.2.2) h0) (by show ¬ (2:Int)=0;decide)
 rw [if_neg h5] at h0
 obtain ⟨q1,q2,q3,q4⟩:=zb9 (w0:=l) p ⟨k.texts,[],l,0⟩ ((z0q _).1 h1) (.nil _) h0
 simp only [List.length_nil] at q4
 exact ⟨q1,(z0l l).1 h2,by omega,by omega,by omega,q3⟩
theorem zk9 {x:List z1j} {l:List Coin} {s:List Tx} {m:List Coin} {f h:Int} (hx:z14 x) (hl:CoinsOK l) (h1:1≤h) (h2:h≤1000) (h3:s.length≤8) (R:RunC h x l s m f):zt ⟨x⟩ l s h=(x,s,m,f,0):=by
 unfold zt
 rw [if_neg (fun k=>k ((z0q x).2 hx)),if_neg (fun k=>k ((z0l l).2 hl)),if_neg (by omega),if_neg (by omega),if_neg (by omega),z01c hx R]
 simp
theorem z08e {k:Book} {l:List Coin} {p:List Tx} {t:Tx} {h:Int} {x:List z1j} {more:List Tx} (h0:z1t k l p t h=(x,more,0)) :
  ∃ (x0:List z1j) (stay:List Tx) (m m1:List Coin) (f f1:Int),zt k l p h=(x0,stay,m,f,0)∧more=stay++[t]∧more.length≤8∧zt ⟨x⟩ l more h=(x,more,m1,f1,0)∧z1t ⟨x⟩ l more t h=([],[],6):=by
 unfold z1t at h0
 generalize hq:zt k l p h=q at *
 obtain ⟨x0,stay,m,f,e⟩:=q
 simp only at h0
 by_cases he:e=0
 rotate_left
 ·rw [if_pos he] at h0;exact absurd (congrArg (fun x=>x.2.2) h0) he
 subst he
 rw [if_neg (fun k=>k rfl)] at h0
 by_cases hm:t ∈ stay
 ·rw [if_pos hm] at h0;exact absurd (congrArg (fun x=>x.2.2) h0) (by show ¬ (6:Int)=0;decide)
 rw [if_neg hm] at h0
 unfold zb8 at h0
 by_cases hp:(z0s x0 m t h).2.2.2=0
 rotate_left
 ·rw [if_pos hp] at h0;exact absurd (congrArg (fun x=>x.2.2) h0) hp
 rw [if_neg (fun k=>k hp)] at h0
 by_cases h8:(stay.length:Int)=8
 ·rw [if_pos h8] at h0;exact absurd (congrArg (fun x=>x.2.2) h0) (by show ¬ (12:Int)=0;decide)
 rw [if_neg h8] at h0
 simp only [Prod.mk.injEq,and_true] at h0
 obtain ⟨h01,rfl⟩:=h0
 obtain ⟨q1,q2,q3,q4,q5,R⟩:=z89 hq
 have hpp:z0s x0 m t h=(x,(z0s x0 m t h).2.1,(z0s x0 m t h).2.2.1,0):=by rw [← hp,← h01]
 obtain ⟨p1,p2,p3,p4,p5,p6,sp,p7,p8⟩:=zpj q1 hpp
 have R2:=(R.more p2).snoc p3 p4 p5 p6 p7
 have hl:(stay++[t]).length≤8:=by simp;omega
 have hs:=zk9 p1 q2 q3 q4 hl R2
 refine ⟨x0,stay,m,_,f,_,rfl,rfl,hl,hs,?_⟩
 unfold z1t
 rw [hs,if_neg (fun k=>k rfl),if_pos (by simp)]
end
section
open Go.RowKit
set_option maxRecDepth 100000
def zh (t:Tree) (n:Int):Int:=if z1e t n≠0 then 0 else (z0h t n).height
theorem z0ca:(List.range 1000).all (fun k=>decide (zch ((k:Int)+1)=zch k+z18 ((k:Int)+1)))=true:=by decide +kernel
theorem z0ho (h:Int) (h1:1≤h) (h2:h≤1000):zch h=zch (h - 1)+z18 h:=by
 have:=List.all_eq_true.1 z0ca (h - 1).toNat (by simp;omega)
 have e:(((h - 1).toNat:Nat):Int)=h - 1:=by omega
 rw [decide_eq_true_iff,e] at this
 rw [show h - 1+1=h by omega] at this
 exact this
theorem z01d {k:Book} {t:Tree} (ok:TreeOK t.names t.blocks):∀ (r:Nat) (n:Int) (l:List Coin),z4k t.names n≤r→(n=0∨0≤idx t.names n)→z0w k t [] (z0n t.names t.blocks n)=(l,0)→ze l≤zch ((z0n t.names t.blocks n).length:Int):=by
 intro r
 induction r with
 | zero =>
  intro n l hr hn h
  rcases hn with hn|hn
  ·subst hn
   rw [z1g,z0w] at h
   obtain rfl:[]=l:=congrArg (fun x=>x.1) h
   rw [z1g]
   decide +kernel
  ·have:=(z2b ok hn).2.2
   omega
 | succ r ih =>
  intro n l hr hn h
  rcases hn with hn|hn
  ·subst hn
   rw [z1g,z0w] at h
   obtain rfl:[]=l:=congrArg (fun x=>x.1) h
   rw [z1g]
   decide +kernel
  ·have hl:=zb4 ok (.inr hn)
   have hh:=zek ok _ n (Nat.le_refl _) hn
   obtain ⟨s1,s2,s3⟩:=z2b ok hn
   have hb:=(z38 ok hn).2.2
   rw [s1] at h hl hh ⊢
   obtain ⟨q,q1,q2⟩:=zgu k t _ _ _ _ h
   obtain ⟨us,q3⟩:=zru q2
   have q4:=ih _ q (by omega) s2 q1
   have q5:=(zrt q3).2.2.2.1
   rw [hb,hh] at q5
   rw [List.length_append,List.length_singleton] at hl q5 ⊢
   have q6:=z0ho (((z0n t.names t.blocks (z0e t.names t.blocks n)).length+1:Nat):Int) (by omega) (by omega)
   rw [show (((z0n t.names t.blocks (z0e t.names t.blocks n)).length+1:Nat):Int) - 1=((z0n t.names t.blocks (z0e t.names t.blocks n)).length:Int) by omega] at q6
   omega
theorem zde {k:Book} {t:Tree} {n:Int} {l:List Coin} (h:z8 k t n=(l,0)):CoinsOK l∧(n≠0→z1e t n=0)∧0≤zh t n∧zh t n≤24∧ze l≤zch (zh t n)∧(n=0→zh t n=0):=by
 obtain ⟨h1,h2,h3,h4,h5⟩:=zgt h
 have hs:=z01d h2 _ n l (Nat.le_refl _) h3 h5
 rcases h3 with h3|h3
 ·subst h3
  rw [z1g,z0w] at h5
  obtain rfl:[]=l:=congrArg (fun x=>x.1) h5
  have hz:idx t.names 0<0:=by
   apply Classical.byContradiction
   intro hc
   have:=(h2.name (m:=0) (by omega)).1
   omega
  have e:z1e t 0=5:=by
   unfold z1e
   rw [if_neg (fun k=>k ((z02 _ _).2 h2)),if_pos hz]
  have hh:zh t 0=0:=by unfold zh;rw [if_pos (by rw [e];decide)]
  rw [hh]
  rw [z1g] at hs
  exact ⟨⟨by simp,(fun c hc=>by cases hc),List.Pairwise.nil,by simp [ze]⟩,fun k=>absurd rfl k,by omega,by omega,hs,fun _=>rfl⟩
 ·obtain ⟨q,us,q1,q2⟩:=z08d h h3
  obtain ⟨p1,p2,p3⟩:=z38 h2 h3
  have hh:zh t n=((z0n t.names t.blocks n).length:Int):=by
   unfold zh
   rw [if_neg (fun k=>k p2),p3,zek h2 _ n (Nat.le_refl _) h3]
  have hl:=zb4 h2 (.inr h3)
  rw [hh]
  exact ⟨(zrt q2).2.2.1,fun _=>p2,by omega,by omega,hs,fun k=>by have:=(h2.name h3).1;omega⟩
end
section
open Go.RowKit
set_option maxRecDepth 100000
def z34 (k:Book):List Tx→Bool
 | []=>true
 | t::r=>if (zp t).2≠0 then false else if (zp t).1 ∈ k.texts then z34 k r else false
def zdf (k:Book) (t:Tree) (K:Int) (i:Nat):List Int→Int
 | []=>K
 | nm::r=>if z3t k nm≠0 then 5 else if z3s k nm≠(z0d (z01 t.blocks i)).1 then 5 else
  if z34 k (z01 t.blocks i).txs=false then 5 else if (z8 k t nm).2≠0 then (z8 k t nm).2 else zdf k t K (i+1) r
def z5z (k:Book) (n:Node):Int :=
 if (z8 k n.t n.tip).2≠0 then (z8 k n.t n.tip).2 else if (n.pool.length:Int)=0 then 0 else
 if z34 k n.pool=false then 5 else
 if (zt k (z8 k n.t n.tip).1 n.pool (zh n.t n.tip+1)).2.2.2.2≠0 then (zt k (z8 k n.t n.tip).1 n.pool (zh n.t n.tip+1)).2.2.2.2 else
 if ((zt k (z8 k n.t n.tip).1 n.pool (zh n.t n.tip+1)).2.1.length:Int)≠n.pool.length then 7 else 0
def z0r (k:Book) (n:Node):Int :=
 if zf k≠0 then zf k else if (z0v n.t).2≠0 then (z0v n.t).2 else if (z0v n.t).1≠n.tip then 4 else
 zdf k n.t (z5z k n) 0 n.t.names
def z71:Node:=⟨⟨[],[]⟩,[],0⟩
abbrev z0fr:=List z1j × Node × Int × Int
def zjl (k:Book) (t:Tree) (p:List Tx) (tip nm:Int):z0fr :=
 if (p.length:Int) > 0 then (if zh t tip+1≤1000 then
  ((zt k (z8 k t tip).1 p (zh t tip+1)).1,⟨t,(zt k (z8 k t tip).1 p (zh t tip+1)).2.1,tip⟩,nm,0)
  else (k.texts,⟨t,p,tip⟩,nm,0)) else (k.texts,⟨t,p,tip⟩,nm,0)
def z0p (k:Book) (n:Node) (b:Block):z0fr :=
 if z0r k n≠0 then ([],z71,0,z0r k n) else if (z00 k b).2.2.2≠0 then ([],z71,0,(z00 k b).2.2.2) else
 if z0g n.t (z00 k b).2.1 b≠0 then ([],z71,0,z0g n.t (z00 k b).2.1 b) else
 if (z8 ⟨(z00 k b).1⟩ (z23 n.t (z00 k b).2.1 b) (z00 k b).2.1).2≠0 then ([],z71,0,(z8 ⟨(z00 k b).1⟩ (z23 n.t (z00 k b).2.1 b) (z00 k b).2.1).2) else
 zjl ⟨(z00 k b).1⟩ (z23 n.t (z00 k b).2.1 b) n.pool (z0v (z23 n.t (z00 k b).2.1 b)).1 (z00 k b).2.1
def z0u (k:Book) (n:Node) (t:Tx):List z1j × Node × Int :=
 if z0r k n≠0 then ([],z71,z0r k n) else if (z8 k n.t n.tip).2≠0 then ([],z71,(z8 k n.t n.tip).2) else
 if (z1t k (z8 k n.t n.tip).1 n.pool t (zh n.t n.tip+1)).2.2≠0 then ([],z71,(z1t k (z8 k n.t n.tip).1 n.pool t (zh n.t n.tip+1)).2.2) else
 ((z1t k (z8 k n.t n.tip).1 n.pool t (zh n.t n.tip+1)).1,⟨n.t,(z1t k (z8 k n.t n.tip).1 n.pool t (zh n.t n.tip+1)).2.1,n.tip⟩,0)
def z0k (k:Book) (n:Node) (work nonce:Int) (o:List Op):List z1j × Node × Block × Int :=
 if z0r k n≠0 then ([],z71,z6k,z0r k n) else if (z8 k n.t n.tip).2≠0 then ([],z71,z6k,(z8 k n.t n.tip).2) else
 if (z33 k (z8 k n.t n.tip).1 n.pool n.tip (zh n.t n.tip) work nonce o).2≠0 then ([],z71,z6k,(z33 k (z8 k n.t n.tip).1 n.pool n.tip (zh n.t n.tip) work nonce o).2) else
 if (z0p k n (z33 k (z8 k n.t n.tip).1 n.pool n.tip (zh n.t n.tip) work nonce o).1).2.2.2≠0 then ([],z71,z6k,(z0p k n (z33 k (z8 k n.t n.tip).1 n.pool n.tip (zh n.t n.tip) work nonce o).1).2.2.2) else
 ((z0p k n (z33 k (z8 k n.t n.tip).1 n.pool n.tip (zh n.t n.tip) work nonce o).1).1,(z0p k n (z33 k (z8 k n.t n.tip).1 n.pool n.tip (zh n.t n.tip) work nonce o).1).2.1,(z33 k (z8 k n.t n.tip).1 n.pool n.tip (zh n.t n.tip) work nonce o).1,0)
def z3d (k:Book) (n:Node):List Coin × Int:=if z0r k n≠0 then ([],z0r k n) else z8 k n.t n.tip
def kn1:List z1j × Node × Block × Int:=z0k ⟨[]⟩ z71 2 0 []
def kn2:List z1j × Node × Block × Int:=z0k ⟨kn1.1⟩ kn1.2.1 3 0 []
theorem kn_1:kn1.2.2.2=0∧kn1.2.2.1.height=1:=by with_unfolding_all decide +kernel
theorem kn_2:kn2.2.2.2=0∧kn2.2.2.1.parent≠0∧kn2.2.2.1.height=2:=by with_unfolding_all decide +kernel
theorem kn_3:(z3d ⟨kn2.1⟩ kn2.2.1).2=0∧(z3d ⟨kn2.1⟩ kn2.2.1).1.length=2∧z0r ⟨kn2.1⟩ kn2.2.1=0:=by with_unfolding_all decide +kernel
end
section
open Go.RowKit
set_option maxRecDepth 100000
def zgv (x:Node):List Dt:=zal x.t++[.l 3 (x.pool.map eTx),I x.tip]
theorem z0cb (x y:Node) (h:zgv x=zgv y):x=y:=by
 obtain ⟨t,p,n⟩:=x
 obtain ⟨t',p',n'⟩:=y
 obtain ⟨h1,h2⟩:=List.append_inj' h rfl
 simp only [List.cons.injEq,Dt.l.injEq,true_and,and_true] at h2
 obtain rfl:=zqy t t' h1
 obtain rfl:=z4a znt h2.1
 obtain rfl:=zkn n n' (by unfold zg;rw [h2.2])
 rfl
instance:Enc Node:=⟨zgv,4,fun _=>rfl,z0cb⟩
theorem she_node:ShE shNode zgv:=z5v (e0:=zal) (e1:=z99 (eSl 3 eTx) zg) z0de (zfv (z5b she_tx rfl) z2d) (fun x=>⟨x.t,(x.pool,x.tip),rfl⟩) (fun a b=>rfl)
theorem z0ey (k:Book) (n:Int):(z3s k n).length≤9223372036854775807:=by
 unfold z3s
 split
 ·simp
 rename_i h
 split
 ·simp
 ·have ok:=(z0q k.texts).1 (Decidable.not_not.1 h)
  cases hx:k.texts[(n - 1).toNat]? with
  | none=>simp
  | some s=>have:=ok.2.1 s (List.mem_of_getElem? hx);simp only [Option.getD_some];omega
theorem z0hp (k:Book) (n:Int):Er (z3t k n):=by
 unfold z3t
 split
 ·exact zji k
 split
 ·exact z19 _ rfl
 ·exact z19 _ rfl
noncomputable def z4s:z6:=spD (fun _:Book × Int=>True) fun x=>(z3s x.1 x.2,z3t x.1 x.2)
theorem zfh (k:Book) (n:Int):z4s [.l 1 (k.texts.map z06),I n]=some [.s (z3s k n),I (z3t k n)]:=zb (f:=fun x:Book × Int=>(z3s x.1 x.2,z3t x.1 x.2)) (k,n) trivial
theorem zn7:Meets Tryz.prog z4s 24 ⟨[.agg 1,.one],[(false,[.scal]),(false,[.scal])],true⟩ :=
 z5g rfl (z1u (fn:=Tryz.f24) (by kernel_rfl) (by kernel_rfl) (by kernel_rfl)) fun x _ W F us hF h=>by
  obtain ⟨k,n⟩:=x
  obtain ⟨cs,us,rfl,h1,h⟩:=znu (d1:=z7q k) (d2:=zg n) h rfl
  obtain ⟨v,us,rfl,h2,h⟩:=z16 h
  obtain rfl:=z1r h
  obtain ⟨rfl,hn⟩:=zci h2
  refine (z0dp k cs n W F (she_book.of h1) hF.1).mono ?_
  rintro e w' ⟨rfl,hb⟩
  exact ⟨_,rfl,hb,zjg rfl rfl (.s _ (z0ey k n)) (.i _ _ (wrap_i64 (z0hp k n).i64))⟩
noncomputable def zdg:z6:=spD (fun _:List (List UInt8) × List UInt8=>True) fun x=>z2c x.1 x.2
theorem z04f (l:List (List UInt8)) (s:List UInt8):zdg [.l 1 (l.map z06),.s s]=some [.b (z2c l s)]:=zb (f:=fun x:List (List UInt8) × List UInt8=>z2c x.1 x.2) (l,s) trivial
theorem z0hq:Meets Tryz.prog zdg 161 ⟨[.one,.one],[(false,[.scal])],true⟩ :=
 zmh rfl (z1u (fn:=Tryz.f161) (by kernel_rfl) (by kernel_rfl) (by kernel_rfl)) fun ⟨a,b⟩ _ W F us hF h=>by
  obtain ⟨v,us,rfl,h1,h⟩:=z16 h
  obtain ⟨v2,us,rfl,h2,h⟩:=z16 h
  obtain rfl:=z1r h
  obtain ⟨A,n,c,rfl,k1⟩:=z2u za7 h1
  obtain ⟨rfl,k2⟩:=zf2 h2
  exact (zvh a b A n c W F k1).mono fun e w' h=>⟨h.1,h.2 ▸ Below.refl _ _⟩
end
section
open Go.RowKit
open Go.Lib (itoa)
set_option maxRecDepth 100000
set_option maxHeartbeats 4000000
theorem ziu {t:Tree} (h:(z0v t).2=0):TreeOK t.names t.blocks:=by
 unfold z0v at h
 by_cases h0:zy t=0
 ·exact (z02 t.names t.blocks).1 h0
 ·rw [if_pos h0] at h;exact absurd h h0
theorem zgw {k:Book}:∀ {l:List Tx},z34 k l=true→∀ t ∈ l,zl t=0∧(zp t).1 ∈ k.texts
 | [],_,t,ht=>by cases ht
 | x::l,h,t,ht=>by
  rw [z34] at h
  by_cases h1:(zp x).2=0
  rotate_left
  ·rw [if_pos h1] at h;cases h
  rw [if_neg (fun k=>k h1)] at h
  by_cases h2:(zp x).1 ∈ k.texts
  rotate_left
  ·rw [if_neg h2] at h;cases h
  rw [if_pos h2] at h
  rcases List.mem_cons.1 ht with rfl|ht
  ·refine ⟨?_,h2⟩
   by_cases hc:zl t=0
   ·exact hc
   ·have e:zp t=([],zl t):=by unfold zp;exact if_pos hc
    rw [e] at h1;exact h1
  ·exact zgw h t ht
theorem zpk {k:Book} {n:Node} (h:z0r k n=0):TreeOK n.t.names n.t.blocks∧n.pool.length≤8∧∀ t ∈ n.pool,zl t=0:=by
 unfold z0r at h
 by_cases h1:zf k=0
 rotate_left
 ·rw [if_pos h1] at h;exact absurd h h1
 rw [if_neg (fun k=>k h1)] at h
 by_cases h2:(z0v n.t).2=0
 rotate_left
 ·rw [if_pos h2] at h;exact absurd h h2
 rw [if_neg (fun k=>k h2)] at h
 by_cases h3:(z0v n.t).1≠n.tip
 ·rw [if_pos h3] at h;exact absurd h (by decide)
 rw [if_neg h3] at h
 have key:∀ (r:List Int) (i:Nat),zdf k n.t (z5z k n) i r=0→z5z k n=0:=by
  intro r
  induction r with
  | nil=>intro i h;exact h
  | cons nm r ih =>
   intro i h
   rw [zdf] at h
   split at h
   ·exact absurd h (by decide)
   split at h
   ·exact absurd h (by decide)
   split at h
   ·exact absurd h (by decide)
   split at h
   ·rename_i hc;exact absurd h hc
   ·exact ih _ h
 have hp:=key _ _ h
 refine ⟨ziu h2,?_⟩
 unfold z5z at hp
 split at hp
 ·rename_i hc;exact absurd hp hc
 split at hp
 ·rename_i h0
  have:n.pool=[]:=List.eq_nil_of_length_eq_zero (by omega)
  rw [this]
  exact ⟨by simp,fun t ht=>by cases ht⟩
 split at hp
 ·exact absurd hp (by decide)
 rename_i hn
 split at hp
 ·rename_i hc;exact absurd hp hc
 rename_i hs
 split at hp
 ·exact absurd hp (by decide)
 rename_i hl
 have:=(zc7 k (z8 k n.t n.tip).1 n.pool (zh n.t n.tip+1)).1
 exact ⟨by omega,fun t ht=>(zgw (by simpa using hn) t ht).1⟩
theorem zrx {k:Book} {t:Tree} {n:Int} (h:(z8 k t n).2=0):0≤zh t n∧zh t n≤24:=by
 have:=zde (k:=k) (t:=t) (n:=n) (l:=(z8 k t n).1) (by rw [← h])
 exact ⟨this.2.2.1,this.2.2.2.1⟩
attribute [local irreducible] z0o spD zp z0d zf z0v z0h z1e z8 zt z3s z3t zh z00 z23 z0g
attribute [local irreducible] den denX z1c z1n
noncomputable def z2k:z6:=spD (fun _:Tree × Int=>True) fun x=>zh x.1 x.2
theorem z80 (t:Tree) (n:Int):z2k [.l 1 (t.names.map zg),.l 5 (t.blocks.map zi),I n]=some [I (zh t n)]:=zb (f:=fun x:Tree × Int=>zh x.1 x.2) (t,n) trivial
def zgx:T :=
 .lets [.call 89 [.v 0,.v 1,.v 2] 0,.call 89 [.v 0,.v 1,.v 2] 1,.call 89 [.v 0,.v 1,.v 2] 2,.call 89 [.v 0,.v 1,.v 2] 3,.call 89 [.v 0,.v 1,.v 2] 4,.call 89 [.v 0,.v
 1,.v 2] 5] [] (.lets [.bin .neq (.v 8) (.c (.i .i64 0))] [] (.ite (.v 9) (.ret [.c (.i .i64 0)]) (.ret [.v 4])))
attribute [local irreducible] z1m
theorem zc8:Meets Tryz.prog z2k 79 ⟨[.agg 2,.one],[(false,[.scal])],true⟩:=by
 refine z9 (sp:=(z05 [(89,z1m)])) (sigs:=z08) (cut:=[]) (hints:=[]) (fn:=Tryz.f79) (t:=zgx) (by kernel_rfl) (by kernel_rfl) (by kernel_rfl) ?_ ?_
 ·exact (zq (L:=[(89,z1m)]) ⟨z5 rfl zas,trivial⟩)
 ·rintro ds rs - h
  obtain ⟨⟨t,n⟩,-,rfl,rfl⟩:=zd h
  clear h
  refine ⟨⟨1,?_⟩,z0a rfl⟩
  show den _ _ zgx [.l 1 (t.names.map zg),.l 5 (t.blocks.map zi),I n] []=ret (zh t n)
  have a1:=z70 t n
  rw [show zh t n=if z1e t n≠0 then 0 else (z0h t n).height by with_unfolding_all rfl]
  unfold zgx
  generalize z0h t n=b at *
  generalize z1e t n=e at *
  repeat' (first|refine dq1 ?_|refine dqK rfl (a1) ?_|exact z4 rfl rfl|refine tR (fun h=>?_) fun h=>?_|fail)
theorem z08f (k:Book) (x:Tx) (r:List Tx):z34 k (x::r)=if (zp x).2≠0 then false else if z2c k.texts (zp x).1=true then z34 k r else false:=by
 rw [z34]
 unfold z2c
 simp only [decide_eq_true_eq]
noncomputable def zc9:z6:=spD (fun _:Book × List Tx=>True) fun x=>z34 x.1 x.2
theorem zh7 (k:Book) (l:List Tx):zc9 [.l 1 (k.texts.map z06),.l 3 (l.map eTx)]=some [.b (z34 k l)]:=zb (f:=fun x:Book × List Tx=>z34 x.1 x.2) (k,l) trivial
def z04g:T :=
 .ite (.v 13) (.lets [.bin .geq (.v 4) (.c (.i .i64 0))] [] (.lets [.not (.v 14)] [] (.ret [.v 15]))) (.lets [.bin .add (.v 4) (.c (.i .i64 1))] [] (.again 0 [.v 3,.v 14]))
def z04h:T :=
 .ite (.v 11) (.lets [.bin .geq (.v 4) (.c (.i .i64 0))] [] (.lets [.not (.v 12)] [] (.ret [.v 13]))) (.lets [.call 112 [.v 0,.v 9] 0] [] (.lets [.not (.v 12)] [] z04g))
def z04i:T :=
 .lets [.idx (.v 1) (.v 4) 0,.idx (.v 1) (.v 4) 1,.idx (.v 1) (.v 4) 2] [] (.lets [.call 64 [.v 6,.v 7,.v 8] 0,.call 64 [.v 6,.v 7,.v 8] 1] [] (.lets [.bin .neq (.v 10) (.c
 (.i .i64 0))] [] z04h))
def z04j:T :=
 .lets [.bin .lss (.v 4) (.v 2)] [] (.ite (.v 5) (.lets [] [.inr 3 (.v 1) (.v 4)] z04i) (.lets [.bin .geq (.c (.i .i64 (-1))) (.c (.i .i64 0))] [] (.lets [.not (.v 6)] []
 (.ret [.v 7]))))
def ziv:T :=
 .lets [.len (.v 1)] [] (.loop [.c (.i .i64 0),.c (.i .i64 0)] z04j)
attribute [local irreducible] zdg z37
theorem z0cc:Meets Tryz.prog zc9 86 ⟨[.agg 1,.one],[(false,[.scal])],true⟩:=by
 refine z8s (sp:=(z05 [(64,z37),(112,zdg)])) (sigs:=z08) (cut:=[]) (hints:=[]) (fns:=[z76 159 Tryz.f159 [] [],z76 219 Tryz.f219 [⟨2,[.t 4,.t 8]⟩] [],z76 160 Tryz.f160 [] []]) (dep:=4) (pool:=400) (fn:=Tryz.f86) (t:=ziv) (by kernel_rfl) (by kernel_rfl) (by kernel_rfl) ?_ ?_ ?_
 ·exact (z1y (fn:=Tryz.f159) (by kernel_rfl) (by kernel_rfl) (by kernel_rfl) (by kernel_rfl) (by kernel_rfl) (z1y (fn:=Tryz.f219) (by kernel_rfl) (by kernel_rfl) (by kernel_rfl) (by kernel_rfl) (by kernel_rfl) (z1y (fn:=Tryz.f160) (by kernel_rfl) (by kernel_rfl) (by kernel_rfl) (by kernel_rfl) (by kernel_rfl) za9)))
 ·exact (zq (L:=[(64,z37),(112,zdg)]) ⟨z5 rfl zi7,z5 rfl z0hq,trivial⟩)
 ·rintro ds rs hok h
  obtain ⟨⟨k,l⟩,-,rfl,rfl⟩:=zd h
  clear h
  have hll:=zkv (hok (.l 3 (l.map eTx)) (List.mem_append_right _ (List.mem_singleton.2 rfl)))
  refine ⟨⟨l.length+1,?_⟩,z0a rfl⟩
  show den _ _ ziv [.l 1 (k.texts.map z06),.l 3 (l.map eTx)] []=ret (z34 k l)
  unfold ziv
  repeat' (first|refine dq1 ?_|fail)
  (refine z0c (fun (_:Unit) k=>[I 0,I k]) (fun (_:Unit) _ (r:List Tx)=>z34 k r) (fun _ _=>True) () l ?_ ?_ ?_ ?_ ?_;rfl;exact trivial;exact Nat.lt_succ_self _)
  ·rintro _ i x r hx hd hk - again hag
   rw [z08f]
   have a1:=zad x
   have a2:=z04f k.texts (zp x).1
   have hag':=hag () trivial
   generalize zp x=p at *
   obtain ⟨s,e⟩:=p
   simp only at *
   generalize z2c k.texts s=b at *
   cases b
   ·rw [if_neg (by decide:¬ false=true)]
    repeat' (first|refine dq1 ?_|refine dqc ?_|refine dqm ?_|refine dqK rfl (a1) ?_|refine dqk rfl (a2) ?_|exact z4 rfl rfl|refine tR (fun h=>?_) fun h=>?_|refine dqT ?_|refine z6w rfl ?_|fail)
   ·rw [if_pos rfl]
    repeat' (first|refine dq1 ?_|refine dqc ?_|refine dqm ?_|refine dqK rfl (a1) ?_|refine dqk rfl (a2) ?_|exact z4 rfl rfl|refine tR (fun h=>?_) fun h=>?_|refine dqT ?_|refine z4i rfl ?_|fail)
    exact zm rfl rfl hag'
  ·rintro _ - again
   rw [z34]
   repeat' (first|refine dq1 ?_|exact z4 rfl rfl|refine dqF ?_|fail)
theorem zn8 (b:Block):z1v [I b.parent,I b.height,I b.work,I b.nonce,.l 3 (b.txs.map eTx)]=some [.s (z0d b).1,I (z0d b).2]:=z9s b
noncomputable def z1b:z6:=spD (fun _:Book × Node=>True) fun x=>z0r x.1 x.2
theorem z3l (k:Book) (n:Node):z1b [.l 1 (k.texts.map z06),.l 1 (n.t.names.map zg),.l 5 (n.t.blocks.map zi),.l 3 (n.pool.map eTx),I n.tip]=some [I (z0r k n)]:=zb (f:=fun x:Book × Node=>z0r x.1 x.2) (k,n) trivial
def z04k:T :=
 .lets [.call 96 [.v 0,.v 1,.v 2,.v 15] 0,.call 96 [.v 0,.v 1,.v 2,.v 15] 1] [] (.lets [.bin .neq (.v 31) (.c (.i .i64 0))] [] (.ite (.v 32) (.ret [.v 31]) (.lets [.bin .add
 (.v 13) (.c (.i .i64 1))] [] (.again 0 [.v 12,.v 33]))))
def z04l:T :=
 .lets [] [.inr 5 (.v 2) (.v 13)] (.lets [.idx (.v 2) (.v 13) 4] [] (.lets [.call 116 [.v 0,.v 27] 0] [] (.lets [.not (.v 28)] [] (.ite (.v 29) (.ret [.c (.i .i64 5)])
 z04k))))
def z04m:T :=
 .lets [.bin .neq (.v 24) (.c (.i .i64 0))] [] (.ite (.v 25) (.ret [.c (.i .i64 5)]) (.lets [.bin .neq (.v 23) (.v 21)] [] (.ite (.v 26) (.ret [.c (.i .i64 5)]) z04l)))
def z04n:T :=
 .lets [.call 65 [.v 16,.v 17,.v 18,.v 19,.v 20] 0,.call 65 [.v 16,.v 17,.v 18,.v 19,.v 20] 1] [] (.lets [.call 110 [.v 0,.v 15] 0,.call 110 [.v 0,.v 15] 1] []
 z04m)
def z04o:T :=
 .lets [] [.inr 5 (.v 2) (.v 13)] (.lets [.idx (.v 2) (.v 13) 0,.idx (.v 2) (.v 13) 1,.idx (.v 2) (.v 13) 2,.idx (.v 2) (.v 13) 3,.idx (.v 2) (.v 13) 4] [] z04n)
def z04p:T :=
 .ite (.v 29) (.ret [.v 28]) (.lets [.len (.v 25)] [] (.lets [.len (.v 3)] [] (.lets [.bin .neq (.v 30) (.v 31)] [] (.ite (.v 32) (.ret [.c (.i .i64 7)]) (.ret [.c (.i .i64 0)])))))
def z04q:T :=
 .lets [.call 98 [.v 0,.v 15,.v 3,.v 23] 0,.call 98 [.v 0,.v 15,.v 3,.v 23] 1,.call 98 [.v 0,.v 15,.v 3,.v 23] 2,.call 98 [.v 0,.v 15,.v 3,.v 23] 3,.call 98 [.v 0,.v
 15,.v 3,.v 23] 4] [] (.lets [.bin .neq (.v 28) (.c (.i .i64 0))] [] z04p)
def z04r:T :=
 .lets [.not (.v 20)] [] (.ite (.v 21) (.ret [.c (.i .i64 5)]) (.lets [.call 115 [.v 1,.v 2,.v 4] 0] [] (.lets [.bin .add (.v 22) (.c (.i .i64 1))] [] z04q)))
def z04s:T :=
 .ite (.v 17) (.ret [.v 16]) (.lets [.len (.v 3)] [] (.lets [.bin .eql (.v 18) (.c (.i .i64 0))] [] (.ite (.v 19) (.ret [.c (.i .i64 0)]) (.lets [.call 116 [.v 0,.v 3] 0] []
 z04r))))
def z04t:T :=
 .ite (.v 14) (.lets [] [.inr 1 (.v 1) (.v 13)] (.lets [.idx (.v 1) (.v 13) 0] [] z04o)) (.lets [.call 96 [.v 0,.v 1,.v 2,.v 4] 0,.call 96 [.v 0,.v 1,.v 2,.v 4] 1] []
 (.lets [.bin .neq (.v 16) (.c (.i .i64 0))] [] z04s))
def z01e:T :=
 .lets [.bin .neq (.v 7) (.v 4)] [] (.ite (.v 10) (.ret [.c (.i .i64 4)]) (.lets [.len (.v 1)] [] (.loop [.c (.i .i64 0),.c (.i .i64 0)] (.lets [.bin .lss (.v 13) (.v 11)] []
 z04t))))
def z01f:T :=
 .ite (.v 6) (.ret [.v 5]) (.lets [.call 108 [.v 1,.v 2] 0,.call 108 [.v 1,.v 2] 1] [] (.lets [.bin .neq (.v 8) (.c (.i .i64 0))] [] (.ite (.v 9) (.ret [.v 8]) z01e)))
def ziw:T :=
 .lets [.call 70 [.v 0] 0] [] (.lets [.bin .neq (.v 5) (.c (.i .i64 0))] [] z01f)
attribute [local irreducible] z1v z25 z4s z1q z26 z5r
theorem z7i:Meets Tryz.prog z1b 26 ⟨[.agg 1,.agg 4],[(false,[.scal])],true⟩:=by
 refine z9 (sp:=(z05 [(65,z1v),(70,z25),(96,z1q),(98,z26),(108,z5r),(110,z4s),(115,z2k),(116,zc9)])) (sigs:=z08) (cut:=[]) (hints:=[⟨10,[.t 4,.t 43]⟩]) (fn:=Tryz.f26) (t:=ziw) (by kernel_rfl) (by kernel_rfl) (by kernel_rfl) ?_ ?_
 ·exact (zq (L:=[(65,z1v),(70,z25),(96,z1q),(98,z26),(108,z5r),(110,z4s),(115,z2k),(116,zc9)]) ⟨z5 rfl zgc,z5 rfl zef,z5 rfl zb7,z5 rfl zat,z5 rfl zmu,z5 rfl zn7,z5 rfl zc8,z5 rfl z0cc,trivial⟩)
 ·rintro ds rs hok h
  obtain ⟨⟨k,n⟩,-,rfl,rfl⟩:=zd h
  clear h
  refine ⟨⟨100,?_⟩,z0a rfl⟩
  show den _ _ ziw [.l 1 (k.texts.map z06),.l 1 (n.t.names.map zg),.l 5 (n.t.blocks.map zi),.l 3 (n.pool.map eTx),I n.tip] []=ret (z0r k n)
  have a1:=z9q k
  have a2:=zff n.t
  have hok2:=fun h=>ziu (t:=n.t) h
  unfold ziw z0r
  generalize zf k=e1 at *
  generalize z0v n.t=pb at *
  obtain ⟨bt,e2⟩:=pb
  simp only at *
  repeat' (first|refine dq1 ?_|refine dqk rfl (a1) ?_|refine dqK rfl (a2) ?_|exact z4 rfl rfl|refine tR (fun h=>?_) fun h=>?_|fail)
  have ok:=hok2 (by omega)
  have hnl:=ok.len
  have hnle:=ok.le
  clear hok2
  (refine z0c (fun (_:Unit) i=>[I 0,I i]) (fun (_:Unit) i (r:List Int)=>zdf k n.t (z5z k n) i r) (fun _ _=>True) () n.t.names ?_ ?_ ?_ ?_ ?_;rfl;exact trivial;omega)
  ·rintro _ i nm r hx hd hk - again hag
   have hb:n.t.blocks[((i:Int)).toNat]? = some (z01 n.t.blocks i):=by
    rw [Int.toNat_natCast]
    unfold z01
    rw [Int.toNat_natCast,List.getElem?_eq_getElem (by omega)]
    rfl
   rw [zdf]
   have hag':=hag () trivial
   generalize hbb:z01 n.t.blocks i=b at *
   have b1:=zn8 b
   have b2:=zfh k nm
   have b3:=zh7 k b.txs
   have b4:=z5a k n.t nm
   generalize z0d b=pb at *
   obtain ⟨s,e⟩:=pb
   generalize z8 k n.t nm=q at *
   obtain ⟨l,e4⟩:=q
   simp only at *
   generalize z34 k b.txs=d at *
   generalize z3s k nm=ls at *
   generalize z3t k nm=le at *
   cases d
   ·rw [if_pos (rfl:false=false)]
    repeat' (first|refine dq1 ?_|refine dqc ?_|refine dqm ?_|refine dqK rfl (b1) ?_|refine dqK rfl (b2) ?_|refine dqk rfl (b3) ?_|exact z4 rfl rfl|refine tR (fun h=>?_) fun h=>?_|refine dqT ?_|refine z6w rfl ?_|fail)
   ·rw [if_neg (by decide:¬ true=false)]
    repeat' (first|refine dq1 ?_|refine dqc ?_|refine dqm ?_|refine dqK rfl (b1) ?_|refine dqK rfl (b2) ?_|refine dqk rfl (b3) ?_|refine dqK rfl (b4) ?_|exact z4 rfl rfl|refine tR (fun h=>?_) fun h=>?_|refine dqT ?_|refine z4i rfl ?_|fail)
    exact zm rfl rfl hag'
  ·rintro _ - again
   rw [zdf]
   unfold z5z
   have b1:=z5a k n.t n.tip
   have b2:=zh7 k n.pool
   have b3:=z80 n.t n.tip
   have hh:=fun h=>zrx (k:=k) (t:=n.t) (n:=n.tip) h
   generalize z8 k n.t n.tip=q at *
   obtain ⟨l,e4⟩:=q
   have b4:=z5k k.texts l n.pool (zh n.t n.tip+1)
   simp only at *
   have hkk:(⟨k.texts⟩:Book)=k:=rfl
   rw [hkk] at b4
   generalize zt k l n.pool (zh n.t n.tip+1)=w at *
   obtain ⟨wx,ws,wm,wf,we⟩:=w
   simp only at *
   generalize z34 k n.pool=d at *
   generalize zh n.t n.tip=hgt at *
   by_cases h4:e4=0
   ·have hh:=hh h4
    cases d
    ·rw [if_pos (rfl:false=false)]
     repeat' (first|refine dq1 ?_|refine dqK rfl (b1) ?_|refine dqk rfl (b2) ?_|exact z4 rfl rfl|refine tR (fun h=>?_) fun h=>?_|refine dqF ?_|refine z6w rfl ?_|fail)
     all_goals omega
    ·rw [if_neg (by decide:¬ true=false)]
     repeat' (first|refine dq1 ?_|refine dqK rfl (b1) ?_|refine dqk rfl (b2) ?_|refine dqk rfl (b3) ?_|refine dqK rfl (b4) ?_|exact z4 rfl rfl|refine tR (fun h=>?_) fun h=>?_|refine dqF ?_|refine z4i rfl ?_|fail)
     all_goals omega
   ·clear hh
    rw [if_pos h4]
    repeat' (first|refine dq1 ?_|refine dqK rfl (b1) ?_|exact z4 rfl rfl|refine dqT ?_|refine dqF ?_|fail)
    all_goals omega
theorem z0hr {α:Type} {l:List α} {i:Nat} {x:α} (h:l[i]? = some x):l.set i x=l:=by
 rw [← (List.getElem?_eq_some_iff.1 h).2]
 exact List.set_getElem_self _
noncomputable def z7j:z6:=spD (fun n:Node=>TreeOK n.t.names n.t.blocks∧n.pool.length≤8∧∀ t ∈ n.pool,zl t=0) fun n=>n
theorem zix (n:Node) (h:TreeOK n.t.names n.t.blocks∧n.pool.length≤8∧∀ t ∈ n.pool,zl t=0):z7j [.l 1 (n.t.names.map zg),.l 5 (n.t.blocks.map zi),.l 3 (n.pool.map eTx),I n.tip]=some [.l 1 (n.t.names.map zg),.l 5 (n.t.blocks.map zi),.l 3 (n.pool.map eTx),I n.tip]:=zb (p:=fun n:Node=>TreeOK n.t.names n.t.blocks∧n.pool.length≤8∧∀ t ∈ n.pool,zl t=0) (f:=fun n:Node=>n) n h
def z08g:T :=
 .lets [.call 91 [.v 11,.v 12,.v 13] 0,.call 91 [.v 11,.v 12,.v 13] 1,.call 91 [.v 11,.v 12,.v 13] 2] [] (.lets [] [.inr 3 (.v 9) (.v 8)] (.lets [.set (.v 9) (.v 8) 0 [.v 14,
 .v 15,.v 16]] [] (.lets [.bin .add (.v 8) (.c (.i .i64 1))] [] (.again 0 [.v 18,.v 17]))))
def z08h:T :=
 .ite (.v 10) (.lets [] [.inr 3 (.v 9) (.v 8)] (.lets [.idx (.v 9) (.v 8) 0,.idx (.v 9) (.v 8) 1,.idx (.v 9) (.v 8) 2] [] z08g)) (.ret [.v 4,.v 5,.v 9,.v 3])
def zl7:T :=
 .lets [.call 113 [.v 0,.v 1] 0,.call 113 [.v 0,.v 1] 1] [] (.lets [.call 114 [.v 2] 0] [] (.lets [.len (.v 6)] [] (.loop [.c (.i .i64 0),.v 6] (.lets [.bin .lss (.v 8) (.v 7)]
 [] z08h))))
attribute [local irreducible] z7z z4q z2s
theorem z01g:Meets Tryz.prog z7j 75 ⟨[.agg 4],[(true,[.pure,.pure,.pure,.scal])],false⟩:=by
 refine z9 (sp:=(z05 [(91,z2s),(113,z4q),(114,z7z)])) (sigs:=z08) (cut:=[]) (hints:=[⟨4,[.t 16,.o 11]⟩]) (fn:=Tryz.f75) (t:=zl7) (by kernel_rfl) (by kernel_rfl) (by kernel_rfl) ?_ ?_
 ·exact (zq (L:=[(91,z2s),(113,z4q),(114,z7z)]) ⟨z5 rfl zgg,z5 rfl zmr,z5 rfl z0bs,trivial⟩)
 ·rintro ds rs hok h
  obtain ⟨n,⟨h1,h2,h3⟩,rfl,rfl⟩:=zd h
  clear h
  refine ⟨⟨20,?_⟩,z1d ⟨rfl,trivial⟩⟩
  show den _ _ zl7 [.l 1 (n.t.names.map zg),.l 5 (n.t.blocks.map zi),.l 3 (n.pool.map eTx),I n.tip] []=ret n
  have a1:z4q [.l 1 (n.t.names.map zg),.l 5 (n.t.blocks.map zi)]=some [.l 1 (n.t.names.map zg),.l 5 (n.t.blocks.map zi)]:=zfb n.t (zmv h1)
  have a2:=z07x n.pool (by omega)
  unfold zl7
  repeat' (first|refine dq1 ?_|refine dqK rfl (a1) ?_|refine dqk rfl (a2) ?_|fail)
  (refine z0c (fun (_:Unit) i=>[I i,.l 3 (n.pool.map eTx)]) (fun (_:Unit) i (r:List Tx)=>n) (fun _ _=>True) () n.pool ?_ ?_ ?_ ?_ ?_;rfl;exact trivial;omega)
  ·rintro _ i x r hx hd hk - again hag
   have hx':n.pool[((i:Int)).toNat]? = some x:=by rw [Int.toNat_natCast];exact hx
   have b1:=zda x (z6j (h3 x (List.mem_of_getElem? hx)))
   have hag':=hag () trivial
   have hs:=z0hr hx
   have hset:∀ {sp:Nat→z6} {E:Env} {a b:Atom} {vs:List Atom},a.val E=some (.l 3 (n.pool.map eTx))→b.val E=some (I (i:Int))→vals E vs=some (eTx x)→denX sp E (.set a b 0 vs)=some (.l 3 (n.pool.map eTx)):=by
    intro sp E a b vs ha hb hv
    have:=zjj (sp:=sp) (l:=n.pool) (x:=x) (y:=x) (n:=i) (m:=(i:Int)) (j:=0) (by omega) ha hb hv (by omega) (by show 0+3≤3;decide) hx rfl
    rw [hs] at this
    exact this
   repeat' (first|refine dq1 ?_|refine dqc ?_|refine dqm ?_|refine dqK rfl (b1) ?_|refine z7 (hset rfl rfl rfl) ?_|refine dqT ?_|fail)
   exact zm rfl rfl hag'
  ·rintro _ - again
   repeat' (first|refine dq1 ?_|exact z4 rfl rfl|refine dqF ?_|fail)
noncomputable def z2t:z6:=spD (fun _:Book × Node × Block=>True) fun x=>z0p x.1 x.2.1 x.2.2
theorem z53 (k:Book) (n:Node) (b:Block):z2t [.l 1 (k.texts.map z06),.l 1 (n.t.names.map zg),.l 5 (n.t.blocks.map zi),.l 3 (n.pool.map eTx),I n.tip,I b.parent,I b.height,I b.work,I b.nonce,.l 3 (b.txs.map eTx)]=some [.l 1 ((z0p k n b).1.map z06),.l 1 ((z0p k n b).2.1.t.names.map zg),.l 5 ((z0p k n b).2.1.t.blocks.map zi),.l 3 ((z0p k n b).2.1.pool.map eTx),I (z0p k n b).2.1.tip,I (z0p k n b).2.2.1,I (z0p k n b).2.2.2]:=zb (f:=fun x:Book × Node × Block=>z0p x.1 x.2.1 x.2.2) (k,n,b) trivial
theorem zfi (x:List (List UInt8)) (t:Tree) (n:Int):z1q [.l 1 (x.map z06),.l 1 (t.names.map zg),.l 5 (t.blocks.map zi),I n]=some [.l 6 ((z8 ⟨x⟩ t n).1.map zj),I (z8 ⟨x⟩ t n).2]:=z5a ⟨x⟩ t n
theorem zn9 (t:Tree) (n:Int) : -9223372036854775808≤zh t n+1∧zh t n+1≤9223372036854775807:=by
 have e:zh t n=if z1e t n≠0 then 0 else (z0h t n).height:=by with_unfolding_all rfl
 rw [e]
 split
 ·omega
 ·rename_i h
  have h0:z1e t n=0:=Decidable.not_not.1 h
  have hc:zy t=0:=by
   apply Classical.byContradiction
   intro hc
   have:z1e t n=zy t:=by with_unfolding_all exact if_pos hc
   exact hc (this ▸ h0)
  have hi:0≤idx t.names n:=by
   apply Classical.byContradiction
   intro hi
   have:z1e t n=5:=by
    have e:z1e t n=if zy t≠0 then zy t else if idx t.names n<0 then 5 else 0:=by with_unfolding_all rfl
    rw [e,if_neg (fun k=>k hc),if_pos (by omega)]
   rw [this] at h0;exact absurd h0 (by decide)
  have ok:=(z02 _ _).1 hc
  obtain ⟨p1,p2,p3⟩:=z38 ok hi
  have hl:=zb4 ok (.inr hi)
  rw [p3,zek ok _ n (Nat.le_refl _) hi]
  omega
def z08i:T :=
 .lets [.call 98 [.v 12,.v 35,.v 26,.v 31] 0,.call 98 [.v 12,.v 35,.v 26,.v 31] 1,.call 98 [.v 12,.v 35,.v 26,.v 31] 2,.call 98 [.v 12,.v 35,.v 26,.v 31] 3,.call 98
 [.v 12,.v 35,.v 26,.v 31] 4] [] (.ret [.v 37,.v 17,.v 18,.v 38,.v 28,.v 13,.c (.i .i64 0)])
def z08j:T :=
 .ite (.v 34) (.lets [.call 96 [.v 12,.v 17,.v 18,.v 28] 0,.call 96 [.v 12,.v 17,.v 18,.v 28] 1] [] z08i) (.ret [.v 12,.v 17,.v 18,.v 26,.v 28,.v 13,.c (.i .i64
 0)])
def z08k:T :=
 .lets [.bin .gtr (.v 32) (.c (.i .i64 0))] [] (.ite (.v 33) (.lets [.bin .leq (.v 31) (.c (.i .i64 1000))] [] z08j) (.ret [.v 12,.v 17,.v 18,.v 26,.v 28,.v 13,.c (.i
 .i64 0)]))
def z08l:T :=
 .lets [.call 108 [.v 17,.v 18] 0,.call 108 [.v 17,.v 18] 1] [] (.lets [.call 115 [.v 17,.v 18,.v 28] 0] [] (.lets [.bin .add (.v 30) (.c (.i .i64 1))] [] (.lets [.len (.v 26)]
 [] z08k)))
def z08m:T :=
 .lets [.call 118 [.v 1,.v 2,.v 3,.v 4] 0,.call 118 [.v 1,.v 2,.v 3,.v 4] 1,.call 118 [.v 1,.v 2,.v 3,.v 4] 2,.call 118 [.v 1,.v 2,.v 3,.v 4] 3] [] z08l
def z08n:T :=
 .lets [.bin .neq (.v 22) (.c (.i .i64 0))] [] (.ite (.v 23) (.ret [.c (.nil 1),.c (.nil 1),.c (.nil 5),.c (.nil 3),.c (.i .i64 0),.c (.i .i64 0),.v 22]) z08m)
def z08o:T :=
 .ite (.v 20) (.ret [.c (.nil 1),.c (.nil 1),.c (.nil 5),.c (.nil 3),.c (.i .i64 0),.c (.i .i64 0),.v 19]) (.lets [.call 96 [.v 12,.v 17,.v 18,.v 13] 0,.call 96 [.v 12,.v
 17,.v 18,.v 13] 1] [] z08n)
def z08p:T :=
 .lets [.call 90 [.v 1,.v 2,.v 13,.v 5,.v 6,.v 7,.v 8,.v 9] 0,.call 90 [.v 1,.v 2,.v 13,.v 5,.v 6,.v 7,.v 8,.v 9] 1,.call 90 [.v 1,.v 2,.v 13,.v 5,.v 6,.v 7,.v
 8,.v 9] 2] [] (.lets [.bin .neq (.v 19) (.c (.i .i64 0))] [] z08o)
def z08q:T :=
 .lets [.bin .neq (.v 15) (.c (.i .i64 0))] [] (.ite (.v 16) (.ret [.c (.nil 1),.c (.nil 1),.c (.nil 5),.c (.nil 3),.c (.i .i64 0),.c (.i .i64 0),.v 15]) z08p)
def z08r:T :=
 .lets [.call 73 [.v 0,.v 5,.v 6,.v 7,.v 8,.v 9] 0,.call 73 [.v 0,.v 5,.v 6,.v 7,.v 8,.v 9] 1,.call 73 [.v 0,.v 5,.v 6,.v 7,.v 8,.v 9] 2,.call 73 [.v 0,.v 5,.v 6,
 .v 7,.v 8,.v 9] 3] [] z08q
def z04u:T :=
 .lets [.bin .neq (.v 10) (.c (.i .i64 0))] [] (.ite (.v 11) (.ret [.c (.nil 1),.c (.nil 1),.c (.nil 5),.c (.nil 3),.c (.i .i64 0),.c (.i .i64 0),.v 10]) z08r)
def zl8:T :=
 .lets [.call 117 [.v 0,.v 1,.v 2,.v 3,.v 4] 0] [] z04u
attribute [local irreducible] z3y z9t
theorem zgy:Meets Tryz.prog z2t 20 ⟨[.agg 1,.agg 4,.agg 5],[(true,[.pure]),(true,[.pure,.pure,.pure,.scal]),(false,[.scal]),(false,[.scal])],false⟩:=by
 refine z8s (sp:=(z05 [(73,z3y),(90,z9t),(96,z1q),(98,z26),(108,z5r),(115,z2k),(117,z1b),(118,z7j)])) (sigs:=z08) (cut:=[]) (hints:=[]) (fns:=[z76 72 Tryz.f72 [] [],z76 77 Tryz.f77 [] []]) (dep:=2) (pool:=600) (fn:=Tryz.f20) (t:=zl8) (by kernel_rfl) (by kernel_rfl) (by kernel_rfl) ?_ ?_ ?_
 ·exact (z1y (fn:=Tryz.f72) (by kernel_rfl) (by kernel_rfl) (by kernel_rfl) (by kernel_rfl) (by kernel_rfl) (z1y (fn:=Tryz.f77) (by kernel_rfl) (by kernel_rfl) (by kernel_rfl) (by kernel_rfl) (by kernel_rfl) za9))
 ·exact (zq (L:=[(73,z3y),(90,z9t),(96,z1q),(98,z26),(108,z5r),(115,z2k),(117,z1b),(118,z7j)]) ⟨z5 rfl zmo,z5 rfl z0bt,z5 rfl zb7,z5 rfl zat,z5 rfl zmu,z5 rfl zc8,z5 rfl z7i,z5 rfl z01g,trivial⟩)
 ·rintro ds rs hok h
  obtain ⟨⟨k,n,b⟩,-,rfl,rfl⟩:=zd h
  clear h
  refine ⟨⟨1,?_⟩,z1d ⟨rfl,rfl,rfl,trivial⟩⟩
  show den _ _ zl8 [.l 1 (k.texts.map z06),.l 1 (n.t.names.map zg),.l 5 (n.t.blocks.map zi),.l 3 (n.pool.map eTx),I n.tip,I b.parent,I b.height,I b.work,I b.nonce,.l 3 (b.txs.map eTx)] []=ret (z0p k n b)
  have a1:=z3l k n
  have a2:=zf9 k b
  have a5:=fun h=>zix n (zpk (k:=k) h)
  unfold zl8 z0p
  generalize z0r k n=e1 at *
  generalize z00 k b=q at *
  obtain ⟨x,nm,ns,e2⟩:=q
  simp only at *
  have a3:=ztl n.t nm b
  generalize z23 n.t nm b=t at *
  generalize z0g n.t nm b=e3 at *
  have a4:=zfi x t nm
  generalize z8 ⟨x⟩ t nm=c at *
  obtain ⟨cl,ce⟩:=c
  have a6:=zff t
  generalize z0v t=pb at *
  obtain ⟨tip,be⟩:=pb
  simp only at *
  have a7:=z80 t tip
  have hh:=zn9 t tip
  have a8:=zfi x t tip
  unfold zjl
  generalize z8 ⟨x⟩ t tip=c at *
  obtain ⟨tl,te⟩:=c
  simp only at *
  have a9:=z5k x tl n.pool (zh t tip+1)
  generalize zt ⟨x⟩ tl n.pool (zh t tip+1)=w at *
  obtain ⟨wx,ws,wm,wf,we⟩:=w
  generalize zh t tip=hgt at *
  simp only at *
  by_cases h1:e1=0
  ·have a5:=a5 h1
   repeat' (first|refine dq1 ?_|refine dqk rfl (a1) ?_|refine dqK rfl (a2) ?_|refine dqK rfl (a3) ?_|refine dqK rfl (a4) ?_|refine dqK rfl (a5) ?_|refine dqK rfl (a6) ?_|refine dqk rfl (a7) ?_|refine dqK rfl (a8) ?_|refine dqK rfl (a9) ?_|exact z4 rfl rfl|refine tR (fun h=>?_) fun h=>?_|fail)
   all_goals omega
  ·clear a5
   repeat' (first|refine dq1 ?_|refine dqk rfl (a1) ?_|exact z4 rfl rfl|refine tR (fun h=>?_) fun h=>?_|fail)
   all_goals omega
noncomputable def z3z:z6:=spD (fun _:Book × Node=>True) fun x=>z3d x.1 x.2
theorem z8i (k:Book) (n:Node):z3z [.l 1 (k.texts.map z06),.l 1 (n.t.names.map zg),.l 5 (n.t.blocks.map zi),.l 3 (n.pool.map eTx),I n.tip]=some [.l 6 ((z3d k n).1.map zj),I (z3d k n).2]:=zb (f:=fun x:Book × Node=>z3d x.1 x.2) (k,n) trivial
def z04v:T :=
 .lets [.bin .neq (.v 5) (.c (.i .i64 0))] [] (.ite (.v 6) (.ret [.c (.nil 6),.v 5]) (.lets [.call 96 [.v 0,.v 1,.v 2,.v 4] 0,.call 96 [.v 0,.v 1,.v 2,.v 4] 1] [] (.ret [.v
 7,.v 8])))
def ziy:T :=
 .lets [.call 117 [.v 0,.v 1,.v 2,.v 3,.v 4] 0] [] z04v
theorem ziz:Meets Tryz.prog z3z 30 ⟨[.agg 1,.agg 4],[(false,[.pure]),(false,[.scal])],false⟩:=by
 refine z9 (sp:=(z05 [(96,z1q),(117,z1b)])) (sigs:=z08) (cut:=[]) (hints:=[]) (fn:=Tryz.f30) (t:=ziy) (by kernel_rfl) (by kernel_rfl) (by kernel_rfl) ?_ ?_
 ·exact (zq (L:=[(96,z1q),(117,z1b)]) ⟨z5 rfl zb7,z5 rfl z7i,trivial⟩)
 ·rintro ds rs hok h
  obtain ⟨⟨k,n⟩,-,rfl,rfl⟩:=zd h
  clear h
  refine ⟨⟨1,?_⟩,z1d ⟨rfl,trivial⟩⟩
  show den _ _ ziy [.l 1 (k.texts.map z06),.l 1 (n.t.names.map zg),.l 5 (n.t.blocks.map zi),.l 3 (n.pool.map eTx),I n.tip] []=ret (z3d k n)
  have a1:=z3l k n
  have a2:=z5a k n.t n.tip
  unfold ziy z3d
  generalize z0r k n=e1 at *
  generalize z8 k n.t n.tip=c at *
  obtain ⟨l,e⟩:=c
  simp only at *
  repeat' (first|refine dq1 ?_|refine dqk rfl (a1) ?_|refine dqK rfl (a2) ?_|exact z4 rfl rfl|refine tR (fun h=>?_) fun h=>?_|fail)
end
section
open Go.RowKit
set_option maxRecDepth 100000
set_option maxHeartbeats 4000000
attribute [local irreducible] z0o spD z2h
end
section
open Go.RowKit
set_option maxRecDepth 100000
set_option maxHeartbeats 4000000
theorem z0hs {P:Program} {α:Type} {e:α→List Dt} {m k:α→Int} {pk:List PK} {f:Nat} (hpk:z3m pk=false) (hen:En P f) (hm:∀ x,I64 (m x)∧I64 (k x))
  (h:∀ x W F us,(∀ b,F b→b<W.heap.size)→PKRs W F pk (e x) us→Calls P f us.toArray W fun r W'=>r = .returned (.tuple #[.int .i64 (m x),.int .i64 (k x)])∧Below W.heap.size W W') :
  Meets P (z0o e fun x=>[I (m x),I (k x)]) f ⟨pk,[(false,[.scal]),(false,[.scal])],true⟩ :=
 z06w hpk hen (by simp [zu]) (fun x j dd hj hd=>by
  match j,hj,hd with
  | 0,_,hd=>simp only [List.getElem?_cons_zero,Option.some.injEq] at hd;subst hd;rfl
  | 1,_,hd=>simp only [List.getElem?_cons_zero,List.getElem?_cons_succ,Option.some.injEq] at hd;subst hd;rfl
  | j+2,_,hd=>simp at hd) (fun x=>rfl) fun x W F us hF hargs=>(h x W F us hF hargs).mono fun r W' ⟨h1,h2⟩ =>
   ⟨_,[.int .i64 (m x),.int .i64 (k x)],F,h1,h2,⟨[_,_],rfl,_,_,[_],[_],rfl,rfl,⟨rfl,rfl⟩,_,_,[_],[],rfl,rfl,⟨rfl,rfl⟩,rfl,rfl⟩,⟨.i _ _ (wrap_i64 (hm x).1),.i _ _ (wrap_i64 (hm x).2),trivial⟩,fun b hb=>.inl hb⟩
theorem z01h:∀ (l:List Int) (s:Int),0≤s→s≤1000000000→I64 (z9g l s).1∧I64 (z9g l s).2
 | [],s,h0,h1=>⟨⟨by show _≤s;omega,by show s≤_;omega⟩,⟨by show _≤(0:Int);decide,by show (0:Int)≤_;decide⟩⟩
 | x::l,s,h0,h1=>by
  unfold z9g
  have hz:I64 0:=⟨by decide,by decide⟩
  have h3:I64 3:=⟨by decide,by decide⟩
  have h12:I64 12:=⟨by decide,by decide⟩
  by_cases hb:0≤x∧x≤1000000000
  ·rw [if_pos hb]
   by_cases hf:1000000000<s+x
   ·rw [if_pos hf];exact ⟨hz,h12⟩
   ·rw [if_neg hf];exact z01h l (s+x) (by omega) (by omega)
  ·rw [if_neg hb];exact ⟨hz,h3⟩
noncomputable def zca:z6:=spD (fun _:List Int=>True) fun l=>z2n l
theorem zu5 (l:List Int):zca [.l 1 (l.map zg)]=some [I (z2n l).1,I (z2n l).2]:=zb (f:=fun l:List Int=>z2n l) l trivial
theorem z0cd:Meets Tryz.prog zca 134 ⟨[.one],[(false,[.scal]),(false,[.scal])],true⟩ :=
 z0hs (e:=fun x:{ x:List Int // True }=>Enc.e x.1) (m:=fun x=>(z2n x.1).1) (k:=fun x=>(z2n x.1).2) rfl (z1u (fn:=Tryz.f134) (by kernel_rfl) (by kernel_rfl) (by kernel_rfl)) (fun x=>z01h x.1 0 (by decide) (by decide)) fun x W F us hF h=>by
  obtain ⟨v,us,rfl,h1,h⟩:=z16 h
  obtain rfl:=z1r h
  obtain ⟨A,n,c,rfl,k1⟩:=z2u z2d h1
  refine (z05r x.1 A n c W F k1).mono ?_
  rintro r W' ⟨rfl,rfl⟩
  exact ⟨rfl,Below.refl _ _⟩
attribute [local irreducible] z0o spD z2h z2n
def zel (k:List Op):List Int→List Coin→List Int
 | a,[]=>a
 | a,c::r=>if decide (c.o.lock=k)=true then zel k (a++[c.o.coin]) r else zel k a r
def zem (l:List Coin) (k:List Op):Int × Int:=if zx l≠0 then (0,zx l) else z2n (zel k [] l)
noncomputable def zfj:z6:=spD (fun _:List Coin × List Op=>True) fun x=>zem x.1 x.2
theorem z08s (l:List Coin) (k:List Op):zfj [.l 6 (l.map zj),.l 2 (k.map eOp)]=some [I (zem l k).1,I (zem l k).2]:=zb (f:=fun x:List Coin × List Op=>zem x.1 x.2) (l,k) trivial
def z0ez:T :=
 .ite (.v 14) (.lets [.mk 1 [[.v 10]]] [] (.lets [.app 1 (.v 5) (.v 15)] [] (.lets [.bin .add (.v 6) (.c (.i .i64 1))] [] (.again 0 [.v 16,.v 17])))) (.lets [.bin .add (.v 6) (.c
 (.i .i64 1))] [] (.again 0 [.v 5,.v 15]))
def z0f0:T :=
 .lets [.idx (.v 0) (.v 6) 0,.idx (.v 0) (.v 6) 1,.idx (.v 0) (.v 6) 2,.idx (.v 0) (.v 6) 3,.idx (.v 0) (.v 6) 4,.idx (.v 0) (.v 6) 5] [] (.lets [.call 20 [.v 11,.v 1] 0] []
 z0ez)
def z0f1:T :=
 .lets [.bin .lss (.v 6) (.v 4)] [] (.ite (.v 7) (.lets [] [.inr 6 (.v 0) (.v 6)] z0f0) (.lets [.call 19 [.v 5] 0,.call 19 [.v 5] 1] [] (.ret [.v 8,.v 9])))
def z01i:T :=
 .lets [.call 8 [.v 0] 0] [] (.lets [.bin .neq (.v 2) (.c (.i .i64 0))] [] (.ite (.v 3) (.ret [.c (.i .i64 0),.v 2]) (.lets [.len (.v 0)] [] (.loop [.c (.nil 1),.c (.i .i64 0)]
 z0f1))))
theorem z0ju:Meets Tryz.prog zfj 158 ⟨[.one,.one],[(false,[.scal]),(false,[.scal])],true⟩:=by
 refine z9 (sp:=(z05 [(8,z36),(19,zca),(20,z69)])) (sigs:=z08) (cut:=[]) (hints:=[⟨6,[.r 7 3 1,.t 17]⟩]) (fn:=Tryz.f158) (t:=z01i) (by kernel_rfl) (by kernel_rfl) (by kernel_rfl) ?_ ?_
 ·exact (zq (L:=[(8,z36),(19,zca),(20,z69)]) ⟨z5 rfl zdx,z5 rfl z0cd,z5 rfl zom,trivial⟩)
 ·rintro ds rs - h
  obtain ⟨⟨l,q⟩,-,rfl,rfl⟩:=zd h
  clear h
  refine ⟨⟨l.length+1,?_⟩,z77 rfl rfl⟩
  show den _ _ z01i [.l 6 (l.map zj),.l 2 (q.map eOp)] []=ret (zem l q)
  unfold z01i zem
  repeat' (first|refine dq1 ?_|refine dqk rfl (z57 _) ?_|exact z4 rfl rfl|refine tR (fun h=>?_) fun h=>?_|fail)
  have ok:=(z0l l).1 (Decidable.not_not.1 h)
  have hl:=ok.len
  (refine z0c (fun (a:List Int) k=>[.l 1 (a.map zg),I k]) (fun (a:List Int) _ (r:List Coin)=>z2n (zel q a r)) (fun a k=>a.length≤k) ([]:List Int) l ?_ ?_ ?_ ?_ ?_;rfl;exact Nat.le_refl _;exact Nat.lt_succ_self _)
  ·rintro a k c r hx hd hk ha again hag
   rw [zel]
   have e:z2n (if decide (c.o.lock=q)=true then zel q (a++[c.o.coin]) r else zel q a r)=if decide (c.o.lock=q)=true then z2n (zel q (a++[c.o.coin]) r) else z2n (zel q a r):=by split <;> rfl
   rw [e]
   repeat' (first|refine dq1 ?_|refine dqc ?_|refine dqm ?_|refine dqk rfl (zeb _ _) ?_|refine tB (fun h=>?_) fun h=>?_|refine dqT ?_|fail)
   ·exact zm rfl rfl (hag (a++[c.o.coin]) (by simp;omega))
   ·exact zm rfl rfl (hag a (by omega))
  ·rintro a - again
   rw [zel]
   repeat' (first|refine dq1 ?_|refine dqK rfl (zu5 _) ?_|exact z4 rfl rfl|refine dqF ?_|fail)
end
section
open Go.RowKit
open Go.Lib (itoa)
set_option maxRecDepth 100000
set_option maxHeartbeats 4000000
theorem kn_4:zem (z3d ⟨kn2.1⟩ kn2.2.1).1 []=(128,0):=by with_unfolding_all decide +kernel
attribute [local irreducible] z0o spD z8 zh z0r z0p z33 z3d zem
attribute [local irreducible] den denX z1c z1n
noncomputable def z7k:z6:=spD (fun x:Book × Node × Int × Int × List Op=>x.2.2.2.2.length≤8796093022208) fun x=>z0k x.1 x.2.1 x.2.2.1 x.2.2.2.1 x.2.2.2.2
theorem zdh (k:Book) (n:Node) (a b:Int) (o:List Op) (h:o.length≤8796093022208):z7k [.l 1 (k.texts.map z06),.l 1 (n.t.names.map zg),.l 5 (n.t.blocks.map zi),.l 3 (n.pool.map eTx),I n.tip,I a,I b,.l 2 (o.map eOp)]=some [.l 1 ((z0k k n a b o).1.map z06),.l 1 ((z0k k n a b o).2.1.t.names.map zg),.l 5 ((z0k k n a b o).2.1.t.blocks.map zi),.l 3 ((z0k k n a b o).2.1.pool.map eTx),I (z0k k n a b o).2.1.tip,I (z0k k n a b o).2.2.1.parent,I (z0k k n a b o).2.2.1.height,I (z0k k n a b o).2.2.1.work,I (z0k k n a b o).2.2.1.nonce,.l 3 ((z0k k n a b o).2.2.1.txs.map eTx),I (z0k k n a b o).2.2.2] :=
 zb (p:=fun x:Book × Node × Int × Int × List Op=>x.2.2.2.2.length≤8796093022208) (f:=fun x:Book × Node × Int × Int × List Op=>z0k x.1 x.2.1 x.2.2.1 x.2.2.2.1 x.2.2.2.2) (k,n,a,b,o) h
def z08t:T :=
 .ite (.v 28) (.ret [.c (.nil 1),.c (.nil 1),.c (.nil 5),.c (.nil 3),.c (.i .i64 0),.c (.i .i64 0),.c (.i .i64 0),.c (.i .i64 0),.c (.i .i64 0),.c (.nil 3),.v 27]) (.ret
 [.v 21,.v 22,.v 23,.v 24,.v 25,.v 14,.v 15,.v 16,.v 17,.v 18,.c (.i .i64 0)])
def z08u:T :=
 .lets [.call 119 [.v 0,.v 1,.v 2,.v 3,.v 4,.v 14,.v 15,.v 16,.v 17,.v 18] 0,.call 119 [.v 0,.v 1,.v 2,.v 3,.v 4,.v 14,.v 15,.v 16,.v 17,.v 18] 1,.call 119 [.v 0,
 .v 1,.v 2,.v 3,.v 4,.v 14,.v 15,.v 16,.v 17,.v 18] 2,.call 119 [.v 0,.v 1,.v 2,.v 3,.v 4,.v 14,.v 15,.v 16,.v 17,.v 18] 3,.call 119 [.v 0,.v 1,.v 2,.v 3,.v 4,
 .v 14,.v 15,.v 16,.v 17,.v 18] 4,.call 119 [.v 0,.v 1,.v 2,.v 3,.v 4,.v 14,.v 15,.v 16,.v 17,.v 18] 5,.call 119 [.v 0,.v 1,.v 2,.v 3,.v 4,.v 14,.v 15,.v 16,.v
 17,.v 18] 6] [] (.lets [.bin .neq (.v 27) (.c (.i .i64 0))] [] z08t)
def z08v:T :=
 .ite (.v 20) (.ret [.c (.nil 1),.c (.nil 1),.c (.nil 5),.c (.nil 3),.c (.i .i64 0),.c (.i .i64 0),.c (.i .i64 0),.c (.i .i64 0),.c (.i .i64 0),.c (.nil 3),.v 19])
 z08u
def z08w:T :=
 .lets [.call 100 [.v 0,.v 10,.v 3,.v 4,.v 13,.v 5,.v 6,.v 7] 0,.call 100 [.v 0,.v 10,.v 3,.v 4,.v 13,.v 5,.v 6,.v 7] 1,.call 100 [.v 0,.v 10,.v 3,.v 4,.v 13,.v
 5,.v 6,.v 7] 2,.call 100 [.v 0,.v 10,.v 3,.v 4,.v 13,.v 5,.v 6,.v 7] 3,.call 100 [.v 0,.v 10,.v 3,.v 4,.v 13,.v 5,.v 6,.v 7] 4,.call 100 [.v 0,.v 10,.v 3,.v 4,
 .v 13,.v 5,.v 6,.v 7] 5] [] (.lets [.bin .neq (.v 19) (.c (.i .i64 0))] [] z08v)
def z08x:T :=
 .ite (.v 12) (.ret [.c (.nil 1),.c (.nil 1),.c (.nil 5),.c (.nil 3),.c (.i .i64 0),.c (.i .i64 0),.c (.i .i64 0),.c (.i .i64 0),.c (.i .i64 0),.c (.nil 3),.v 11]) (.lets
 [.call 115 [.v 1,.v 2,.v 4] 0] [] z08w)
def z08y:T :=
 .ite (.v 9) (.ret [.c (.nil 1),.c (.nil 1),.c (.nil 5),.c (.nil 3),.c (.i .i64 0),.c (.i .i64 0),.c (.i .i64 0),.c (.i .i64 0),.c (.i .i64 0),.c (.nil 3),.v 8]) (.lets
 [.call 96 [.v 0,.v 1,.v 2,.v 4] 0,.call 96 [.v 0,.v 1,.v 2,.v 4] 1] [] (.lets [.bin .neq (.v 11) (.c (.i .i64 0))] [] z08x))
def zl9:T :=
 .lets [.call 117 [.v 0,.v 1,.v 2,.v 3,.v 4] 0] [] (.lets [.bin .neq (.v 8) (.c (.i .i64 0))] [] z08y)
attribute [local irreducible] z1q z1b z2k z2t z88
theorem z01j:Meets Tryz.prog z7k 28 ⟨[.agg 1,.agg 4,.one,.one,.one],[(true,[.pure]),(true,[.pure,.pure,.pure,.scal]),(true,[.scal,.scal,.scal,.scal,.pure]),(false,[.scal])],false⟩:=by
 refine z8s (sp:=(z05 [(96,z1q),(100,z88),(115,z2k),(117,z1b),(119,z2t)])) (sigs:=z08) (cut:=[]) (hints:=[]) (fns:=[z76 88 Tryz.f88 [] []]) (dep:=2) (pool:=600) (fn:=Tryz.f28) (t:=zl9) (by kernel_rfl) (by kernel_rfl) (by kernel_rfl) ?_ ?_ ?_
 ·exact (z1y (fn:=Tryz.f88) (by kernel_rfl) (by kernel_rfl) (by kernel_rfl) (by kernel_rfl) (by kernel_rfl) za9)
 ·exact (zq (L:=[(96,z1q),(100,z88),(115,z2k),(117,z1b),(119,z2t)]) ⟨z5 rfl zb7,z5 rfl z08b,z5 rfl zc8,z5 rfl z7i,z5 rfl zgy,trivial⟩)
 ·rintro ds rs hok h
  obtain ⟨⟨k,n,a,b,o⟩,ho,rfl,rfl⟩:=zd h
  clear h
  simp only at ho
  refine ⟨⟨1,?_⟩,z1d ⟨rfl,rfl,rfl,rfl,rfl,rfl,trivial⟩⟩
  show den _ _ zl9 [.l 1 (k.texts.map z06),.l 1 (n.t.names.map zg),.l 5 (n.t.blocks.map zi),.l 3 (n.pool.map eTx),I n.tip,I a,I b,.l 2 (o.map eOp)] []=ret (z0k k n a b o)
  have a1:=z3l k n
  have a2:=z5a k n.t n.tip
  have a3:=z80 n.t n.tip
  have hh:=fun h=>zrx (k:=k) (t:=n.t) (n:=n.tip) h
  unfold zl9 z0k
  generalize z0r k n=e1 at *
  generalize z8 k n.t n.tip=c at *
  obtain ⟨l,e2⟩:=c
  generalize zh n.t n.tip=hgt at *
  simp only at *
  have a4:=fun h=>zpi k.texts l n.pool n.tip hgt a b o h ho
  have hkk:(⟨k.texts⟩:Book)=k:=rfl
  rw [hkk] at a4
  generalize z33 k l n.pool n.tip hgt a b o=m at *
  obtain ⟨mb,e3⟩:=m
  simp only at *
  have a5:=z53 k n mb
  generalize z0p k n mb=q at *
  obtain ⟨x,n2,nm,e4⟩:=q
  simp only at *
  by_cases h2:e2=0
  ·have hh:=hh h2
   have a4:=a4 ⟨by omega,by omega⟩
   repeat' (first|refine dq1 ?_|refine dqk rfl (a1) ?_|refine dqK rfl (a2) ?_|refine dqk rfl (a3) ?_|refine dqK rfl (a4) ?_|refine dqK rfl (a5) ?_|exact z4 rfl rfl|refine tR (fun h=>?_) fun h=>?_|fail)
   all_goals omega
  ·clear hh a4
   repeat' (first|refine dq1 ?_|refine dqk rfl (a1) ?_|refine dqK rfl (a2) ?_|exact z4 rfl rfl|refine tR (fun h=>?_) fun h=>?_|fail)
   all_goals omega
def ze2 (k:Book) (n:Node) (o:List Op):Int × Int:=if (z3d k n).2≠0 then (0,(z3d k n).2) else zem (z3d k n).1 o
noncomputable def z9x:z6:=spD (fun _:Book × Node × List Op=>True) fun x=>ze2 x.1 x.2.1 x.2.2
theorem zna (k:Book) (n:Node) (o:List Op):z9x [.l 1 (k.texts.map z06),.l 1 (n.t.names.map zg),.l 5 (n.t.blocks.map zi),.l 3 (n.pool.map eTx),I n.tip,.l 2 (o.map eOp)]=some [I (ze2 k n o).1,I (ze2 k n o).2]:=zb (f:=fun x:Book × Node × List Op=>ze2 x.1 x.2.1 x.2.2) (k,n,o) trivial
def zu6:T :=
 .lets [.bin .neq (.v 7) (.c (.i .i64 0))] [] (.ite (.v 8) (.ret [.c (.i .i64 0),.v 7]) (.lets [.call 26 [.v 6,.v 5] 0,.call 26 [.v 6,.v 5] 1] [] (.ret [.v 9,.v 10])))
def zen:T :=
 .lets [.call 122 [.v 0,.v 1,.v 2,.v 3,.v 4] 0,.call 122 [.v 0,.v 1,.v 2,.v 3,.v 4] 1] [] zu6
attribute [local irreducible] z3z zfj
theorem z04w:Meets Tryz.prog z9x 80 ⟨[.agg 1,.agg 4,.one],[(false,[.scal]),(false,[.scal])],true⟩:=by
 refine z9 (sp:=(z05 [(26,zfj),(122,z3z)])) (sigs:=z08) (cut:=[]) (hints:=[]) (fn:=Tryz.f80) (t:=zen) (by kernel_rfl) (by kernel_rfl) (by kernel_rfl) ?_ ?_
 ·exact (zq (L:=[(26,zfj),(122,z3z)]) ⟨z5 rfl z0ju,z5 rfl ziz,trivial⟩)
 ·rintro ds rs hok h
  obtain ⟨⟨k,n,o⟩,-,rfl,rfl⟩:=zd h
  clear h
  refine ⟨⟨1,?_⟩,z77 rfl rfl⟩
  show den _ _ zen [.l 1 (k.texts.map z06),.l 1 (n.t.names.map zg),.l 5 (n.t.blocks.map zi),.l 3 (n.pool.map eTx),I n.tip,.l 2 (o.map eOp)] []=ret (ze2 k n o)
  have a1:=z8i k n
  unfold zen ze2
  generalize z3d k n=c at *
  obtain ⟨l,e⟩:=c
  simp only at *
  have a2:=z08s l o
  generalize zem l o=q at *
  obtain ⟨v,f⟩:=q
  simp only at *
  repeat' (first|refine dq1 ?_|refine dqK rfl (a1) ?_|refine dqK rfl (a2) ?_|exact z4 rfl rfl|refine tR (fun h=>?_) fun h=>?_|fail)
noncomputable def z48:z6:=spD (fun _:Unit=>True) fun _=>true
theorem zdi:z48 []=some [.b true]:=zb (f:=fun _:Unit=>true) () trivial
theorem kn_5:ze2 ⟨kn2.1⟩ kn2.2.1 []=(128,0):=by
 unfold ze2
 rw [if_neg (fun k=>k kn_3.1),kn_4]
def z08z:T :=
 .lets [.bin .eql (.v 24) (.c (.i .i64 128))] [] (.ite (.v 35) (.lets [.call 117 [.v 11,.v 12,.v 13,.v 14,.v 15] 0] [] (.lets [.bin .eql (.v 36) (.c (.i .i64 0))] [] (.ret [.v
 37]))) (.ret [.c (.b false)]))
def z090:T :=
 .lets [.bin .eql (.v 17) (.c (.i .i64 2))] [] (.ite (.v 32) (.lets [.len (.v 22)] [] (.lets [.bin .eql (.v 33) (.c (.i .i64 2))] [] (.ite (.v 34) z08z (.ret [.c (.b
 false)])))) (.ret [.c (.b false)]))
def z091:T :=
 .lets [.bin .neq (.v 16) (.c (.i .i64 0))] [] (.ite (.v 30) (.lets [.bin .eql (.v 6) (.c (.i .i64 1))] [] (.ite (.v 31) z090 (.ret [.c (.b false)]))) (.ret [.c (.b false)]))
def z092:T :=
 .lets [.bin .eql (.v 23) (.c (.i .i64 0))] [] (.ite (.v 28) (.lets [.bin .eql (.v 25) (.c (.i .i64 0))] [] (.ite (.v 29) z091 (.ret [.c (.b false)]))) (.ret [.c (.b false)]))
def z093:T :=
 .lets [.bin .eql (.v 10) (.c (.i .i64 0))] [] (.ite (.v 26) (.lets [.bin .eql (.v 21) (.c (.i .i64 0))] [] (.ite (.v 27) z092 (.ret [.c (.b false)]))) (.ret [.c (.b false)]))
def z094:T :=
 .lets [.call 122 [.v 11,.v 12,.v 13,.v 14,.v 15] 0,.call 122 [.v 11,.v 12,.v 13,.v 14,.v 15] 1] [] (.lets [.call 124 [.v 11,.v 12,.v 13,.v 14,.v 15,.c (.nil 2)] 0,
 .call 124 [.v 11,.v 12,.v 13,.v 14,.v 15,.c (.nil 2)] 1] [] z093)
def z095:T :=
 .lets [.call 121 [.v 0,.v 1,.v 2,.v 3,.v 4,.c (.i .i64 3),.c (.i .i64 0),.c (.nil 2)] 0,.call 121 [.v 0,.v 1,.v 2,.v 3,.v 4,.c (.i .i64 3),.c (.i .i64 0),.c (.nil 2)]
 1,.call 121 [.v 0,.v 1,.v 2,.v 3,.v 4,.c (.i .i64 3),.c (.i .i64 0),.c (.nil 2)] 2,.call 121 [.v 0,.v 1,.v 2,.v 3,.v 4,.c (.i .i64 3),.c (.i .i64 0),.c (.nil 2)] 3,
 .call 121 [.v 0,.v 1,.v 2,.v 3,.v 4,.c (.i .i64 3),.c (.i .i64 0),.c (.nil 2)] 4,.call 121 [.v 0,.v 1,.v 2,.v 3,.v 4,.c (.i .i64 3),.c (.i .i64 0),.c (.nil 2)] 5,
 .call 121 [.v 0,.v 1,.v 2,.v 3,.v 4,.c (.i .i64 3),.c (.i .i64 0),.c (.nil 2)] 6,.call 121 [.v 0,.v 1,.v 2,.v 3,.v 4,.c (.i .i64 3),.c (.i .i64 0),.c (.nil 2)] 7,
 .call 121 [.v 0,.v 1,.v 2,.v 3,.v 4,.c (.i .i64 3),.c (.i .i64 0),.c (.nil 2)] 8,.call 121 [.v 0,.v 1,.v 2,.v 3,.v 4,.c (.i .i64 3),.c (.i .i64 0),.c (.nil 2)] 9,
 .call 121 [.v 0,.v 1,.v 2,.v 3,.v 4,.c (.i .i64 3),.c (.i .i64 0),.c (.nil 2)] 10] [] z094
def zla:T :=
 .lets [.call 121 [.c (.nil 1),.c (.nil 1),.c (.nil 5),.c (.nil 3),.c (.i .i64 0),.c (.i .i64 2),.c (.i .i64 0),.c (.nil 2)] 0,.call 121 [.c (.nil 1),.c (.nil 1),.c (.nil
 5),.c (.nil 3),.c (.i .i64 0),.c (.i .i64 2),.c (.i .i64 0),.c (.nil 2)] 1,.call 121 [.c (.nil 1),.c (.nil 1),.c (.nil 5),.c (.nil 3),.c (.i .i64 0),.c (.i .i64 2),.c
 (.i .i64 0),.c (.nil 2)] 2,.call 121 [.c (.nil 1),.c (.nil 1),.c (.nil 5),.c (.nil 3),.c (.i .i64 0),.c (.i .i64 2),.c (.i .i64 0),.c (.nil 2)] 3,.call 121 [.c (.nil 1),
 .c (.nil 1),.c (.nil 5),.c (.nil 3),.c (.i .i64 0),.c (.i .i64 2),.c (.i .i64 0),.c (.nil 2)] 4,.call 121 [.c (.nil 1),.c (.nil 1),.c (.nil 5),.c (.nil 3),.c (.i .i64 0),
 .c (.i .i64 2),.c (.i .i64 0),.c (.nil 2)] 5,.call 121 [.c (.nil 1),.c (.nil 1),.c (.nil 5),.c (.nil 3),.c (.i .i64 0),.c (.i .i64 2),.c (.i .i64 0),.c (.nil 2)] 6,.call
 121 [.c (.nil 1),.c (.nil 1),.c (.nil 5),.c (.nil 3),.c (.i .i64 0),.c (.i .i64 2),.c (.i .i64 0),.c (.nil 2)] 7,.call 121 [.c (.nil 1),.c (.nil 1),.c (.nil 5),.c (.nil
 3),.c (.i .i64 0),.c (.i .i64 2),.c (.i .i64 0),.c (.nil 2)] 8,.call 121 [.c (.nil 1),.c (.nil 1),.c (.nil 5),.c (.nil 3),.c (.i .i64 0),.c (.i .i64 2),.c (.i .i64 0),.c
 (.nil 2)] 9,.call 121 [.c (.nil 1),.c (.nil 1),.c (.nil 5),.c (.nil 3),.c (.i .i64 0),.c (.i .i64 2),.c (.i .i64 0),.c (.nil 2)] 10] [] z095
theorem zlb:Meets Tryz.prog z48 21 ⟨[],[(false,[.scal])],true⟩:=by
 refine z9 (sp:=(z05 [(117,z1b),(121,z7k),(122,z3z),(124,z9x)])) (sigs:=z08) (cut:=[]) (hints:=[]) (fn:=Tryz.f21) (t:=zla) (by kernel_rfl) (by kernel_rfl) (by kernel_rfl) ?_ ?_
 ·exact (zq (L:=[(117,z1b),(121,z7k),(122,z3z),(124,z9x)]) ⟨z5 rfl z7i,z5 rfl z01j,z5 rfl ziz,z5 rfl z04w,trivial⟩)
 ·rintro ds rs - h
  obtain ⟨⟨⟩,-,rfl,rfl⟩:=zd h
  clear h
  refine ⟨⟨1,?_⟩,z0a rfl⟩
  show den _ _ zla [] []=ret true
  have a1:=zdh ⟨[]⟩ z71 2 0 [] (by decide)
  have a2:=zdh ⟨kn1.1⟩ kn1.2.1 3 0 [] (by decide)
  have a3:=z8i ⟨kn2.1⟩ kn2.2.1
  have a4:=zna ⟨kn2.1⟩ kn2.2.1 []
  have a5:=z3l ⟨kn2.1⟩ kn2.2.1
  rw [show z0k ⟨[]⟩ z71 2 0 []=kn1 from rfl,kn_1.1,kn_1.2] at a1
  rw [show z0k ⟨kn1.1⟩ kn1.2.1 3 0 []=kn2 from rfl,kn_2.1,kn_2.2.2] at a2
  rw [kn_3.1] at a3
  rw [kn_5] at a4
  rw [kn_3.2.2] at a5
  have hp:=kn_2.2.1
  have hl:=kn_3.2.1
  generalize (z3d ⟨kn2.1⟩ kn2.2.1).1=l at *
  generalize kn2.2.2.1.parent=p2 at *
  generalize kn2.2.2.1.work=w2 at *
  generalize kn2.2.2.1.nonce=n2 at *
  generalize kn2.2.2.1.txs=t2 at *
  generalize kn2.2.1=nd2 at *
  generalize kn2.1=k2 at *
  generalize kn1.2.2.1.parent=p1 at *
  generalize kn1.2.2.1.work=w1 at *
  generalize kn1.2.2.1.nonce=n1 at *
  generalize kn1.2.2.1.txs=t1 at *
  generalize kn1.2.1=nd1 at *
  generalize kn1.1=k1 at *
  unfold zla
  repeat' (first|refine dq1 ?_|refine dqK rfl (a1) ?_|refine dqK rfl (a2) ?_|refine dqK rfl (a3) ?_|refine dqK rfl (a4) ?_|refine dqk rfl (a5) ?_|exact z4 rfl rfl|refine dqT ?_|refine z6w rfl ?_|fail)
end
section
open Go.RowKit
set_option maxRecDepth 100000
structure BlkIn (k:Book) (b:Block):Prop where
 ok:za b=0
 own:0≤idx k.texts (z1a b)∧(z1a b).length≤4000
 txs:∀ s ∈ z2v b,0≤idx k.texts s∧s.length≤4000
theorem BlkIn.more {k k':Book} {b:Block} (h:BlkIn k b) (hp:k.texts <+: k'.texts):BlkIn k' b :=
 ⟨h.ok,⟨z8f hp h.own.1,h.own.2⟩,fun s hs=>⟨z8f hp (h.txs s hs).1,(h.txs s hs).2⟩⟩
theorem BlkIn.names {k:Book} {b:Block} (h:BlkIn k b) (hk:z14 k.texts):z00 k b=(k.texts,idx k.texts (z1a b)+1,(z2v b).map (fun s=>idx k.texts s+1),0):=zu4 h.ok hk h.own.1 h.own.2 h.txs
theorem z0cf {k k':Book} {b:Block} (h:BlkIn k b) (hk:z14 k.texts) (hk':z14 k'.texts) (hp:k.texts <+: k'.texts) (l:List Coin):z20 k' l b=z20 k l b:=by
 have e1:=h.names hk
 have e2:=(h.more hp).names hk'
 have em:(z2v b).map (fun s=>idx k'.texts s+1)=(z2v b).map (fun s=>idx k.texts s+1):=List.map_congr_left fun s hs=>by rw [z2a hp (h.txs s hs).1]
 rw [em] at e2
 unfold z20
 rw [e1,e2]
theorem znb {k k':Book} {t:Tree} (hk:z14 k.texts) (hk':z14 k'.texts) (hp:k.texts <+: k'.texts):∀ (r:List Int) (l:List Coin),(∀ n ∈ r,BlkIn k (z0h t n))→z0w k' t l r=z0w k t l r
 | [],l,_=>rfl
 | n::r,l,h=>by
  rw [z0w,z0w,z0cf (h n (by simp)) hk hk' hp]
  split
  ·rfl
  ·exact znb hk hk' hp r _ fun m hm=>h m (List.mem_cons_of_mem _ hm)
theorem z6f {k k':Book} {t:Tree} {n:Int} (ok:TreeOK t.names t.blocks) (hk:z14 k.texts) (hk':z14 k'.texts) (hp:k.texts <+: k'.texts) (hn:n=0∨0≤idx t.names n) (h:∀ m,0≤idx t.names m→BlkIn k (z0h t m)):z8 k' t n=z8 k t n:=by
 rw [z5s ((z0q _).2 hk') ok hn,z5s ((z0q _).2 hk) ok hn]
 exact znb hk hk' hp _ _ fun m hm=>h m (z8l ok hn m hm)
structure NodeOK (k:Book) (n:Node):Prop where
 book:z14 k.texts
 tree:TreeOK n.t.names n.t.blocks
 tip:(z0v n.t).1=n.tip
 at_:∀ m,0≤idx n.t.names m→BlkIn k (z0h n.t m)∧m=idx k.texts (z1a (z0h n.t m))+1
 coins:∀ m,0≤idx n.t.names m→(z8 k n.t m).2=0
 pool:z5z k n=0
theorem z0hu {k:Book} {n:Int} {s:List UInt8} (h1:z3t k n=0) (h2:z3s k n=s):0≤idx k.texts s∧n=idx k.texts s+1∧s.length≤4000:=by
 unfold z3t at h1
 unfold z3s at h2
 by_cases hc:zf k=0
 rotate_left
 ·rw [if_pos hc] at h1;exact absurd h1 hc
 rw [if_neg (fun k=>k hc)] at h1 h2
 by_cases hr:n<1∨(k.texts.length:Int)<n
 ·rw [if_pos hr] at h1;exact absurd h1 (by decide)
 rw [if_neg hr] at h2
 have ok:=(z0q k.texts).1 hc
 have hlt:(n - 1).toNat<k.texts.length:=by omega
 rw [List.getElem?_eq_getElem hlt] at h2
 have hs:k.texts[(n - 1).toNat]=s:=h2
 have hm:s ∈ k.texts:=hs ▸ List.getElem_mem hlt
 have hi:=(z0b k.texts s).2 hm
 obtain ⟨j,hj,hjs⟩:=z5h hi
 obtain ⟨hj2,hj3⟩:=List.getElem?_eq_some_iff.1 hjs
 have:(n - 1).toNat=j:=by
  rcases Nat.lt_trichotomy (n - 1).toNat j with h|h|h
  ·exact absurd (hs.trans hj3.symm) (List.pairwise_iff_getElem.1 ok.2.2 _ _ hlt hj2 h)
  ·exact h
  ·exact absurd (hj3.trans hs.symm) (List.pairwise_iff_getElem.1 ok.2.2 _ _ hj2 hlt h)
 exact ⟨hi,by omega,ok.2.1 s hm⟩
theorem z0f7 {k:Book} {b:Block} (hk:z14 k.texts) (h:z34 k b.txs=true):∀ s ∈ z2v b,0≤idx k.texts s∧s.length≤4000:=by
 intro s hs
 unfold z2v at hs
 obtain ⟨t,ht,rfl⟩:=List.mem_map.1 hs
 have:=(zgw h t ht).2
 exact ⟨(z0b _ _).2 this,hk.2.1 _ this⟩
theorem z062 {k:Book} {t:Tree} {K:Int} (ok:TreeOK t.names t.blocks) (hk:z14 k.texts):∀ (r:List Int) (i:Nat),t.names.drop i=r→zdf k t K i r=0→K=0∧∀ m ∈ r,BlkIn k (z0h t m)∧m=idx k.texts (z1a (z0h t m))+1∧(z8 k t m).2=0
 | [],i,_,h=>⟨h,fun m hm=>by cases hm⟩
 | nm::r,i,hd,h=>by
  have hx:t.names[i]? = some nm:=by
   have:(t.names.drop i)[0]? = some nm:=by rw [hd];rfl
   rwa [List.getElem?_drop,Nat.add_zero] at this
  have hlt:=(List.getElem?_eq_some_iff.1 hx).1
  have hni:z07 t.names i=nm:=by simp [z07,hx]
  have hidx:idx t.names nm=i:=by rw [← hni];exact zdj ok hlt
  have hpb:=(z38 ok (n:=nm) (by omega)).2.2
  rw [hidx] at hpb
  have hbc:za (z01 t.blocks i)=0:=by
   refine z8g (t:=t) ((z02 _ _).2 ok) _ ?_
   have:=ok.len
   unfold z01
   rw [Int.toNat_natCast,List.getElem?_eq_getElem (by omega)]
   exact List.getElem_mem _
  rw [zdf] at h
  split at h
  ·exact absurd h (by decide)
  rename_i h1
  split at h
  ·exact absurd h (by decide)
  rename_i h2
  split at h
  ·exact absurd h (by decide)
  rename_i h3
  split at h
  ·rename_i hc;exact absurd h hc
  rename_i h4
  obtain ⟨i1,i2⟩:=z062 ok hk r (i+1) (by rw [← List.drop_drop,hd];rfl) h
  rw [z86 hbc] at h2
  obtain ⟨l1,l2,l3⟩:=z0hu (Decidable.not_not.1 h1) (Decidable.not_not.1 h2)
  refine ⟨i1,fun m hm=>?_⟩
  rcases List.mem_cons.1 hm with rfl|hm
  ·rw [hpb]
   exact ⟨⟨hbc,⟨l1,l3⟩,z0f7 hk (by simpa using h3)⟩,l2,Decidable.not_not.1 h4⟩
  ·exact i2 m hm
theorem zgz {k:Book} {n:Node} (h:z0r k n=0):NodeOK k n:=by
 unfold z0r at h
 by_cases h1:zf k=0
 rotate_left
 ·rw [if_pos h1] at h;exact absurd h h1
 rw [if_neg (fun k=>k h1)] at h
 by_cases h2:(z0v n.t).2=0
 rotate_left
 ·rw [if_pos h2] at h;exact absurd h h2
 rw [if_neg (fun k=>k h2)] at h
 by_cases h3:(z0v n.t).1≠n.tip
 ·rw [if_pos h3] at h;exact absurd h (by decide)
 rw [if_neg h3] at h
 have ok:=ziu h2
 have hk:=(z0q k.texts).1 h1
 obtain ⟨g1,g2⟩:=z062 ok hk n.t.names 0 rfl h
 exact ⟨hk,ok,Decidable.not_not.1 h3,fun m hm=>⟨(g2 m ((z0b _ _).1 hm)).1,(g2 m ((z0b _ _).1 hm)).2.1⟩,fun m hm=>(g2 m ((z0b _ _).1 hm)).2.2,g1⟩
end
section
open Go.RowKit
set_option maxRecDepth 100000
theorem zj0 {k:Book}:∀ {l:List Tx},(∀ t ∈ l,zl t=0∧0≤idx k.texts (z1h t))→z34 k l=true
 | [],_=>rfl
 | t::l,h=>by
  obtain ⟨h1,h2⟩:=h t (by simp)
  rw [z34,z9p h1,if_neg (fun k=>k rfl),if_pos ((z0b _ _).1 h2)]
  exact zj0 fun x hx=>h x (List.mem_cons_of_mem _ hx)
theorem BlkIn.named {k:Book} {b:Block} (h:BlkIn k b):z34 k b.txs=true:=by
 refine zj0 fun t ht=>?_
 have hc:=(z3w h.ok).each t ht
 refine ⟨hc,?_⟩
 have:=(h.txs ((zp t).1) (List.mem_map_of_mem ht)).1
 rwa [z9p hc] at this
theorem z01m {k:Book} {n:Node} {K:Int} (N:NodeOK k n):∀ (r:List Int) (i:Nat),n.t.names.drop i=r→zdf k n.t K i r=K
 | [],i,_=>rfl
 | nm::r,i,hd=>by
  have hx:n.t.names[i]? = some nm:=by
   have:(n.t.names.drop i)[0]? = some nm:=by rw [hd];rfl
   rwa [List.getElem?_drop,Nat.add_zero] at this
  have hlt:=(List.getElem?_eq_some_iff.1 hx).1
  have hni:z07 n.t.names i=nm:=by simp [z07,hx]
  have hidx:idx n.t.names nm=i:=by rw [← hni];exact zdj N.tree hlt
  have hpb:=(z38 N.tree (n:=nm) (by omega)).2.2
  rw [hidx] at hpb
  obtain ⟨a1,a2⟩:=N.at_ nm (by omega)
  rw [hpb] at a1 a2
  have hl:=zk0 N.book a1.own.1
  have hkk:(⟨k.texts⟩:Book)=k:=rfl
  rw [hkk,← a2] at hl
  rw [zdf,hl.2,if_neg (fun k=>k rfl),hl.1,z86 a1.ok,if_neg (fun k=>k rfl),a1.named,if_neg (by decide),N.coins nm (by omega),if_neg (fun k=>k rfl)]
  exact z01m N r (i+1) (by rw [← List.drop_drop,hd];rfl)
theorem z41 {k:Book} {n:Node} (N:NodeOK k n):z0r k n=0:=by
 have hb:(z0v n.t).2=0:=by
  unfold z0v
  rw [if_neg (fun k=>k ((z02 _ _).2 N.tree))]
 unfold z0r
 rw [if_neg (fun k=>k ((z0q _).2 N.book)),if_neg (fun k=>k hb),if_neg (fun k=>k N.tip),z01m N n.t.names 0 rfl,N.pool]
end
section
open Go.RowKit
set_option maxRecDepth 100000
theorem zba {t:Tree} {m:Int} (ok:TreeOK t.names t.blocks) (hm:0≤idx t.names m):z0h t m=z01 t.blocks (idx t.names m):=(z38 ok hm).2.2
theorem znc {t u:Tree} (h:SubT t.names t.blocks u.names u.blocks) (ok:TreeOK t.names t.blocks) (ok':TreeOK u.names u.blocks) {m:Int} (hm:0≤idx t.names m):z0h u m=z0h t m:=by
 rw [zba ok hm,zba ok' (h m hm).1]
 exact (h m hm).2.symm
theorem znd {k:Book} {t u:Tree} (h:SubT t.names t.blocks u.names u.blocks) (ok:TreeOK t.names t.blocks) (ok':TreeOK u.names u.blocks):∀ (r:List Int) (l:List Coin),(∀ m ∈ r,0≤idx t.names m)→z0w k u l r=z0w k t l r
 | [],l,_=>rfl
 | n::r,l,hr=>by
  rw [z0w,z0w,znc h ok ok' (hr n (by simp))]
  split
  ·rfl
  ·exact znd h ok ok' r _ fun m hm=>hr m (List.mem_cons_of_mem _ hm)
theorem ze3 {k:Book} {t u:Tree} (hk:z14 k.texts) (h:SubT t.names t.blocks u.names u.blocks) (ok:TreeOK t.names t.blocks) (ok':TreeOK u.names u.blocks) {n:Int} (hn:n=0∨0≤idx t.names n):z8 k u n=z8 k t n:=by
 have hc:=(z0q _).2 hk
 rw [z5s hc ok' (hn.imp id fun h0=>(h n h0).1),z5s hc ok hn,← h.paths ok ok' hn]
 exact znd h ok ok' _ _ fun m hm=>z8l ok hn m hm
theorem NodeOK.later {k k':Book} {n:Node} (N:NodeOK k n) (hk':z14 k'.texts) (hp:k.texts <+: k'.texts) (hpool:z5z k' n=0):NodeOK k' n:=by
 refine ⟨hk',N.tree,N.tip,fun m hm=>?_,fun m hm=>?_,hpool⟩
 ·obtain ⟨a1,a2⟩:=N.at_ m hm
  exact ⟨a1.more hp,by rw [z2a hp a1.own.1];exact a2⟩
 ·rw [z6f N.tree N.book hk' hp (.inr hm) fun m hm=>(N.at_ m hm).1]
  exact N.coins m hm
theorem zry {k:Book} {n:Node} (hc:(z8 k n.t n.tip).2=0) (h:n.pool=[]):z5z k n=0:=by
 unfold z5z
 rw [if_neg (fun k=>k hc),h]
 exact if_pos rfl
theorem z01n {k:Book} {n:Node} {l m:List Coin} {f:Int} (hk:z14 k.texts) (hc:z8 k n.t n.tip=(l,0)) (hl:n.pool.length≤8) (R:RunC (zh n.t n.tip+1) k.texts l n.pool m f):z5z k n=0:=by
 have hs:=zde hc
 unfold z5z
 rw [hc,if_neg (fun k=>k rfl)]
 by_cases h0:(n.pool.length:Int)=0
 ·rw [if_pos h0]
 have hn:z34 k n.pool=true:=by
  refine zj0 ?_
  clear hl h0 hc hs
  generalize n.pool=p at *
  generalize zh n.t n.tip+1=hh at *
  generalize k.texts=y at *
  induction R with
  | nil m=>intro t ht;cases ht
  | cons g1 g2 g3 g4 g5 _ ih =>
   intro t ht
   rcases List.mem_cons.1 ht with rfl|ht
   ·exact ⟨g1,g4⟩
   ·exact ih t ht
 have hsw:=zk9 hk hs.1 (by omega) (by omega) hl R
 have hkk:(⟨k.texts⟩:Book)=k:=rfl
 rw [hkk] at hsw
 simp only
 rw [if_neg h0,hn,if_neg (by decide),hsw,if_neg (fun k=>k rfl),if_neg (fun k=>k rfl)]
theorem z8z {k:Book} {n m:Node} {b:Block} {x:List z1j} {nm:Int} (h:z0p k n b=(x,m,nm,0)) :
  NodeOK k n∧NodeOK ⟨x⟩ m∧k.texts <+: x∧BlkIn ⟨x⟩ b∧nm=idx x (z1a b)+1∧z0g n.t nm b=0∧m.t=⟨n.t.names++[nm],n.t.blocks++[b]⟩:=by
 unfold z0p at h
 by_cases h1:z0r k n=0
 rotate_left
 ·rw [if_pos h1] at h;exact absurd (congrArg (fun x=>x.2.2.2) h) h1
 rw [if_neg (fun k=>k h1)] at h
 have N:=zgz h1
 generalize hq:z00 k b=q at *
 obtain ⟨x1,nm',ns,e⟩:=q
 simp only at h
 by_cases he:e=0
 rotate_left
 ·rw [if_pos he] at h;exact absurd (congrArg (fun x=>x.2.2.2) h) he
 subst he
 rw [if_neg (fun k=>k rfl)] at h
 obtain ⟨g1,g2,g3,g4,g5,g6,g7,g8,g9⟩:=zu3 hq
 by_cases ha:z0g n.t nm' b=0
 rotate_left
 ·rw [if_pos ha] at h;exact absurd (congrArg (fun x=>x.2.2.2) h) ha
 rw [if_neg (fun k=>k ha)] at h
 have hT:z23 n.t nm' b=⟨n.t.names++[nm'],n.t.blocks++[b]⟩:=by unfold z23;rw [if_pos ha]
 rw [hT] at h
 have okT:=z6e ha
 have hsub:=z40 (name:=nm') (b:=b) N.tree
 have hnew:=z3h (b:=b) N.tree (z4m ha).2.2.2.1
 by_cases hc:(z8 ⟨x1⟩ ⟨n.t.names++[nm'],n.t.blocks++[b]⟩ nm').2=0
 rotate_left
 ·rw [if_pos hc] at h;exact absurd (congrArg (fun x=>x.2.2.2) h) hc
 rw [if_neg (fun k=>k hc)] at h
 have B1:BlkIn ⟨x1⟩ b:=⟨g1,⟨g5,g6⟩,g8⟩
 generalize hu:(⟨n.t.names++[nm'],n.t.blocks++[b]⟩:Tree)=u at *
 have hun:u.names=n.t.names++[nm']:=by rw [← hu]
 have hub:u.blocks=n.t.blocks++[b]:=by rw [← hu]
 rw [← hun,← hub] at okT hsub hnew
 have hcase:∀ w,0≤idx u.names w→w=nm'∨0≤idx n.t.names w:=by
  intro w hw
  have:=(z0b _ _).1 hw
  rw [hun] at this
  rcases List.mem_append.1 this with h0|h0
  ·exact .inr ((z0b _ _).2 h0)
  ·exact .inl (List.mem_singleton.1 h0)
 have hpn:z0h u nm'=b:=by rw [zba okT hnew.1];exact hnew.2
 have at1:∀ w,0≤idx u.names w→BlkIn ⟨x1⟩ (z0h u w)∧w=idx x1 (z1a (z0h u w))+1:=by
  intro w hw
  rcases hcase w hw with rfl|h0
  ·rw [hpn];exact ⟨B1,g7⟩
  ·rw [znc hsub N.tree okT h0]
   obtain ⟨a1,a2⟩:=N.at_ w h0
   exact ⟨a1.more g4,by rw [z2a g4 a1.own.1];exact a2⟩
 have co1:∀ w,0≤idx u.names w→(z8 ⟨x1⟩ u w).2=0:=by
  intro w hw
  rcases hcase w hw with rfl|h0
  ·exact hc
  ·rw [ze3 (k:=⟨x1⟩) g3 hsub N.tree okT (.inr h0),z6f (k':=⟨x1⟩) N.tree N.book g3 g4 (.inr h0) fun m hm=>(N.at_ m hm).1]
   exact N.coins w h0
 have hnd:=zpk h1
 have hbest:(z0v u).1=0∨0≤idx u.names (z0v u).1:=by
  unfold z0v
  rw [if_neg (fun k=>k ((z02 _ _).2 okT))]
  exact z061 u.blocks
 have hct:(z8 ⟨x1⟩ u (z0v u).1).2=0:=by
  rcases hbest with h0|h0
  ·rw [h0,z5s ((z0q _).2 g3) okT (.inl rfl),z1g];rfl
  ·exact co1 _ h0
 have hcp:z8 ⟨x1⟩ u (z0v u).1=((z8 ⟨x1⟩ u (z0v u).1).1,0):=by rw [← hct]
 have hsup:=zde hcp
 unfold zjl at h
 by_cases hp0:(n.pool.length:Int) > 0
 ·rw [if_pos hp0,if_pos (by omega)] at h
  generalize hsw:zt ⟨x1⟩ (z8 ⟨x1⟩ u (z0v u).1).1 n.pool (zh u (z0v u).1+1)=sw at *
  obtain ⟨wx,wst,wm,wf,we⟩:=sw
  simp only [Prod.mk.injEq,and_true] at h
  obtain ⟨rfl,rfl,rfl⟩:=h
  have hwe:we=0:=by
   have hz:=hsw
   unfold zt at hz
   rw [if_neg (fun k=>k ((z0q _).2 g3)),if_neg (fun k=>k ((z0l _).2 hsup.1)),if_neg (by omega),if_neg (by omega),if_neg (by omega)] at hz
   have key:∀ (r:List Tx) (hh:Int) (a:Sw),(z2f hh a r).2.2.2.2=0:=by
    intro r
    induction r with
    | nil=>intro hh a;rfl
    | cons t r ih =>
     intro hh a
     rw [z2f]
     split
     ·exact ih _ _
     ·exact ih _ _
   have:=key n.pool (zh u (z0v u).1+1) ⟨x1,[],(z8 ⟨x1⟩ u (z0v u).1).1,0⟩
   rw [show z2f (zh u (z0v u).1+1) ⟨x1,[],(z8 ⟨x1⟩ u (z0v u).1).1,0⟩ n.pool=(wx,wst,wm,wf,we) from hz] at this
   exact this
  subst hwe
  obtain ⟨q1,q2,q3,q4,q5,R⟩:=z89 hsw
  have hpre:x1 <+: wx:=by
   have hz:=hsw
   unfold zt at hz
   rw [if_neg (fun k=>k ((z0q _).2 g3)),if_neg (fun k=>k ((z0l _).2 hsup.1)),if_neg (by omega),if_neg (by omega),if_neg (by omega)] at hz
   exact (zb9 (w0:=(z8 ⟨x1⟩ u (z0v u).1).1) n.pool ⟨x1,[],(z8 ⟨x1⟩ u (z0v u).1).1,0⟩ g3 (.nil _) hz).2.1
  have hcw:z8 ⟨wx⟩ u (z0v u).1=((z8 ⟨x1⟩ u (z0v u).1).1,0):=by
   rw [z6f (k:=⟨x1⟩) (k':=⟨wx⟩) okT g3 q1 hpre hbest fun m hm=>(at1 m hm).1]
   exact hcp
  refine ⟨N,⟨q1,okT,rfl,fun w hw=>?_,fun w hw=>?_,?_⟩,g4.trans hpre,B1.more hpre,by rw [z2a hpre g5];exact g7,ha,hu.symm⟩
  ·obtain ⟨a1,a2⟩:=at1 w hw
   exact ⟨a1.more (k':=⟨wx⟩) hpre,by rw [z2a hpre a1.own.1];exact a2⟩
  ·rw [z6f (k:=⟨x1⟩) (k':=⟨wx⟩) okT g3 q1 hpre (.inr hw) fun m hm=>(at1 m hm).1]
   exact co1 w hw
  ·exact z01n (k:=⟨wx⟩) (n:=⟨u,wst,(z0v u).1⟩) q1 hcw q5 R
 ·rw [if_neg hp0] at h
  simp only [Prod.mk.injEq,and_true] at h
  obtain ⟨rfl,rfl,rfl⟩:=h
  have hnil:n.pool=[]:=List.eq_nil_of_length_eq_zero (by omega)
  exact ⟨N,⟨g3,okT,rfl,at1,co1,zry (n:=⟨u,n.pool,(z0v u).1⟩) hct hnil⟩,g4,B1,g7,ha,hu.symm⟩
end
section
open Go.RowKit
set_option maxRecDepth 100000
theorem z0cg {k:Book} {l:List Coin} {p:List Tx} {h:Int} {x:List z1j} {s:List Tx} {m:List Coin} {f:Int} (h0:zt k l p h=(x,s,m,f,0)):k.texts <+: x:=by
 obtain ⟨q1,q2,q3,q4,q5,-⟩:=z89 h0
 unfold zt at h0
 by_cases h1:zf k=0
 rotate_left
 ·rw [if_pos h1] at h0;exact absurd (congrArg (fun x=>x.2.2.2.2) h0) h1
 rw [if_neg (fun k=>k h1),if_neg (fun k=>k ((z0l l).2 q2)),if_neg (by omega),if_neg (by omega)] at h0
 by_cases h5:(p.length:Int) > 8
 ·rw [if_pos h5] at h0;exact absurd (congrArg (fun x=>x.2.2.2.2) h0) (by show ¬ (2:Int)=0;decide)
 rw [if_neg h5] at h0
 exact (zb9 (w0:=l) p ⟨k.texts,[],l,0⟩ ((z0q _).1 h1) (.nil _) h0).2.1
theorem z096 {k:Book} {l:List Coin} {p:List Tx} {t:Tx} {h:Int} {x:List z1j} {more:List Tx} (h0:z1t k l p t h=(x,more,0)):k.texts <+: x:=by
 unfold z1t at h0
 generalize hq:zt k l p h=q at *
 obtain ⟨x0,stay,m,f,e⟩:=q
 simp only at h0
 by_cases he:e=0
 rotate_left
 ·rw [if_pos he] at h0;exact absurd (congrArg (fun x=>x.2.2) h0) he
 subst he
 rw [if_neg (fun k=>k rfl)] at h0
 by_cases hm:t ∈ stay
 ·rw [if_pos hm] at h0;exact absurd (congrArg (fun x=>x.2.2) h0) (by show ¬ (6:Int)=0;decide)
 rw [if_neg hm] at h0
 unfold zb8 at h0
 by_cases hp:(z0s x0 m t h).2.2.2=0
 rotate_left
 ·rw [if_pos hp] at h0;exact absurd (congrArg (fun x=>x.2.2) h0) hp
 rw [if_neg (fun k=>k hp)] at h0
 by_cases h8:(stay.length:Int)=8
 ·rw [if_pos h8] at h0;exact absurd (congrArg (fun x=>x.2.2) h0) (by show ¬ (12:Int)=0;decide)
 rw [if_neg h8] at h0
 have hx:(z0s x0 m t h).1=x:=congrArg (fun x=>x.1) h0
 have hpp:z0s x0 m t h=(x,(z0s x0 m t h).2.1,(z0s x0 m t h).2.2.1,0):=by rw [← hp,← hx]
 exact (z0cg hq).trans (zpj (z89 hq).1 hpp).2.1
theorem z0f8 {k:Book} {n m:Node} {t:Tx} {x:List z1j} (h:z0u k n t=(x,m,0)):NodeOK k n∧NodeOK ⟨x⟩ m∧k.texts <+: x∧0<m.pool.length∧(z0u ⟨x⟩ m t).2.2=6:=by
 unfold z0u at h
 by_cases h1:z0r k n=0
 rotate_left
 ·rw [if_pos h1] at h;exact absurd (congrArg (fun x=>x.2.2) h) h1
 rw [if_neg (fun k=>k h1)] at h
 have N:=zgz h1
 generalize hc:z8 k n.t n.tip=c at *
 obtain ⟨l,e⟩:=c
 simp only at h
 by_cases he:e=0
 rotate_left
 ·rw [if_pos he] at h;exact absurd (congrArg (fun x=>x.2.2) h) he
 subst he
 rw [if_neg (fun k=>k rfl)] at h
 generalize ha:z1t k l n.pool t (zh n.t n.tip+1)=a at *
 obtain ⟨x',more,e⟩:=a
 simp only at h
 by_cases he:e=0
 rotate_left
 ·rw [if_pos he] at h;exact absurd (congrArg (fun x=>x.2.2) h) he
 subst he
 rw [if_neg (fun k=>k rfl)] at h
 simp only [Prod.mk.injEq,and_true] at h
 obtain ⟨rfl,rfl⟩:=h
 obtain ⟨x0,stay,m0,m1,f,f1,b1,b2,b3,b4,b5⟩:=z08e ha
 have hpre:=z096 ha
 obtain ⟨q1,q2,q3,q4,q5,R⟩:=z89 b4
 have htip:n.tip=0∨0≤idx n.t.names n.tip:=(zgt hc).2.2.1
 have hcx:z8 ⟨x'⟩ n.t n.tip=(l,0):=by
  rw [z6f (k':=⟨x'⟩) N.tree N.book q1 hpre htip fun m hm=>(N.at_ m hm).1]
  exact hc
 have hp:z5z ⟨x'⟩ ⟨n.t,more,n.tip⟩=0:=z01n (k:=⟨x'⟩) (n:=⟨n.t,more,n.tip⟩) q1 hcx b3 R
 have M:NodeOK ⟨x'⟩ ⟨n.t,more,n.tip⟩:=by
  refine ⟨q1,N.tree,N.tip,fun w hw=>?_,fun w hw=>?_,hp⟩
  ·obtain ⟨a1,a2⟩:=N.at_ w hw
   exact ⟨a1.more (k':=⟨x'⟩) hpre,by rw [z2a hpre a1.own.1];exact a2⟩
  ·rw [z6f (k':=⟨x'⟩) N.tree N.book q1 hpre (.inr hw) fun m hm=>(N.at_ m hm).1]
   exact N.coins w hw
 refine ⟨N,M,hpre,by rw [b2];simp,?_⟩
 unfold z0u
 rw [z41 M,if_neg (fun k=>k rfl)]
 simp only
 rw [hcx,if_neg (fun k=>k rfl)]
 simp only
 rw [b5,if_pos (by decide)]
end
section
open Go.RowKit
set_option maxRecDepth 100000
theorem z0ch {t:Tree} {nm:Int} {b:Block} (h:z0g t nm b=0):z0g ⟨t.names++[nm],t.blocks++[b]⟩ nm b=6:=by
 obtain ⟨h1,h2,h3,h4,h5,h6⟩:=z4m h
 have okT:=z6e h
 have hin:0≤idx (t.names++[nm]) nm:=(z0b _ _).2 (by simp)
 unfold z0g
 rw [if_neg (fun k=>k ((z02 _ _).2 okT))]
 simp only
 rw [if_neg (by unfold z5y;rw [decide_eq_true_iff];omega),if_neg (fun k=>k h3),if_pos (by first|exact hin|(unfold z2c;exact decide_eq_true ((z0b _ _).1 hin))|omega)]
theorem z097 {k:Book} {n m:Node} {b:Block} {x:List z1j} {nm:Int} (h:z0p k n b=(x,m,nm,0)):(z0p ⟨x⟩ m b).2.2.2=6:=by
 obtain ⟨N,M,hp,B,e1,e2,e3⟩:=z8z h
 have hn:=B.names M.book
 have h6:z0g m.t nm b=6:=by rw [e3];exact z0ch e2
 unfold z0p
 rw [z41 M,if_neg (fun k=>k rfl),hn]
 simp only
 rw [if_neg (fun k=>k rfl),← e1,h6,if_pos (by decide)]
end
section
open Go.RowKit
set_option maxRecDepth 100000
theorem zaf {t:Tree} (ok:TreeOK t.names t.blocks):z0v t=((z4d t.names t.blocks).1,0):=by
 unfold z0v
 rw [if_neg (fun k=>k ((z02 _ _).2 ok)),z0f3]
theorem z0f9 {t:Tree} {nm:Int} {b:Block} (h:z0g t nm b=0) (hp:b.parent=(z0v t).1):(z0v ⟨t.names++[nm],t.blocks++[b]⟩).1=nm:=by
 obtain ⟨h1,h2,h3,h4,h5,h6⟩:=z4m h
 have ok:=(z02 t.names t.blocks).1 h1
 have ok':=z6e h
 have hsub:=z40 (name:=nm) (b:=b) ok
 obtain ⟨hn,hbl⟩:=z3h (b:=b) ok h4
 have hpar:b.parent=0∨0≤idx t.names b.parent:=by
  rcases zc2 h5 with ⟨e,_⟩|⟨_,j,_,e,_⟩
  ·exact .inl e
  ·exact .inr (by omega)
 have hpo:z0e (t.names++[nm]) (t.blocks++[b]) nm=b.parent:=by
  have:=hbl;unfold z54 at this;unfold z0e;rw [this]
 have hpath:z0n (t.names++[nm]) (t.blocks++[b]) nm=z0n t.names t.blocks b.parent++[nm]:=by
  rw [(z2b ok' hn).1,hpo,← hsub.paths ok ok' hpar]
 have hpw:pw (t.names++[nm]) (t.blocks++[b]) nm=pw t.names t.blocks b.parent+b.work:=by
  unfold pw
  rw [hpath,zid,← hsub.work _ (z8l ok hpar)]
  have:=hbl;unfold z54 at this
  simp only [z1p];rw [this];omega
 rw [zaf ok] at hp
 rw [zaf (t:=⟨t.names++[nm],t.blocks++[b]⟩) ok']
 simp only at hp ⊢
 obtain ⟨a1,a2,a3,a4⟩:=z7l t.names t.blocks
 obtain ⟨b1,b2,b3,b4⟩:=z7l (t.names++[nm]) (t.blocks++[b])
 have hw:=zae h3
 have c1:=(b4 nm (by simp)).1
 rw [hpw,hp,← a1] at c1
 rcases b3 with b3|b3
 ·rw [b3,zcl] at b1
  omega
 ·rcases List.mem_append.1 b3 with b3|b3
  ·have hi:=(z0b _ _).2 b3
   have:=(a4 _ b3).1
   rw [hsub.pw ok ok' (.inr hi)] at this
   omega
  ·exact List.mem_singleton.1 b3
theorem z0fa {k:Book} {n m:Node} {w nonce:Int} {o:List Op} {x:List z1j} {b:Block} (h:z0k k n w nonce o=(x,m,b,0)) :
  ∃ nm,z0p k n b=(x,m,nm,0)∧b.parent=n.tip∧z1e m.t m.tip=0∧z0h m.t m.tip=b:=by
 unfold z0k at h
 by_cases h1:z0r k n=0
 rotate_left
 ·rw [if_pos h1] at h;exact absurd (congrArg (fun x=>x.2.2.2) h) h1
 rw [if_neg (fun k=>k h1)] at h
 by_cases h2:(z8 k n.t n.tip).2=0
 rotate_left
 ·rw [if_pos h2] at h;exact absurd (congrArg (fun x=>x.2.2.2) h) h2
 rw [if_neg (fun k=>k h2)] at h
 generalize hmk:z33 k (z8 k n.t n.tip).1 n.pool n.tip (zh n.t n.tip) w nonce o=mk at *
 obtain ⟨b',e⟩:=mk
 simp only at h
 by_cases he:e=0
 rotate_left
 ·rw [if_pos he] at h;exact absurd (congrArg (fun x=>x.2.2.2) h) he
 subst he
 rw [if_neg (fun k=>k rfl)] at h
 generalize htk:z0p k n b'=tk at *
 obtain ⟨x',m',nm,e⟩:=tk
 simp only at h
 by_cases he:e=0
 rotate_left
 ·rw [if_pos he] at h;exact absurd (congrArg (fun x=>x.2.2.2) h) he
 subst he
 rw [if_neg (fun k=>k rfl)] at h
 simp only [Prod.mk.injEq,and_true] at h
 obtain ⟨rfl,rfl,rfl⟩:=h
 have hpar:b'.parent=n.tip:=by
  unfold z33 at hmk
  split at hmk
  ·rename_i hx;exact absurd (congrArg (fun x=>x.2) hmk) hx
  split at hmk
  ·rename_i hx;exact absurd (congrArg (fun x=>x.2) hmk) hx
  unfold zp7 at hmk
  split at hmk
  ·rename_i hx;exact absurd (congrArg (fun x=>x.2) hmk) hx
  split at hmk
  ·exact absurd (congrArg (fun x=>x.2) hmk) (by show ¬ (9:Int)=0;decide)
  split at hmk
  ·rename_i hx;exact absurd (congrArg (fun x=>x.2) hmk) hx
  ·exact (congrArg (fun x=>x.1.parent) hmk).symm
 obtain ⟨N,M,hp,B,e1,e2,e3⟩:=z8z htk
 have htip:m'.tip=nm:=by
  rw [← M.tip,e3]
  exact z0f9 e2 (by rw [hpar,N.tip])
 have hnew:=z3h (b:=b') N.tree (z4m e2).2.2.2.1
 have okM:=M.tree
 have hi:0≤idx m'.t.names nm:=by rw [e3];exact hnew.1
 refine ⟨nm,htk,hpar,?_,?_⟩
 ·rw [htip];exact (z38 okM hi).2.1
 ·rw [htip,zba okM hi,e3];exact hnew.2
end
section
open Go.RowKit
open Go.Lib (itoa)
set_option maxRecDepth 100000
set_option maxHeartbeats 4000000
attribute [local irreducible] z0o spD z8 zh z0r z0p z1t z0k z0h z1e
attribute [local irreducible] den denX z1c z1n
noncomputable def zcb:z6:=spD (fun _:Book × Node × Tx=>True) fun x=>z0u x.1 x.2.1 x.2.2
theorem zh8 (k:Book) (n:Node) (t:Tx):zcb [.l 1 (k.texts.map z06),.l 1 (n.t.names.map zg),.l 5 (n.t.blocks.map zi),.l 3 (n.pool.map eTx),I n.tip,I t.height,.l 3 (t.ins.map eIn),.l 2 (t.outs.map z1x)]=some [.l 1 ((z0u k n t).1.map z06),.l 1 ((z0u k n t).2.1.t.names.map zg),.l 5 ((z0u k n t).2.1.t.blocks.map zi),.l 3 ((z0u k n t).2.1.pool.map eTx),I (z0u k n t).2.1.tip,I (z0u k n t).2.2]:=zb (f:=fun x:Book × Node × Tx=>z0u x.1 x.2.1 x.2.2) (k,n,t) trivial
def z04x:T :=
 .lets [.call 118 [.v 1,.v 2,.v 3,.v 4] 0,.call 118 [.v 1,.v 2,.v 3,.v 4] 1,.call 118 [.v 1,.v 2,.v 3,.v 4] 2,.call 118 [.v 1,.v 2,.v 3,.v 4] 3] [] (.ret [.v 15,.v
 19,.v 20,.v 16,.v 22,.c (.i .i64 0)])
def z04y:T :=
 .lets [.call 99 [.v 0,.v 10,.v 3,.v 5,.v 6,.v 7,.v 14] 0,.call 99 [.v 0,.v 10,.v 3,.v 5,.v 6,.v 7,.v 14] 1,.call 99 [.v 0,.v 10,.v 3,.v 5,.v 6,.v 7,.v 14] 2] []
 (.lets [.bin .neq (.v 17) (.c (.i .i64 0))] [] (.ite (.v 18) (.ret [.c (.nil 1),.c (.nil 1),.c (.nil 5),.c (.nil 3),.c (.i .i64 0),.v 17]) z04x))
def z04z:T :=
 .ite (.v 12) (.ret [.c (.nil 1),.c (.nil 1),.c (.nil 5),.c (.nil 3),.c (.i .i64 0),.v 11]) (.lets [.call 115 [.v 1,.v 2,.v 4] 0] [] (.lets [.bin .add (.v 13) (.c (.i .i64
 1))] [] z04y))
def z050:T :=
 .ite (.v 9) (.ret [.c (.nil 1),.c (.nil 1),.c (.nil 5),.c (.nil 3),.c (.i .i64 0),.v 8]) (.lets [.call 96 [.v 0,.v 1,.v 2,.v 4] 0,.call 96 [.v 0,.v 1,.v 2,.v 4] 1] []
 (.lets [.bin .neq (.v 11) (.c (.i .i64 0))] [] z04z))
def zj1:T :=
 .lets [.call 117 [.v 0,.v 1,.v 2,.v 3,.v 4] 0] [] (.lets [.bin .neq (.v 8) (.c (.i .i64 0))] [] z050)
attribute [local irreducible] z1q z1b z7j z2k z6m
theorem z0ci:Meets Tryz.prog zcb 27 ⟨[.agg 1,.agg 4,.agg 3],[(true,[.pure]),(true,[.pure,.pure,.pure,.scal]),(false,[.scal])],false⟩:=by
 refine z9 (sp:=(z05 [(96,z1q),(99,z6m),(115,z2k),(117,z1b),(118,z7j)])) (sigs:=z08) (cut:=[]) (hints:=[]) (fn:=Tryz.f27) (t:=zj1) (by kernel_rfl) (by kernel_rfl) (by kernel_rfl) ?_ ?_
 ·exact (zq (L:=[(96,z1q),(99,z6m),(115,z2k),(117,z1b),(118,z7j)]) ⟨z5 rfl zb7,z5 rfl z011,z5 rfl zc8,z5 rfl z7i,z5 rfl z01g,trivial⟩)
 ·rintro ds rs hok h
  obtain ⟨⟨k,n,t⟩,-,rfl,rfl⟩:=zd h
  clear h
  refine ⟨⟨1,?_⟩,z1d ⟨rfl,rfl,trivial⟩⟩
  show den _ _ zj1 [.l 1 (k.texts.map z06),.l 1 (n.t.names.map zg),.l 5 (n.t.blocks.map zi),.l 3 (n.pool.map eTx),I n.tip,I t.height,.l 3 (t.ins.map eIn),.l 2 (t.outs.map z1x)] []=ret (z0u k n t)
  have a1:=z3l k n
  have a2:=z5a k n.t n.tip
  have a3:=z80 n.t n.tip
  have hh:=zn9 n.t n.tip
  have a5:=fun h=>zix n (zpk (k:=k) h)
  unfold zj1 z0u
  generalize z0r k n=e1 at *
  generalize z8 k n.t n.tip=c at *
  obtain ⟨l,e2⟩:=c
  simp only at *
  have a4:=zl6 k.texts l n.pool t (zh n.t n.tip+1)
  have hkk:(⟨k.texts⟩:Book)=k:=rfl
  rw [hkk] at a4
  generalize z1t k l n.pool t (zh n.t n.tip+1)=q at *
  obtain ⟨x,more,e3⟩:=q
  generalize zh n.t n.tip=hgt at *
  simp only at *
  by_cases h1:e1=0
  ·have a5:=a5 h1
   repeat' (first|refine dq1 ?_|refine dqk rfl (a1) ?_|refine dqK rfl (a2) ?_|refine dqk rfl (a3) ?_|refine dqK rfl (a4) ?_|refine dqK rfl (a5) ?_|exact z4 rfl rfl|refine tR (fun h=>?_) fun h=>?_|fail)
   all_goals omega
  ·clear a5
   repeat' (first|refine dq1 ?_|refine dqk rfl (a1) ?_|exact z4 rfl rfl|refine tR (fun h=>?_) fun h=>?_|fail)
   all_goals omega
noncomputable def zu7:z6:=spD (fun x:Book × Node × Tx × Int × List Op=>x.2.2.2.2.length≤8796093022208) fun _=>true
def zpl:T :=
 .lets [.bin .eql (.v 33) (.v 4)] [] (.ite (.v 58) (.lets [.call 117 [.v 28,.v 29,.v 30,.v 31,.v 32] 0] [] (.lets [.bin .eql (.v 59) (.c (.i .i64 0))] [] (.ret [.v 60]))) (.ret
 [.c (.b false)]))
def zpm:T :=
 .ite (.v 56) (.lets [.call 77 [.v 33,.v 34,.v 35,.v 36,.v 37,.v 49,.v 50,.v 51,.v 52,.v 53] 0] [] (.ite (.v 57) zpl (.ret [.c (.b false)]))) (.ret [.c (.b
 false)])
def zpn:T :=
 .lets [.call 89 [.v 29,.v 30,.v 32] 0,.call 89 [.v 29,.v 30,.v 32] 1,.call 89 [.v 29,.v 30,.v 32] 2,.call 89 [.v 29,.v 30,.v 32] 3,.call 89 [.v 29,.v 30,.v 32] 4,
 .call 89 [.v 29,.v 30,.v 32] 5] [] (.lets [.bin .eql (.v 48) (.c (.i .i64 6))] [] (.ite (.v 55) (.lets [.bin .eql (.v 54) (.c (.i .i64 0))] [] zpm) (.ret [.c (.b
 false)])))
def zpo:T :=
 .lets [.call 119 [.v 28,.v 29,.v 30,.v 31,.v 32,.v 33,.v 34,.v 35,.v 36,.v 37] 0,.call 119 [.v 28,.v 29,.v 30,.v 31,.v 32,.v 33,.v 34,.v 35,.v 36,.v 37] 1,.call
 119 [.v 28,.v 29,.v 30,.v 31,.v 32,.v 33,.v 34,.v 35,.v 36,.v 37] 2,.call 119 [.v 28,.v 29,.v 30,.v 31,.v 32,.v 33,.v 34,.v 35,.v 36,.v 37] 3,.call 119 [.v 28,
 .v 29,.v 30,.v 31,.v 32,.v 33,.v 34,.v 35,.v 36,.v 37] 4,.call 119 [.v 28,.v 29,.v 30,.v 31,.v 32,.v 33,.v 34,.v 35,.v 36,.v 37] 5,.call 119 [.v 28,.v 29,.v 30,
 .v 31,.v 32,.v 33,.v 34,.v 35,.v 36,.v 37] 6] [] zpn
def zpp:T :=
 .ite (.v 40) (.lets [.call 126 [] 0] [] (.ret [.v 41])) (.lets [.bin .neq (.v 38) (.c (.i .i64 0))] [] (.ite (.v 41) (.lets [.call 126 [] 0] [] (.ret [.v 42])) zpo))
def zpq:T :=
 .lets [.call 121 [.v 0,.v 1,.v 2,.v 3,.v 4,.v 8,.c (.i .i64 0),.v 9] 0,.call 121 [.v 0,.v 1,.v 2,.v 3,.v 4,.v 8,.c (.i .i64 0),.v 9] 1,.call 121 [.v 0,.v 1,.v 2,
 .v 3,.v 4,.v 8,.c (.i .i64 0),.v 9] 2,.call 121 [.v 0,.v 1,.v 2,.v 3,.v 4,.v 8,.c (.i .i64 0),.v 9] 3,.call 121 [.v 0,.v 1,.v 2,.v 3,.v 4,.v 8,.c (.i .i64 0),.v
 9] 4,.call 121 [.v 0,.v 1,.v 2,.v 3,.v 4,.v 8,.c (.i .i64 0),.v 9] 5,.call 121 [.v 0,.v 1,.v 2,.v 3,.v 4,.v 8,.c (.i .i64 0),.v 9] 6,.call 121 [.v 0,.v 1,.v 2,.v
 3,.v 4,.v 8,.c (.i .i64 0),.v 9] 7,.call 121 [.v 0,.v 1,.v 2,.v 3,.v 4,.v 8,.c (.i .i64 0),.v 9] 8,.call 121 [.v 0,.v 1,.v 2,.v 3,.v 4,.v 8,.c (.i .i64 0),.v 9]
 9,.call 121 [.v 0,.v 1,.v 2,.v 3,.v 4,.v 8,.c (.i .i64 0),.v 9] 10] [] (.lets [.call 126 [] 0] [] (.lets [.not (.v 39)] [] zpp))
def zpr:T :=
 .ite (.v 25) (.ret [.c (.b false)]) (.lets [.len (.v 13)] [] (.lets [.bin .eql (.v 26) (.c (.i .i64 0))] [] (.ite (.v 27) (.ret [.c (.b false)]) zpq)))
def zps:T :=
 .lets [.bin .neq (.v 22) (.c (.i .i64 6))] [] (.ite (.v 23) (.ret [.c (.b false)]) (.lets [.call 117 [.v 10,.v 11,.v 12,.v 13,.v 14] 0] [] (.lets [.bin .neq (.v 24) (.c (.i .i64
 0))] [] zpr)))
def zpt:T :=
 .lets [.call 120 [.v 10,.v 11,.v 12,.v 13,.v 14,.v 5,.v 6,.v 7] 0,.call 120 [.v 10,.v 11,.v 12,.v 13,.v 14,.v 5,.v 6,.v 7] 1,.call 120 [.v 10,.v 11,.v 12,.v 13,
 .v 14,.v 5,.v 6,.v 7] 2,.call 120 [.v 10,.v 11,.v 12,.v 13,.v 14,.v 5,.v 6,.v 7] 3,.call 120 [.v 10,.v 11,.v 12,.v 13,.v 14,.v 5,.v 6,.v 7] 4,.call 120 [.v 10,
 .v 11,.v 12,.v 13,.v 14,.v 5,.v 6,.v 7] 5] [] zps
def zpu:T :=
 .lets [.bin .eql (.v 22) (.v 4)] [] (.ite (.v 47) (.lets [.call 117 [.v 17,.v 18,.v 19,.v 20,.v 21] 0] [] (.lets [.bin .eql (.v 48) (.c (.i .i64 0))] [] (.ret [.v 49]))) (.ret
 [.c (.b false)]))
def zne:T :=
 .ite (.v 45) (.lets [.call 77 [.v 22,.v 23,.v 24,.v 25,.v 26,.v 38,.v 39,.v 40,.v 41,.v 42] 0] [] (.ite (.v 46) zpu (.ret [.c (.b false)]))) (.ret [.c (.b
 false)])
def znf:T :=
 .lets [.call 89 [.v 18,.v 19,.v 21] 0,.call 89 [.v 18,.v 19,.v 21] 1,.call 89 [.v 18,.v 19,.v 21] 2,.call 89 [.v 18,.v 19,.v 21] 3,.call 89 [.v 18,.v 19,.v 21] 4,
 .call 89 [.v 18,.v 19,.v 21] 5] [] (.lets [.bin .eql (.v 37) (.c (.i .i64 6))] [] (.ite (.v 44) (.lets [.bin .eql (.v 43) (.c (.i .i64 0))] [] zne) (.ret [.c (.b
 false)])))
def zng:T :=
 .lets [.call 119 [.v 17,.v 18,.v 19,.v 20,.v 21,.v 22,.v 23,.v 24,.v 25,.v 26] 0,.call 119 [.v 17,.v 18,.v 19,.v 20,.v 21,.v 22,.v 23,.v 24,.v 25,.v 26] 1,.call
 119 [.v 17,.v 18,.v 19,.v 20,.v 21,.v 22,.v 23,.v 24,.v 25,.v 26] 2,.call 119 [.v 17,.v 18,.v 19,.v 20,.v 21,.v 22,.v 23,.v 24,.v 25,.v 26] 3,.call 119 [.v 17,
 .v 18,.v 19,.v 20,.v 21,.v 22,.v 23,.v 24,.v 25,.v 26] 4,.call 119 [.v 17,.v 18,.v 19,.v 20,.v 21,.v 22,.v 23,.v 24,.v 25,.v 26] 5,.call 119 [.v 17,.v 18,.v 19,
 .v 20,.v 21,.v 22,.v 23,.v 24,.v 25,.v 26] 6] [] znf
def znh:T :=
 .ite (.v 29) (.lets [.call 126 [] 0] [] (.ret [.v 30])) (.lets [.bin .neq (.v 27) (.c (.i .i64 0))] [] (.ite (.v 30) (.lets [.call 126 [] 0] [] (.ret [.v 31])) zng))
def zni:T :=
 .lets [.call 121 [.v 0,.v 1,.v 2,.v 3,.v 4,.v 8,.c (.i .i64 0),.v 9] 0,.call 121 [.v 0,.v 1,.v 2,.v 3,.v 4,.v 8,.c (.i .i64 0),.v 9] 1,.call 121 [.v 0,.v 1,.v 2,
 .v 3,.v 4,.v 8,.c (.i .i64 0),.v 9] 2,.call 121 [.v 0,.v 1,.v 2,.v 3,.v 4,.v 8,.c (.i .i64 0),.v 9] 3,.call 121 [.v 0,.v 1,.v 2,.v 3,.v 4,.v 8,.c (.i .i64 0),.v
 9] 4,.call 121 [.v 0,.v 1,.v 2,.v 3,.v 4,.v 8,.c (.i .i64 0),.v 9] 5,.call 121 [.v 0,.v 1,.v 2,.v 3,.v 4,.v 8,.c (.i .i64 0),.v 9] 6,.call 121 [.v 0,.v 1,.v 2,.v
 3,.v 4,.v 8,.c (.i .i64 0),.v 9] 7,.call 121 [.v 0,.v 1,.v 2,.v 3,.v 4,.v 8,.c (.i .i64 0),.v 9] 8,.call 121 [.v 0,.v 1,.v 2,.v 3,.v 4,.v 8,.c (.i .i64 0),.v 9]
 9,.call 121 [.v 0,.v 1,.v 2,.v 3,.v 4,.v 8,.c (.i .i64 0),.v 9] 10] [] (.lets [.call 126 [] 0] [] (.lets [.not (.v 28)] [] znh))
def zdk:T :=
 .lets [.call 120 [.v 0,.v 1,.v 2,.v 3,.v 4,.v 5,.v 6,.v 7] 0,.call 120 [.v 0,.v 1,.v 2,.v 3,.v 4,.v 5,.v 6,.v 7] 1,.call 120 [.v 0,.v 1,.v 2,.v 3,.v 4,.v 5,.v
 6,.v 7] 2,.call 120 [.v 0,.v 1,.v 2,.v 3,.v 4,.v 5,.v 6,.v 7] 3,.call 120 [.v 0,.v 1,.v 2,.v 3,.v 4,.v 5,.v 6,.v 7] 4,.call 120 [.v 0,.v 1,.v 2,.v 3,.v 4,.v
 5,.v 6,.v 7] 5] [] (.lets [.bin .eql (.v 15) (.c (.i .i64 0))] [] (.ite (.v 16) zpt zni))
attribute [local irreducible] z5j z48 z7k z2t z1m
theorem z01o:Meets Tryz.prog zu7 5 ⟨[.agg 1,.agg 4,.agg 3,.one,.one],[(false,[.scal])],true⟩:=by
 refine z9 (sp:=(z05 [(77,z5j),(89,z1m),(117,z1b),(119,z2t),(120,zcb),(121,z7k),(126,z48)])) (sigs:=z08) (cut:=[]) (hints:=[]) (fn:=Tryz.f5) (t:=zdk) (by kernel_rfl) (by kernel_rfl) (by kernel_rfl) ?_ ?_
 ·exact (zq (L:=[(77,z5j),(89,z1m),(117,z1b),(119,z2t),(120,zcb),(121,z7k),(126,z48)]) ⟨z5 rfl zrr,z5 rfl zas,z5 rfl z7i,z5 rfl zgy,z5 rfl z0ci,z5 rfl z01j,z5 rfl zlb,trivial⟩)
 ·rintro ds rs - h
  obtain ⟨⟨k,n,t,w,o⟩,ho,rfl,rfl⟩:=zd h
  clear h
  simp only at ho
  refine ⟨⟨1,?_⟩,z0a rfl⟩
  show den _ _ zdk [.l 1 (k.texts.map z06),.l 1 (n.t.names.map zg),.l 5 (n.t.blocks.map zi),.l 3 (n.pool.map eTx),I n.tip,I t.height,.l 3 (t.ins.map eIn),.l 2 (t.outs.map z1x),I w,.l 2 (o.map eOp)] []=ret true
  have a1:=zh8 k n t
  have a2:=zdh k n w 0 o ho
  have a3:=zdi
  have offer:(z0u k n t).2.2=0→z1b [.l 1 ((z0u k n t).1.map z06),.l 1 ((z0u k n t).2.1.t.names.map zg),.l 5 ((z0u k n t).2.1.t.blocks.map zi),.l 3 ((z0u k n t).2.1.pool.map eTx),I (z0u k n t).2.1.tip]=some [I 0]∧0<(z0u k n t).2.1.pool.length∧(z0u ⟨(z0u k n t).1⟩ (z0u k n t).2.1 t).2.2=6:=by
   intro h0
   have hq:z0u k n t=((z0u k n t).1,(z0u k n t).2.1,0):=by rw [← h0]
   obtain ⟨N,M,hp,hl,h6⟩:=z0f8 hq
   have:=z3l ⟨(z0u k n t).1⟩ (z0u k n t).2.1
   rw [z41 M] at this
   exact ⟨this,hl,h6⟩
  have a4:=zh8 ⟨(z0u k n t).1⟩ (z0u k n t).2.1 t
  have made:(z0k k n w 0 o).2.2.2=0→(z0p ⟨(z0k k n w 0 o).1⟩ (z0k k n w 0 o).2.1 (z0k k n w 0 o).2.2.1).2.2.2=6∧(z0k k n w 0 o).2.2.1.parent=n.tip∧z1e (z0k k n w 0 o).2.1.t (z0k k n w 0 o).2.1.tip=0∧z0h (z0k k n w 0 o).2.1.t (z0k k n w 0 o).2.1.tip=(z0k k n w 0 o).2.2.1∧z0r ⟨(z0k k n w 0 o).1⟩ (z0k k n w 0 o).2.1=0:=by
   intro h0
   have aux:∀ z:List z1j × Node × Block × Int,z.2.2.2=0→z=(z.1,z.2.1,z.2.2.1,0):=fun ⟨_,_,_,_⟩ h=>by simp only at h;subst h;rfl
   have hq:=aux _ h0
   obtain ⟨nm,h1,h2,h3,h4⟩:=z0fa hq
   exact ⟨z097 h1,h2,h3,h4,z41 (z8z h1).2.1⟩
  have a5:=z53 ⟨(z0k k n w 0 o).1⟩ (z0k k n w 0 o).2.1 (z0k k n w 0 o).2.2.1
  have a6:=z70 (z0k k n w 0 o).2.1.t (z0k k n w 0 o).2.1.tip
  have a7:=zh4 (z0k k n w 0 o).2.2.1 (z0k k n w 0 o).2.2.1
  rw [decide_eq_true rfl] at a7
  have a8:=z3l ⟨(z0k k n w 0 o).1⟩ (z0k k n w 0 o).2.1
  unfold zdk
  generalize z0k k n w 0 o=mk at *
  obtain ⟨mx,mm,mb,me⟩:=mk
  generalize z0u k n t=q at *
  obtain ⟨x,m,e⟩:=q
  simp only at *
  generalize z0u ⟨x⟩ m t=q2 at *
  obtain ⟨x2,m2,e2⟩:=q2
  generalize z0p ⟨mx⟩ mm mb=q3 at *
  obtain ⟨x3,m3,nm3,e3⟩:=q3
  simp only at *
  by_cases hm:me=0
  ·obtain ⟨d1,d2,d3,d4,d5⟩:=made hm
   clear made
   subst hm d1
   rw [d3,d4] at a6
   rw [d5] at a8
   by_cases he:e=0
   ·obtain ⟨c1,c2,c3⟩:=offer he
    clear offer
    subst he c3
    repeat' (first|refine dq1 ?_|refine dqK rfl (a1) ?_|refine dqK rfl (a2) ?_|refine dqk rfl (a3) ?_|refine dqK rfl (a4) ?_|refine dqK rfl (a5) ?_|refine dqK rfl (a6) ?_|refine dqk rfl (a7) ?_|refine dqk rfl (a8) ?_|refine dqk rfl (c1) ?_|exact z4 rfl rfl|refine dqT ?_|refine dqF ?_|refine z6w rfl ?_|refine z4i rfl ?_|fail)
   ·clear offer
    repeat' (first|refine dq1 ?_|refine dqK rfl (a1) ?_|refine dqK rfl (a2) ?_|refine dqk rfl (a3) ?_|refine dqK rfl (a5) ?_|refine dqK rfl (a6) ?_|refine dqk rfl (a7) ?_|refine dqk rfl (a8) ?_|exact z4 rfl rfl|refine dqT ?_|refine dqF ?_|refine z6w rfl ?_|refine z4i rfl ?_|fail)
  ·clear made
   by_cases he:e=0
   ·obtain ⟨c1,c2,c3⟩:=offer he
    clear offer
    subst he c3
    repeat' (first|refine dq1 ?_|refine dqK rfl (a1) ?_|refine dqK rfl (a2) ?_|refine dqk rfl (a3) ?_|refine dqK rfl (a4) ?_|refine dqk rfl (c1) ?_|exact z4 rfl rfl|refine dqT ?_|refine dqF ?_|refine z6w rfl ?_|refine z4i rfl ?_|fail)
   ·clear offer
    repeat' (first|refine dq1 ?_|refine dqK rfl (a1) ?_|refine dqK rfl (a2) ?_|refine dqk rfl (a3) ?_|exact z4 rfl rfl|refine dqT ?_|refine dqF ?_|refine z4i rfl ?_|fail)
theorem nodeTwice_walk (k:Book) (c_k:List Value) (n:Node) (c_n:List Value) (t:Tx) (c_t:List Value) (wk:Int) (o:List (Op)) (A_o:Option Addr) (n_o c_o:Nat) (w:World) (h_k:shBook.rep w (Lt w.heap.size) k c_k) (h_n:shNode.rep w (Lt w.heap.size) n c_n) (h_t:shTx.rep w (Lt w.heap.size) t c_t) (wk_0 : -9223372036854775808≤wk) (wk_1:wk≤9223372036854775807) (h_o:Rds shOp w (Lt w.heap.size) o A_o n_o c_o) (z_o:n_o * 16≤140737488351232) (hG:Glob w) :
  Calls Tryz.prog 5 #[.agg c_k.toArray,.agg c_n.toArray,.agg c_t.toArray,.int .i64 wk,.slice A_o n_o c_o] w fun e w'=>e = .returned (.bool true)∧Below w.heap.size w w' :=
 ze6 (F:=Lt w.heap.size) (us:=[.agg c_k.toArray,.agg c_n.toArray,.agg c_t.toArray,.int .i64 wk,.slice A_o n_o c_o]) rfl (z1u (fn:=Tryz.f5) (by kernel_rfl) (by kernel_rfl) (by kernel_rfl)) z01o ⟨fun _ h=>h,hG⟩ (zb (f:=fun _=>true) (k,n,t,wk,o) (by have q:=h_o.1;simp only;omega))
  (z3q (d1:=z7q k) (she_book.to h_k) rfl (z3q (d1:=zgv n) (she_node.to h_n) rfl (z3q (d1:=eTx t) (she_tx.to h_t) rfl (zfw (.i _ _ (wrap_i64 ⟨wk_0,wk_1⟩)) (zfw (zcg z98 h_o) zbs)))))
end
section
open Go.RowKit
set_option maxRecDepth 100000
theorem z063 {t:Tree} {nm:Int} {b:Block} (ok:TreeOK t.names t.blocks) (h1:1≤nm∧nm≤120) (h2:za b=0) (h3:idx t.names nm<0) (h4:z0m t.names t.blocks b t.names.length=0) (h5:t.names.length<24):z0g t nm b=0:=by
 unfold z0g
 rw [if_neg (fun k=>k ((z02 _ _).2 ok)),if_neg (by unfold z5y;rw [decide_eq_true_iff];omega),if_neg (fun k=>k h2),if_neg (fun hc=>by have:=(z8k _ _).1 hc;omega),if_neg (fun k=>k h4),if_neg (by omega)]
theorem z0fb {t:Tree} {nm:Int} {b:Block} (ok:TreeOK t.names t.blocks) (h1:1≤nm∧nm≤120) (h2:za b=0) (h3:idx t.names nm<0) (h4:z0m t.names t.blocks b t.names.length=5):z0g t nm b=5:=by
 unfold z0g
 rw [if_neg (fun k=>k ((z02 _ _).2 ok)),if_neg (by unfold z5y;rw [decide_eq_true_iff];omega),if_neg (fun k=>k h2),if_neg (fun hc=>by have:=(z8k _ _).1 hc;omega),h4,if_pos (by decide)]
theorem z051 {ns:List Int} {bs:List Block} {n:Int} {b c:Block} (hl:ns.length=bs.length) (h:z0m (ns++[n]) (bs++[b]) c (ns++[n]).length=0):z0m ns bs c ns.length=0∨z0m ns bs c ns.length=5:=by
 unfold z0m at h ⊢
 rw [List.take_length] at h ⊢
 by_cases hp:c.parent=0
 ·rw [if_pos hp] at h ⊢;exact .inl h
 rw [if_neg hp] at h ⊢
 by_cases hi:idx ns c.parent<0
 ·rw [if_pos hi];exact .inr rfl
 have e:=z2a (List.prefix_append ns [n]) (x:=c.parent) (by omega)
 obtain ⟨j,hj,hjs⟩:=z5h (show 0≤idx ns c.parent by omega)
 have hlt:=(List.getElem?_eq_some_iff.1 hjs).1
 rw [e,if_neg hi,z7m (by omega) (by omega)] at h
 rw [if_neg hi];exact .inl h
theorem z052 {ns:List Int} {bs:List Block} {n:Int} {b c:Block} (hl:ns.length=bs.length) (h:z0m ns bs c ns.length=0):z0m (ns++[n]) (bs++[b]) c (ns++[n]).length=0:=by
 unfold z0m at h ⊢
 rw [List.take_length] at h ⊢
 by_cases hp:c.parent=0
 ·rw [if_pos hp] at h ⊢;exact h
 rw [if_neg hp] at h ⊢
 by_cases hi:idx ns c.parent<0
 ·rw [if_pos hi] at h;exact absurd h (by decide)
 have e:=z2a (List.prefix_append ns [n]) (x:=c.parent) (by omega)
 obtain ⟨j,hj,hjs⟩:=z5h (show 0≤idx ns c.parent by omega)
 have hlt:=(List.getElem?_eq_some_iff.1 hjs).1
 rw [e,if_neg hi,z7m (by omega) (by omega)]
 rwa [if_neg hi] at h
theorem SubT.add {t u:Tree} {nm:Int} {b:Block} (ok:TreeOK t.names t.blocks) (hn:idx t.names nm<0) (h:SubT t.names t.blocks u.names u.blocks) (h0:0≤idx u.names nm) (hb:z54 u.names u.blocks nm=b):SubT (t.names++[nm]) (t.blocks++[b]) u.names u.blocks:=by
 intro m hm
 have:=(z0b _ _).1 hm
 rcases List.mem_append.1 this with h1|h1
 ·have hi:=(z0b _ _).2 h1
  exact ⟨(h m hi).1,((z40 (name:=nm) (b:=b) ok) m hi).2.symm.trans (h m hi).2⟩
 ·obtain rfl:=List.mem_singleton.1 h1
  exact ⟨h0,(z3h ok hn).2.trans hb.symm⟩
theorem z01p {k:Book} {n:Node} {b:Block} {nm:Int} (N:NodeOK k n) (hp:n.pool=[]) (B:BlkIn k b) (hnm:nm=idx k.texts (z1a b)+1) (ha:z0g n.t nm b=0) (hc:(z8 k ⟨n.t.names++[nm],n.t.blocks++[b]⟩ nm).2=0) :
  z0p k n b=(k.texts,⟨⟨n.t.names++[nm],n.t.blocks++[b]⟩,[],(z0v ⟨n.t.names++[nm],n.t.blocks++[b]⟩).1⟩,nm,0):=by
 have hn:=B.names N.book
 have hT:z23 n.t nm b=⟨n.t.names++[nm],n.t.blocks++[b]⟩:=by unfold z23;rw [if_pos ha]
 have hkk:(⟨k.texts⟩:Book)=k:=rfl
 unfold z0p
 rw [z41 N,if_neg (fun k=>k rfl),hn]
 simp only
 rw [if_neg (fun k=>k rfl),← hnm,ha,if_neg (fun k=>k rfl),hT,hkk,if_neg (fun k=>k hc)]
 unfold zjl
 rw [hp]
 exact if_neg (by decide)
theorem z0cj {k:Book} {n:Node} {b:Block} {nm:Int} (N:NodeOK k n) (B:BlkIn k b) (hnm:nm=idx k.texts (z1a b)+1) (ha:z0g n.t nm b=5):(z0p k n b).2.2.2=5:=by
 have hn:=B.names N.book
 unfold z0p
 rw [z41 N,if_neg (fun k=>k rfl),hn]
 simp only
 rw [if_neg (fun k=>k rfl),← hnm,ha,if_pos (by decide)]
theorem zfk {k:Book} {n:Node} (N:NodeOK k n):n.tip=0∨0≤idx n.t.names n.tip:=by
 rw [← N.tip,zaf N.tree]
 exact z061 n.t.blocks
theorem zrz {k:Book} {n:Node} (N:NodeOK k n):(z8 k n.t n.tip).2=0:=by
 rcases zfk N with h0|h0
 ·rw [h0,z5s ((z0q _).2 N.book) N.tree (.inl rfl),z1g];rfl
 ·exact N.coins _ h0
theorem NodeOK.empty {k k':Book} {n:Node} (N:NodeOK k n) (hp:n.pool=[]) (hk':z14 k'.texts) (h:k.texts <+: k'.texts):NodeOK k' n:=by
 refine N.later hk' h (zry ?_ hp)
 rw [z6f N.tree N.book hk' h (zfk N) fun m hm=>(N.at_ m hm).1]
 exact zrz N
theorem z0ck {k:Book} {n x y:Node} {b c:Block} {p q:List z1j} {nb nc:Int} (h1:z0p k ⟨n.t,[],n.tip⟩ b=(p,x,nb,0)) (h2:z0p ⟨p⟩ x c=(q,y,nc,0)) :
  (z0p ⟨q⟩ ⟨n.t,[],n.tip⟩ c).2.2.2=5∨∃ z1 z2,z0p ⟨q⟩ ⟨n.t,[],n.tip⟩ c=(q,z1,nc,0)∧z0p ⟨q⟩ z1 b=(q,z2,nb,0)∧z2.tip=y.tip∧z0r ⟨q⟩ y=0∧z0r ⟨q⟩ z2=0∧z8 ⟨q⟩ z2.t z2.tip=z8 ⟨q⟩ y.t y.tip∧(z8 ⟨q⟩ y.t y.tip).2=0:=by
 obtain ⟨N0,X,p1,Bb,eb,ab,tb⟩:=z8z h1
 obtain ⟨-,Y,p2,Bc,ec,ac,tc⟩:=z8z h2
 have N:=N0.empty (k':=⟨q⟩) rfl Y.book (p1.trans p2)
 have Bb':BlkIn ⟨q⟩ b:=Bb.more (k':=⟨q⟩) p2
 have eb':nb=idx q (z1a b)+1:=by rw [z2a p2 Bb.own.1];exact eb
 simp only at tb ab
 rw [tb] at tc ac
 generalize n.t=t at *
 have ok:TreeOK t.names t.blocks:=N.tree
 obtain ⟨-,b1,b2,b3,b4,b5⟩:=z4m ab
 obtain ⟨-,c1,c2,c3,c4,c5⟩:=z4m ac
 have okX:=z6e ab
 have okY:=Y.tree
 rw [tc] at okY
 simp only at tc c3 c4 c5 okY
 have hne:nc≠nb:=by
  rintro rfl
  have:=(z0b (t.names++[nc]) nc).2 (by simp)
  omega
 have c3':idx t.names nc<0:=by
  apply Classical.byContradiction
  intro hc
  have:=z8f (List.prefix_append t.names [nb]) (x:=nc) (by omega)
  omega
 rw [List.length_append,List.length_singleton] at c5
 have hs:=z051 ok.len c4
 rcases hs with hs|hs
 rotate_left
 ·exact .inl (z0cj N Bc ec (z0fb ok c1 c2 c3' hs))
 have ac0:z0g t nc c=0:=z063 ok c1 c2 c3' hs (by omega)
 have okC:=z6e ac0
 have sX:=z40 (name:=nb) (b:=b) ok
 have sY:=z40 (t:=⟨t.names++[nb],t.blocks++[b]⟩) (name:=nc) (b:=c) okX
 have nX:=z3h (b:=b) ok b3
 have nY:=z3h (t:=⟨t.names++[nb],t.blocks++[b]⟩) (b:=c) okX c3
 simp only at sY nY
 have sTY:SubT t.names t.blocks (t.names++[nb]++[nc]) (t.blocks++[b]++[c]):=fun m hm=>⟨(sY m (sX m hm).1).1,(sX m hm).2.trans (sY m (sX m hm).1).2⟩
 have nbY:0≤idx (t.names++[nb]++[nc]) nb∧z54 (t.names++[nb]++[nc]) (t.blocks++[b]++[c]) nb=b:=⟨(sY nb nX.1).1,(sY nb nX.1).2.symm.trans nX.2⟩
 have sC:SubT (t.names++[nc]) (t.blocks++[c]) (t.names++[nb]++[nc]) (t.blocks++[b]++[c]):=SubT.add (u:=⟨t.names++[nb]++[nc],t.blocks++[b]++[c]⟩) ok c3' sTY nY.1 nY.2
 have nC:=z3h (b:=c) ok c3'
 have coC:(z8 ⟨q⟩ ⟨t.names++[nc],t.blocks++[c]⟩ nc).2=0:=by
  rw [← ze3 (k:=⟨q⟩) (t:=⟨t.names++[nc],t.blocks++[c]⟩) (u:=⟨t.names++[nb]++[nc],t.blocks++[b]++[c]⟩) Y.book sC okC okY (.inr nC.1),← tc]
  exact Y.coins nc (by rw [tc];exact nY.1)
 have T1:=z01p N rfl Bc ec ac0 coC
 obtain ⟨-,Z1,-,-,-,-,-⟩:=z8z T1
 simp only at T1
 have b3':idx (t.names++[nc]) nb<0:=by
  apply Classical.byContradiction
  intro hc
  have:=(z0b _ _).1 (show 0≤idx (t.names++[nc]) nb by omega)
  rcases List.mem_append.1 this with h0|h0
  ·have:=(z0b _ _).2 h0;omega
  ·exact hne (List.mem_singleton.1 h0).symm
 have ab0:z0g ⟨t.names++[nc],t.blocks++[c]⟩ nb b=0:=z063 okC b1 b2 b3' (z052 ok.len b4) (by rw [List.length_append,List.length_singleton];omega)
 have okZ:=z6e ab0
 simp only at okZ
 have sZ:SubT (t.names++[nc]++[nb]) (t.blocks++[c]++[b]) (t.names++[nb]++[nc]) (t.blocks++[b]++[c]):=SubT.add (t:=⟨t.names++[nc],t.blocks++[c]⟩) (u:=⟨t.names++[nb]++[nc],t.blocks++[b]++[c]⟩) okC b3' sC nbY.1 nbY.2
 have nZ:=z3h (t:=⟨t.names++[nc],t.blocks++[c]⟩) (b:=b) okC b3'
 have sCZ:=z40 (t:=⟨t.names++[nc],t.blocks++[c]⟩) (name:=nb) (b:=b) okC
 have sTC:=z40 (name:=nc) (b:=c) ok
 simp only at sCZ nZ
 have sTZ:SubT t.names t.blocks (t.names++[nc]++[nb]) (t.blocks++[c]++[b]):=fun m hm=>⟨(sCZ m (sTC m hm).1).1,(sTC m hm).2.trans (sCZ m (sTC m hm).1).2⟩
 have sXZ:SubT (t.names++[nb]) (t.blocks++[b]) (t.names++[nc]++[nb]) (t.blocks++[c]++[b]):=SubT.add (u:=⟨t.names++[nc]++[nb],t.blocks++[c]++[b]⟩) ok b3 sTZ nZ.1 nZ.2
 have sZ':SubT (t.names++[nb]++[nc]) (t.blocks++[b]++[c]) (t.names++[nc]++[nb]) (t.blocks++[c]++[b]):=SubT.add (t:=⟨t.names++[nb],t.blocks++[b]⟩) (u:=⟨t.names++[nc]++[nb],t.blocks++[c]++[b]⟩) okX c3 sXZ (sCZ nc nC.1).1 ((sCZ nc nC.1).2.symm.trans nC.2)
 have coZ:(z8 ⟨q⟩ ⟨t.names++[nc]++[nb],t.blocks++[c]++[b]⟩ nb).2=0:=by
  rw [← ze3 (k:=⟨q⟩) (t:=⟨t.names++[nc]++[nb],t.blocks++[c]++[b]⟩) (u:=⟨t.names++[nb]++[nc],t.blocks++[b]++[c]⟩) Y.book sZ okZ okY (.inr nZ.1),← tc]
  exact Y.coins nb (by rw [tc];exact nbY.1)
 have T2:=z01p Z1 rfl Bb' eb' ab0 coZ
 obtain ⟨-,Z2,-,-,-,-,-⟩:=z8z T2
 have hbs:=z0ce sZ sZ' okZ okY
 have htip:(z0v ⟨t.names++[nc]++[nb],t.blocks++[c]++[b]⟩).1=y.tip:=by
  rw [← Y.tip,tc,zaf (t:=⟨t.names++[nc]++[nb],t.blocks++[c]++[b]⟩) okZ,zaf (t:=⟨t.names++[nb]++[nc],t.blocks++[b]++[c]⟩) okY]
  simp only [hbs]
 refine .inr ⟨_,_,T1,T2,htip,z41 Y,z41 Z2,?_,zrz Y⟩
 have ht:=zfk Y
 rw [tc] at ht ⊢
 simp only at ht ⊢
 rw [htip]
 exact (ze3 (k:=⟨q⟩) (t:=⟨t.names++[nb]++[nc],t.blocks++[b]++[c]⟩) (u:=⟨t.names++[nc]++[nb],t.blocks++[c]++[b]⟩) Y.book sZ' okY okZ ht)
end
section
open Go.RowKit
set_option maxRecDepth 100000
set_option maxHeartbeats 4000000
attribute [local irreducible] den denX z1c z1n
noncomputable def zbb:z6:=spD (fun _:List (List UInt8) × List (List UInt8)=>True) fun x=>decide (x.1=x.2)
theorem z01q (l m:List (List UInt8)):zbb [.l 1 (l.map z06),.l 1 (m.map z06)]=some [.b (decide (l=m))]:=zb (f:=fun x:List (List UInt8) × List (List UInt8)=>decide (x.1=x.2)) (l,m) trivial
attribute [local irreducible] z0o spD
def z098:T :=
 .lets [.idx (.v 1) (.v 7) 0] [] (.lets [.bin .neq (.v 9) (.v 10)] [] (.ite (.v 11) (.ret [.c (.b false)]) (.lets [.bin .add (.v 7) (.c (.i .i64 1))] [] (.again 0 [.v 6,.v 12]))))
def z099:T :=
 .lets [.bin .lss (.v 7) (.v 5)] [] (.ite (.v 8) (.lets [] [.inr 1 (.v 0) (.v 7)] (.lets [.idx (.v 0) (.v 7) 0] [] (.lets [] [.inr 1 (.v 1) (.v 7)] z098))) (.ret [.c (.b
 true)]))
def z09a:T :=
 .lets [.len (.v 1)] [] (.lets [.bin .neq (.v 2) (.v 3)] [] (.ite (.v 4) (.ret [.c (.b false)]) (.lets [.len (.v 0)] [] (.loop [.c (.b false),.c (.i .i64 0)] z099))))
def zld:T :=
 .lets [.len (.v 0)] [] z09a
theorem z0fc:Meets Tryz.prog zbb 29 ⟨[.one,.one],[(false,[.scal])],true⟩:=by
 refine z9 (sp:=(z05 [])) (sigs:=z08) (cut:=[]) (hints:=[⟨4,[.t 4,.t 13]⟩]) (fn:=Tryz.f29) (t:=zld) (by kernel_rfl) (by kernel_rfl) (by kernel_rfl) ?_ ?_
 ·exact (zq (L:=[]) trivial)
 ·rintro ds rs hok h
  obtain ⟨⟨l,m⟩,-,rfl,rfl⟩:=zd h
  clear h
  have hll:=zkv (hok (.l 1 (l.map z06)) (List.mem_cons_self ..))
  refine ⟨⟨l.length+1,?_⟩,z0a rfl⟩
  show den _ _ zld [.l 1 (l.map z06),.l 1 (m.map z06)] []=ret (decide (l=m))
  rw [zb3]
  unfold zld
  repeat' (first|refine dq1 ?_|exact z4 rfl rfl|refine tR (fun h=>?_) fun h=>?_|fail)
  have hlm:l.length=m.length:=by omega
  (refine z0c (fun (_:Unit) k=>[.b false,I k]) (fun (_:Unit) k (r:List (List UInt8))=>decide (r=m.drop k)) (fun _ _=>True) () l ?_ ?_ ?_ ?_ ?_;rfl;exact trivial;exact Nat.lt_succ_self _)
  ·rintro _ k x r hx hd hk - again hag
   have hy:m[k]? = some (m[k]'(by omega)):=List.getElem?_eq_getElem (by omega)
   have hdy:m.drop k=m[k]'(by omega)::m.drop (k+1):=List.drop_eq_getElem_cons (by omega)
   rw [hdy]
   generalize m[k]'(by omega)=y at *
   have e:decide (x::r=y::m.drop (k+1))=if decide (x≠y)=true then false else decide (r=m.drop (k+1)):=by
    by_cases h:x=y
    ·simp [h]
    ·simp [h]
   rw [e]
   have hkm:k<m.length:=by omega
   repeat' (first|refine dq1 ?_|refine dqc ?_|exact z4 rfl rfl|exact zm rfl rfl (hag () trivial)|refine tB (fun h=>?_) fun h=>?_|refine dqT ?_|fail)
  ·rintro _ - again
   rw [hlm,List.drop_length]
   repeat' (first|refine dq1 ?_|exact z4 rfl rfl|refine dqF ?_|fail)
end
section
open Go.RowKit
open Go.Lib (itoa)
set_option maxRecDepth 100000
set_option maxHeartbeats 4000000
attribute [local irreducible] z0o spD z8 z0r z0p
attribute [local irreducible] den denX z1c z1n
noncomputable def zu8:z6:=spD (fun _:Book × Node × Block × Block=>True) fun _=>true
theorem zka {k:Book} {n:Node} (h:z0r k n=0):z3d k n=z8 k n.t n.tip:=by
 unfold z3d
 rw [if_neg (fun k=>k h)]
def zpv:T :=
 .ite (.v 56) (.lets [.bin .eql (.v 55) (.c (.i .i64 0))] [] (.ite (.v 57) (.lets [.call 23 [.v 52,.v 54] 0] [] (.ret [.v 58])) (.ret [.c (.b false)]))) (.ret [.c (.b false)])
def zpw:T :=
 .lets [.call 122 [.v 41,.v 42,.v 43,.v 44,.v 45] 0,.call 122 [.v 41,.v 42,.v 43,.v 44,.v 45] 1] [] (.lets [.bin .eql (.v 53) (.c (.i .i64 0))] [] zpv)
def zpx:T :=
 .lets [.not (.v 50)] [] (.ite (.v 51) (.ret [.c (.b false)]) (.lets [.call 122 [.v 25,.v 26,.v 27,.v 28,.v 29] 0,.call 122 [.v 25,.v 26,.v 27,.v 28,.v 29] 1] []
 zpw))
def zpy:T :=
 .ite (.v 48) (.ret [.c (.b false)]) (.lets [.bin .neq (.v 45) (.v 29)] [] (.ite (.v 49) (.ret [.c (.b false)]) (.lets [.call 78 [.v 41,.v 25] 0] [] zpx)))
def zpz:T :=
 .lets [.call 119 [.v 33,.v 34,.v 35,.v 36,.v 37,.v 5,.v 6,.v 7,.v 8,.v 9] 0,.call 119 [.v 33,.v 34,.v 35,.v 36,.v 37,.v 5,.v 6,.v 7,.v 8,.v 9] 1,.call 119 [.v
 33,.v 34,.v 35,.v 36,.v 37,.v 5,.v 6,.v 7,.v 8,.v 9] 2,.call 119 [.v 33,.v 34,.v 35,.v 36,.v 37,.v 5,.v 6,.v 7,.v 8,.v 9] 3,.call 119 [.v 33,.v 34,.v 35,.v
 36,.v 37,.v 5,.v 6,.v 7,.v 8,.v 9] 4,.call 119 [.v 33,.v 34,.v 35,.v 36,.v 37,.v 5,.v 6,.v 7,.v 8,.v 9] 5,.call 119 [.v 33,.v 34,.v 35,.v 36,.v 37,.v 5,.v 6,
 .v 7,.v 8,.v 9] 6] [] (.lets [.bin .neq (.v 47) (.c (.i .i64 0))] [] zpy)
def zq0:T :=
 .lets [.call 119 [.v 25,.v 1,.v 2,.c (.nil 3),.v 4,.v 10,.v 11,.v 12,.v 13,.v 14] 0,.call 119 [.v 25,.v 1,.v 2,.c (.nil 3),.v 4,.v 10,.v 11,.v 12,.v 13,.v 14] 1,
 .call 119 [.v 25,.v 1,.v 2,.c (.nil 3),.v 4,.v 10,.v 11,.v 12,.v 13,.v 14] 2,.call 119 [.v 25,.v 1,.v 2,.c (.nil 3),.v 4,.v 10,.v 11,.v 12,.v 13,.v 14] 3,.call
 119 [.v 25,.v 1,.v 2,.c (.nil 3),.v 4,.v 10,.v 11,.v 12,.v 13,.v 14] 4,.call 119 [.v 25,.v 1,.v 2,.c (.nil 3),.v 4,.v 10,.v 11,.v 12,.v 13,.v 14] 5,.call 119 [.v
 25,.v 1,.v 2,.c (.nil 3),.v 4,.v 10,.v 11,.v 12,.v 13,.v 14] 6] [] (.lets [.bin .neq (.v 39) (.c (.i .i64 0))] [] (.ite (.v 40) (.lets [.bin .eql (.v 39) (.c (.i .i64 5))]
 [] (.ret [.v 41])) zpz))
def zq1:T :=
 .lets [.call 119 [.v 15,.v 16,.v 17,.v 18,.v 19,.v 10,.v 11,.v 12,.v 13,.v 14] 0,.call 119 [.v 15,.v 16,.v 17,.v 18,.v 19,.v 10,.v 11,.v 12,.v 13,.v 14] 1,.call
 119 [.v 15,.v 16,.v 17,.v 18,.v 19,.v 10,.v 11,.v 12,.v 13,.v 14] 2,.call 119 [.v 15,.v 16,.v 17,.v 18,.v 19,.v 10,.v 11,.v 12,.v 13,.v 14] 3,.call 119 [.v 15,
 .v 16,.v 17,.v 18,.v 19,.v 10,.v 11,.v 12,.v 13,.v 14] 4,.call 119 [.v 15,.v 16,.v 17,.v 18,.v 19,.v 10,.v 11,.v 12,.v 13,.v 14] 5,.call 119 [.v 15,.v 16,.v 17,
 .v 18,.v 19,.v 10,.v 11,.v 12,.v 13,.v 14] 6] [] (.lets [.bin .neq (.v 31) (.c (.i .i64 0))] [] (.ite (.v 32) (.ret [.c (.b true)]) zq0))
def zq2:T :=
 .ite (.v 23) (.lets [.call 126 [] 0] [] (.ret [.v 24])) (.lets [.bin .neq (.v 21) (.c (.i .i64 0))] [] (.ite (.v 24) (.lets [.call 126 [] 0] [] (.ret [.v 25])) zq1))
def zdl:T :=
 .lets [.call 119 [.v 0,.v 1,.v 2,.c (.nil 3),.v 4,.v 5,.v 6,.v 7,.v 8,.v 9] 0,.call 119 [.v 0,.v 1,.v 2,.c (.nil 3),.v 4,.v 5,.v 6,.v 7,.v 8,.v 9] 1,.call 119
 [.v 0,.v 1,.v 2,.c (.nil 3),.v 4,.v 5,.v 6,.v 7,.v 8,.v 9] 2,.call 119 [.v 0,.v 1,.v 2,.c (.nil 3),.v 4,.v 5,.v 6,.v 7,.v 8,.v 9] 3,.call 119 [.v 0,.v 1,.v 2,
 .c (.nil 3),.v 4,.v 5,.v 6,.v 7,.v 8,.v 9] 4,.call 119 [.v 0,.v 1,.v 2,.c (.nil 3),.v 4,.v 5,.v 6,.v 7,.v 8,.v 9] 5,.call 119 [.v 0,.v 1,.v 2,.c (.nil 3),.v 4,
 .v 5,.v 6,.v 7,.v 8,.v 9] 6] [] (.lets [.call 126 [] 0] [] (.lets [.not (.v 22)] [] zq2))
attribute [local irreducible] zbb z48 z3z z2t zb2
theorem z01r:Meets Tryz.prog zu8 6 ⟨[.agg 1,.agg 4,.agg 5,.agg 5],[(false,[.scal])],true⟩:=by
 refine z9 (sp:=(z05 [(23,zb2),(78,zbb),(119,z2t),(122,z3z),(126,z48)])) (sigs:=z08) (cut:=[]) (hints:=[]) (fn:=Tryz.f6) (t:=zdl) (by kernel_rfl) (by kernel_rfl) (by kernel_rfl) ?_ ?_
 ·exact (zq (L:=[(23,zb2),(78,zbb),(119,z2t),(122,z3z),(126,z48)]) ⟨z5 rfl z0ed,z5 rfl z0fc,z5 rfl zgy,z5 rfl ziz,z5 rfl zlb,trivial⟩)
 ·rintro ds rs - h
  obtain ⟨⟨k,n,b,c⟩,-,rfl,rfl⟩:=zd h
  clear h
  refine ⟨⟨1,?_⟩,z0a rfl⟩
  show den _ _ zdl [.l 1 (k.texts.map z06),.l 1 (n.t.names.map zg),.l 5 (n.t.blocks.map zi),.l 3 (n.pool.map eTx),I n.tip,I b.parent,I b.height,I b.work,I b.nonce,.l 3 (b.txs.map eTx),I c.parent,I c.height,I c.work,I c.nonce,.l 3 (c.txs.map eTx)] []=ret true
  have a1:=z53 k ⟨n.t,[],n.tip⟩ b
  have a2:=zdi
  have law:=fun p x nb q y nc=>@z0ck k n x y b c p q nb nc
  unfold zdl
  generalize z0p k ⟨n.t,[],n.tip⟩ b=q1 at *
  obtain ⟨p,x,nb,e1⟩:=q1
  simp only at *
  by_cases h1:e1=0
  rotate_left
  ·clear law
   repeat' (first|refine dq1 ?_|refine dqK rfl (a1) ?_|refine dqk rfl (a2) ?_|exact z4 rfl rfl|refine dqT ?_|refine z4i rfl ?_|fail)
  subst h1
  have a3:=z53 ⟨p⟩ x c
  have law:=fun q y nc=>law p x nb q y nc rfl
  generalize z0p ⟨p⟩ x c=q2 at *
  obtain ⟨q,y,nc,e2⟩:=q2
  simp only at *
  by_cases h2:e2=0
  rotate_left
  ·clear law
   repeat' (first|refine dq1 ?_|refine dqK rfl (a1) ?_|refine dqk rfl (a2) ?_|refine dqK rfl (a3) ?_|exact z4 rfl rfl|refine dqT ?_|refine dqF ?_|refine z4i rfl ?_|fail)
  subst h2
  have a4:=z53 ⟨q⟩ ⟨n.t,[],n.tip⟩ c
  rcases law q y nc rfl with h5|⟨z1,z2,t1,t2,t3,t4,t5,t6,t7⟩
  ·clear law
   generalize z0p ⟨q⟩ ⟨n.t,[],n.tip⟩ c=q3 at *
   obtain ⟨v,z,nv,e3⟩:=q3
   simp only at *
   subst h5
   repeat' (first|refine dq1 ?_|refine dqK rfl (a1) ?_|refine dqk rfl (a2) ?_|refine dqK rfl (a3) ?_|refine dqK rfl (a4) ?_|exact z4 rfl rfl|refine dqT ?_|refine dqF ?_|refine z4i rfl ?_|fail)
  ·clear law
   rw [t1] at a4
   have a5:=z53 ⟨q⟩ z1 b
   rw [t2] at a5
   have a6:=z8i ⟨q⟩ y
   have a7:=z8i ⟨q⟩ z2
   rw [zka t4] at a6
   rw [zka t5,t6] at a7
   generalize z8 ⟨q⟩ y.t y.tip=cc at *
   obtain ⟨l,e⟩:=cc
   simp only at *
   subst t7
   rw [t3] at a5 a7
   have a8:=zz7 l l
   have a9:=z01q q q
   rw [decide_eq_true rfl] at a8 a9
   clear t1 t2 t3 t4 t5 t6
   repeat' (first|refine dq1 ?_|refine dqK rfl (a1) ?_|refine dqk rfl (a2) ?_|refine dqK rfl (a3) ?_|refine dqK rfl (a4) ?_|refine dqK rfl (a5) ?_|refine dqk rfl (a9) ?_|refine dqK rfl (a6) ?_|refine dqK rfl (a7) ?_|refine dqk rfl (a8) ?_|exact z4 rfl rfl|refine dqF ?_|refine z6w rfl ?_|refine z4i rfl ?_|fail)
theorem nodeOrder_walk (k:Book) (c_k:List Value) (n:Node) (c_n:List Value) (b:Block) (c_b:List Value) (c:Block) (c_c:List Value) (w:World) (h_k:shBook.rep w (Lt w.heap.size) k c_k) (h_n:shNode.rep w (Lt w.heap.size) n c_n) (h_b:shBlock.rep w (Lt w.heap.size) b c_b) (h_c:shBlock.rep w (Lt w.heap.size) c c_c) (hG:Glob w) :
  Calls Tryz.prog 6 #[.agg c_k.toArray,.agg c_n.toArray,.agg c_b.toArray,.agg c_c.toArray] w fun e w'=>e = .returned (.bool true)∧Below w.heap.size w w' :=
 ze6 (F:=Lt w.heap.size) (us:=[.agg c_k.toArray,.agg c_n.toArray,.agg c_b.toArray,.agg c_c.toArray]) rfl (z1u (fn:=Tryz.f6) (by kernel_rfl) (by kernel_rfl) (by kernel_rfl)) z01r ⟨fun _ h=>h,hG⟩ (zb (f:=fun _=>true) (k,n,b,c) trivial)
  (z3q (d1:=z7q k) (she_book.to h_k) rfl (z3q (d1:=zgv n) (she_node.to h_n) rfl (z3q (d1:=zi b) (she_block.to h_b) rfl (z3q (d1:=zi c) (she_block.to h_c) rfl zbs))))
end
section
open Go.RowKit
set_option maxRecDepth 100000
theorem z064 {t:Tree} {n:Int} (ok:TreeOK t.names t.blocks) (hn:n=0∨0≤idx t.names n):z8h t n=(pw t.names t.blocks n,0):=z0f5 ((z02 _ _).2 ok) hn
theorem z0fd {k:Book} {n m:Node} {b:Block} {x:List z1j} {nm:Int} (h:z0p k n b=(x,m,nm,0)) :
  z1e m.t nm=0∧z0h m.t nm=b∧(∃ v w,z8h n.t n.tip=(v,0)∧z8h m.t m.tip=(w,0)∧v≤w)∧z3t ⟨x⟩ nm=0∧z3s ⟨x⟩ nm=(z0d b).1∧(z0d b).2=0∧m.t.names=n.t.names++[nm]∧z0r ⟨x⟩ m=0:=by
 obtain ⟨N,M,hp,B,e1,e2,e3⟩:=z8z h
 have hnew:=z3h (b:=b) N.tree (z4m e2).2.2.2.1
 have okM:=M.tree
 have hi:0≤idx m.t.names nm:=by rw [e3];exact hnew.1
 have hsub:SubT n.t.names n.t.blocks m.t.names m.t.blocks:=by rw [e3];exact z40 N.tree
 have hl:=zk0 M.book B.own.1
 rw [← e1] at hl
 have hpr:=z86 B.ok
 refine ⟨(z38 okM hi).2.1,by rw [zba okM hi,e3];exact hnew.2,⟨_,_,z064 N.tree (zfk N),z064 okM (zfk M),?_⟩,hl.2,by rw [hl.1,hpr],by rw [hpr],by rw [e3],z41 M⟩
 obtain ⟨b1,b2,b3,b4⟩:=z7l m.t.names m.t.blocks
 have htm:(z4d m.t.names m.t.blocks).1=m.tip:=by rw [← M.tip,zaf okM]
 rw [htm] at b1
 rw [← b1]
 rcases zfk N with h0|h0
 ·rw [h0,zcl];exact b2
 ·rw [hsub.pw N.tree okM (.inr h0)]
  exact (b4 _ ((z0b _ _).1 (hsub _ h0).1)).1
end
section
open Go.RowKit
open Go.Lib (itoa)
set_option maxRecDepth 100000
set_option maxHeartbeats 4000000
attribute [local irreducible] z0o spD z8 z0r z0p z0h z1e z8h z3s z3t z0d
attribute [local irreducible] den denX z1c z1n
noncomputable def zu9:z6:=spD (fun _:Book × Node × Block=>True) fun _=>true
def zq3:T :=
 .lets [.call 54 [.v 47,.v 1] 0] [] (.ite (.v 48) (.lets [.call 117 [.v 10,.v 11,.v 12,.v 13,.v 14] 0] [] (.lets [.bin .eql (.v 49) (.c (.i .i64 0))] [] (.ret [.v 50]))) (.ret
 [.c (.b false)]))
def zq4:T :=
 .lets [.bin .eql (.v 42) (.v 44)] [] (.ite (.v 45) (.lets [.len (.v 1)] [] (.lets [.sub 1 (.v 11) none (some (.v 46))] [] zq3)) (.ret [.c (.b false)]))
def zq5:T :=
 .lets [.bin .geq (.v 28) (.v 26)] [] (.ite (.v 41) (.lets [.len (.v 11)] [] (.lets [.len (.v 1)] [] (.lets [.bin .add (.v 43) (.c (.i .i64 1))] [] zq4))) (.ret [.c (.b
 false)]))
def zq6:T :=
 .ite (.v 39) (.lets [.call 77 [.v 5,.v 6,.v 7,.v 8,.v 9,.v 20,.v 21,.v 22,.v 23,.v 24] 0] [] (.ite (.v 40) zq5 (.ret [.c (.b false)]))) (.ret [.c (.b false)])
def zq7:T :=
 .ite (.v 37) (.lets [.bin .eql (.v 33) (.c (.i .i64 0))] [] (.ite (.v 38) (.lets [.bin .eql (.v 30) (.v 32)] [] zq6) (.ret [.c (.b false)]))) (.ret [.c (.b false)])
def zq8:T :=
 .ite (.v 35) (.lets [.bin .eql (.v 29) (.c (.i .i64 0))] [] (.ite (.v 36) (.lets [.bin .eql (.v 31) (.c (.i .i64 0))] [] zq7) (.ret [.c (.b false)]))) (.ret [.c (.b
 false)])
def zq9:T :=
 .lets [.call 65 [.v 5,.v 6,.v 7,.v 8,.v 9] 0,.call 65 [.v 5,.v 6,.v 7,.v 8,.v 9] 1] [] (.lets [.bin .eql (.v 25) (.c (.i .i64 0))] [] (.ite (.v 34) (.lets [.bin .eql (.v
 27) (.c (.i .i64 0))] [] zq8) (.ret [.c (.b false)])))
def zqa:T :=
 .lets [.call 109 [.v 11,.v 12,.v 14] 0,.call 109 [.v 11,.v 12,.v 14] 1] [] (.lets [.call 110 [.v 10,.v 15] 0,.call 110 [.v 10,.v 15] 1] [] zq9)
def zqb:T :=
 .lets [.call 89 [.v 11,.v 12,.v 15] 0,.call 89 [.v 11,.v 12,.v 15] 1,.call 89 [.v 11,.v 12,.v 15] 2,.call 89 [.v 11,.v 12,.v 15] 3,.call 89 [.v 11,.v 12,.v 15] 4,
 .call 89 [.v 11,.v 12,.v 15] 5] [] (.lets [.call 109 [.v 1,.v 2,.v 4] 0,.call 109 [.v 1,.v 2,.v 4] 1] [] zqa)
def zqc:T :=
 .ite (.v 18) (.lets [.call 126 [] 0] [] (.ret [.v 19])) (.lets [.bin .neq (.v 16) (.c (.i .i64 0))] [] (.ite (.v 19) (.lets [.call 126 [] 0] [] (.ret [.v 20])) zqb))
def zdm:T :=
 .lets [.call 119 [.v 0,.v 1,.v 2,.v 3,.v 4,.v 5,.v 6,.v 7,.v 8,.v 9] 0,.call 119 [.v 0,.v 1,.v 2,.v 3,.v 4,.v 5,.v 6,.v 7,.v 8,.v 9] 1,.call 119 [.v 0,.v 1,.v
 2,.v 3,.v 4,.v 5,.v 6,.v 7,.v 8,.v 9] 2,.call 119 [.v 0,.v 1,.v 2,.v 3,.v 4,.v 5,.v 6,.v 7,.v 8,.v 9] 3,.call 119 [.v 0,.v 1,.v 2,.v 3,.v 4,.v 5,.v 6,.v 7,
 .v 8,.v 9] 4,.call 119 [.v 0,.v 1,.v 2,.v 3,.v 4,.v 5,.v 6,.v 7,.v 8,.v 9] 5,.call 119 [.v 0,.v 1,.v 2,.v 3,.v 4,.v 5,.v 6,.v 7,.v 8,.v 9] 6] [] (.lets [.call
 126 [] 0] [] (.lets [.not (.v 17)] [] zqc))
attribute [local irreducible] z1v z5j z4s z8w z48 z1b z2t z1m z87
theorem z01s:Meets Tryz.prog zu9 4 ⟨[.agg 1,.agg 4,.agg 5],[(false,[.scal])],true⟩:=by
 refine z9 (sp:=(z05 [(54,z8w),(65,z1v),(77,z5j),(89,z1m),(109,z87),(110,z4s),(117,z1b),(119,z2t),(126,z48)])) (sigs:=z08) (cut:=[]) (hints:=[]) (fn:=Tryz.f4) (t:=zdm) (by kernel_rfl) (by kernel_rfl) (by kernel_rfl) ?_ ?_
 ·exact (zq (L:=[(54,z8w),(65,z1v),(77,z5j),(89,z1m),(109,z87),(110,z4s),(117,z1b),(119,z2t),(126,z48)]) ⟨z5 rfl z0ec,z5 rfl zgc,z5 rfl zrr,z5 rfl zas,z5 rfl z086,z5 rfl zn7,z5 rfl z7i,z5 rfl zgy,z5 rfl zlb,trivial⟩)
 ·rintro ds rs - h
  obtain ⟨⟨k,n,b⟩,-,rfl,rfl⟩:=zd h
  clear h
  refine ⟨⟨1,?_⟩,z0a rfl⟩
  show den _ _ zdm [.l 1 (k.texts.map z06),.l 1 (n.t.names.map zg),.l 5 (n.t.blocks.map zi),.l 3 (n.pool.map eTx),I n.tip,I b.parent,I b.height,I b.work,I b.nonce,.l 3 (b.txs.map eTx)] []=ret true
  have a1:=z53 k n b
  have a2:=zdi
  have law:=fun x m nm=>@z0fd k n m b x nm
  unfold zdm
  generalize z0p k n b=q at *
  obtain ⟨x,m,nm,e⟩:=q
  simp only at *
  by_cases he:e=0
  rotate_left
  ·clear law
   repeat' (first|refine dq1 ?_|refine dqK rfl (a1) ?_|refine dqk rfl (a2) ?_|exact z4 rfl rfl|refine dqT ?_|refine z4i rfl ?_|fail)
  subst he
  obtain ⟨g1,g2,⟨v,w,g3,g4,g5⟩,g6,g7,g8,g9,g10⟩:=law x m nm rfl
  clear law
  have a3:=z70 m.t nm
  rw [g1,g2] at a3
  have a4:=zfe n.t n.tip
  rw [g3] at a4
  have a5:=zfe m.t m.tip
  rw [g4] at a5
  have a6:=zfh ⟨x⟩ nm
  rw [g6,g7] at a6
  have a7:=z9s b
  rw [g8] at a7
  have a8:=zh4 b b
  have a9:=zz4 n.t.names n.t.names
  rw [decide_eq_true rfl] at a8 a9
  have a10:=z3l ⟨x⟩ m
  rw [g10] at a10
  have hle:=(zgz g10).tree.le
  clear g1 g2 g3 g4 g6 g7 g8 g10
  obtain ⟨⟨mn,mb⟩,mp,mt⟩:=m
  simp only at *
  subst g9
  generalize (z0d b).1=s at *
  have hs:s=s:=rfl
  rw [List.length_append,List.length_singleton] at hle
  have hlen:((n.t.names++[nm]).length:Int)=(n.t.names.length:Int)+1:=by simp
  repeat' (first|refine dq1 ?_|refine dqK rfl (a1) ?_|refine dqk rfl (a2) ?_|refine dqK rfl (a3) ?_|refine dqK rfl (a4) ?_|refine dqK rfl (a5) ?_|refine dqK rfl (a6) ?_|refine dqK rfl (a7) ?_|refine dqk rfl (a8) ?_|refine dqk rfl (a9) ?_|refine dqk rfl (a10) ?_|refine z7 (d:=.l 1 (n.t.names.map zg)) (by simp [denX,Atom.val,bndI,asI];omega) ?_|exact z4 rfl rfl|refine dqT ?_|refine dqF ?_|refine z6w rfl ?_|refine z4i rfl ?_|fail)
theorem nodeGrows_walk (k:Book) (c_k:List Value) (n:Node) (c_n:List Value) (b:Block) (c_b:List Value) (w:World) (h_k:shBook.rep w (Lt w.heap.size) k c_k) (h_n:shNode.rep w (Lt w.heap.size) n c_n) (h_b:shBlock.rep w (Lt w.heap.size) b c_b) (hG:Glob w) :
  Calls Tryz.prog 4 #[.agg c_k.toArray,.agg c_n.toArray,.agg c_b.toArray] w fun e w'=>e = .returned (.bool true)∧Below w.heap.size w w' :=
 ze6 (F:=Lt w.heap.size) (us:=[.agg c_k.toArray,.agg c_n.toArray,.agg c_b.toArray]) rfl (z1u (fn:=Tryz.f4) (by kernel_rfl) (by kernel_rfl) (by kernel_rfl)) z01s ⟨fun _ h=>h,hG⟩ (zb (f:=fun _=>true) (k,n,b) trivial)
  (z3q (d1:=z7q k) (she_book.to h_k) rfl (z3q (d1:=zgv n) (she_node.to h_n) rfl (z3q (d1:=zi b) (she_block.to h_b) rfl zbs)))
end
end Go.Proofs.YtgkfhlnklienoaaGreatDoor
