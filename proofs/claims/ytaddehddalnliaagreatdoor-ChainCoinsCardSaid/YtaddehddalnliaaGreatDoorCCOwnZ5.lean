/- Own texts, put together by wip/bundle.py: VUC, VE3, VE4, VC6, VW25. -/
import Derived.Test.YtaddehddalnliaaGreatDoorCCOwnB
import Derived.Test.YtaddehddalnliaaGreatDoorCCOwnC
import Derived.Test.YtaddehddalnliaaGreatDoorCCOwnR
import Derived.Test.YtaddehddalnliaaGreatDoorCCOwnS
import Derived.Test.YtaddehddalnliaaGreatDoorCCOwnT
import Derived.Test.YtaddehddalnliaaGreatDoorCCOwnV2
import Derived.Test.YtaddehddalnliaaGreatDoorCCOwnZ4
set_option linter.unusedVariables false
set_option linter.unusedSimpArgs false
namespace Go.Proofs.YtaddehddalnliaaGreatDoor
section
open Go.RowKit
set_option maxRecDepth 100000
set_option maxHeartbeats 4000000
attribute [local irreducible] z01 spD z1h zd zm z22 z9 z0w z4c
attribute [local irreducible] den denX z0g z0o
noncomputable def z6l:za:=spD z8i fun x=>z0z x.1 x.2
theorem zk1 (t:Tx) (l:List Coin) (h:z8i (t,l)):z6l [I t.height,.l 3 (t.ins.map eIn),.l 2 (t.outs.map z3b),.l 6 (l.map zh)]=some [I (z0z t l)]:=ze (p:=z8i) (f:=fun x:Tx × List Coin=>z0z x.1 x.2) (t,l) h
def z0j6:T :=
 .W [.idx 3 6 0,.idx 3 6 1,.idx 3 6 2,.idx 3 6 3,.idx 3 6 4,.idx 3 6 5] [] (.W [.B .add 5 10] []
 (.W [.B .add 6 (zI 1)] [] (.again 0 [14,15])))
def z0j7:T :=
 .W [.idx 2 10 0,.idx 2 10 1] [] (.W [.B .sub 9 12] [] (.W [.B .add 10 (zI 1)] [] (.again 1 [14,15])))
def z0j8:T :=
 .W [.len 2] [] (.loop [5,zI 0] (.W [.B .lss 10 8] [] (.ite 11 (.W [] [.inr 2 2 10] z0j7) (.ret [9]))))
def zmv:T :=
 .W [.len 3] [] (.loop [zI 0,zI 0] (.W [.B .lss 6 4] [] (.ite 7 (.W [] [.inr 6 3 6] z0j6) z0j8)))
theorem z0ao:Meets Tryz.prog z6l 56 ⟨[.agg 3,.one],[(false,[.scal])],true⟩:=by
 refine zf (sp:=(zy [])) (sigs:=z05) (cut:=[]) (hints:=[⟨3,[.t 5,.t 12]⟩,⟨8,[.t 5,.t 25]⟩]) (fn:=Tryz.f56) (t:=zmv) (by kernel_rfl) (by kernel_rfl) (by kernel_rfl) ?_ ?_
 ·exact (zr (L:=[]) trivial)
 ·rintro ds rs - h
  obtain ⟨⟨t,l⟩,⟨h1,h2,h3,h4⟩,rfl,rfl⟩:=zg h;clear h;simp only at h1 h2 h3 h4;refine ⟨⟨l.length+t.outs.length+1,?_⟩,z04 rfl⟩
  show den _ _ zmv [I t.height,.l 3 (t.ins.map eIn),.l 2 (t.outs.map z3b),.l 6 (l.map zh)] []=ret (z0z t l)
  unfold zmv z0z
  repeat' (first|refine dq1 ?_|fail)
  (refine zn (fun (s:Int) k=>[I s,I k]) (fun (s:Int) _ (r:List Coin)=>t.outs.foldl (fun s o=>s - o.coin) (r.foldl (fun s c=>s+c.o.coin) s)) (fun s k=>0≤s∧s≤k * 1000000000) (0:Int) l ?_ ?_ ?_ ?_ ?_;rfl;exact ⟨by omega,by omega⟩;omega)
  ·rintro s k c r hx hd hkl ⟨h0,h5⟩ again hag
   have hc:=h2 c (zY07 hx)
   repeat' (first|refine dq1 ?_|refine dqc ?_|refine dqm ?_|refine dqT ?_|fail)
   exact z6 rfl rfl (hag (s+c.o.coin) ⟨by omega,by omega⟩)
  ·rintro s ⟨h0,h5⟩ again
   repeat' (first|refine dq1 ?_|refine dqF ?_|fail)
   (refine zn (fun (s:Int) k=>[I s,I k]) (fun (s:Int) _ (r:List Out)=>r.foldl (fun s o=>s - o.coin) s) (fun s k => - (k * 1000000000)≤s∧s≤l.length * 1000000000) s t.outs ?_ ?_ ?_ ?_ ?_;rfl;exact ⟨by omega,by omega⟩;omega)
   ·rintro s k c r hx hd hkl ⟨h0,h5⟩ again' hag
    have hc:=h4 c (zY07 hx)
    repeat' (first|refine dq1 ?_|refine dqc ?_|refine dqm ?_|refine dqT ?_|fail)
    exact z6 rfl rfl (hag (s - c.coin) ⟨by omega,by omega⟩)
   ·rintro s ⟨h0,h5⟩ again'
    repeat' (first|refine dq1 ?_|exact z5 rfl rfl|refine dqF ?_|fail)
attribute [local irreducible] z0z
structure SpJ (l:List Coin) (st:List Coin × List Coin) (k:Nat):Prop where
 dist:z28 st.1
 len:st.1.length≤l.length
 good:∀ c ∈ st.1,z4w c=0
 cnt:st.2.length=k
 spent:∀ c ∈ st.2,z4w c=0
theorem SpJ.cut {l:List Coin} {r s:List Coin} {k:Nat} {c:Coin} {j:Nat} (h:SpJ l (r,s) k) (hc:r[j]? = some c):SpJ l (r.take j++r.drop (j+1),s++[c]) (k+1):=by
 refine ⟨z08k h.dist j,?_,fun d hd=>?_,?_,fun d hd=>?_⟩
 ·have:=h.len
  simp only [zY04,zY0f,zY11] at this ⊢;omega
 ·rcases zY12.1 hd with hd|hd
  ·exact h.good d (zY2d hd)
  ·exact h.good d (zY2e hd)
 ·have:=h.cnt
  simp only [zY04,zY1i] at this ⊢;omega
 ·rcases zY12.1 hd with hd|hd
  ·exact h.spent d hd
  ·rw [zY13.1 hd];exact h.good c (zY07 hc)
theorem SpJ.fee {l:List Coin} {r s:List Coin} {t:Tx} (h:SpJ l (r,s) t.ins.length) (ht:TxOK t):z8i (t,s):=by
 have h1:=h.cnt;have h2:=ht.ins;have h3:=ht.outs;simp only at h1;refine ⟨by simp only;omega,fun c hc=>?_,by simp only;omega,fun o ho=>?_⟩
 ·have:=z3v (h.spent c hc)
  exact ⟨by omega,by omega⟩
 ·have:=ht.good o ho
  exact ⟨by omega,by omega⟩
noncomputable def z8p:za:=spD (fun x:List Coin × Tx × Int × Int=>zd x.1=0∧zm x.2.1=0) fun x=>z33 x.1 x.2.1 x.2.2.1 x.2.2.2
theorem zsz (l:List Coin) (t:Tx) (nm h:Int) (hl:zd l=0) (ht:zm t=0):z8p [.l 6 (l.map zh),I t.height,.l 3 (t.ins.map eIn),.l 2 (t.outs.map z3b),I nm,I h]=some [.l 6 ((z33 l t nm h).1.map zh),.l 6 ((z33 l t nm h).2.1.map zh),I (z33 l t nm h).2.2]:=ze (f:=fun x:List Coin × Tx × Int × Int=>z33 x.1 x.2.1 x.2.2.1 x.2.2.2) (l,t,nm,h) ⟨hl,ht⟩
def z0ap:T :=
 .W [.mk 1 [[38],[40]]] [] (.W [.call 52 [41] 0] [] (.W [.B .add 19 (zI 1)] [] (.again 0 [37,16,17,42,43])))
def z0aq:T :=
 .W [.app 6 15 36] [] (.W [.sub 6 18 none (some 24)] [] (.W [.B .add 24 (zI 1)] [] (.W [.sub 6 18 (some 39) none] []
 z0ap)))
def z0ar:T :=
 .W [.not 34] [] (.ite 35 (.ret [.c (.nil 6),.c (.nil 6),zI 8]) (.W [.mk 6 [[26,27,28,29,30,31]]] [] z0aq))
def z0as:T :=
 .W [.B .add 30 (zI 2)] [] (.W [.B .gtr 32 5] [] (.ite 33 (.ret [.c (.nil 6),.c (.nil 6),zI 10]) (.W [.call 44 [29,23,
 .v 5] 0] [] z0ar)))
def z0at:T :=
 .W [.mk 1 [[36],[38]]] [] (.W [.call 52 [39] 0] [] (.W [.B .add 19 (zI 1)] [] (.again 0 [35,16,17,40,41])))
def z0au:T :=
 .W [.app 6 15 34] [] (.W [.sub 6 18 none (some 24)] [] (.W [.B .add 24 (zI 1)] [] (.W [.sub 6 18 (some 37) none] []
 z0at)))
def z0av:T :=
 .W [.not 32] [] (.ite 33 (.ret [.c (.nil 6),.c (.nil 6),zI 8]) (.W [.mk 6 [[26,27,28,29,30,31]]] [] z0au))
def z0aw:T :=
 .W [.idx 18 24 0,.idx 18 24 1,.idx 18 24 2,.idx 18 24 3,.idx 18 24 4,.idx 18 24 5] [] (.ite 31 z0as
 (.W [.call 44 [29,23,5] 0] [] z0av))
def z0ax:T :=
 .W [.call 49 [18,21,22] 0] [] (.W [.B .lss 24 (zI 0)] [] (.ite 25 (.ret [.c (.nil 6),.c (.nil 6),zI 7]) (.W [] [.inr 6 18
 24] z0aw)))
def z0ay:T :=
 .W [.mk 6 [[4,25,27,28,5,11]]] [] (.W [.app 6 31 32] [] (.W [.B .add 25 (zI 1)] [] (.again 1 [22,23,33,.v
 34])))
def z00d:T :=
 .W [.call 49 [24,4,25] 0] [] (.W [.B .geq 29 (zI 0)] [] (.ite 30 (.ret [.c (.nil 6),.c (.nil 6),zI 6]) (.W [.call 9 [24] 0]
 [] z0ay)))
def z00e:T :=
 .W [.call 25 [27] 0] [] (.W [.B .neq 28 (zI 0)] [] (.ite 29 (.ret [.c (.nil 6),.c (.nil 6),28]) (.ret [27,15,zI 0])))
def z00f:T :=
 .ite 26 (.W [] [.inr 2 3 25] (.W [.idx 3 25 0,.idx 3 25 1] [] z00d)) (.W [.call 50 [24] 0] [] z00e)
def z00g:T :=
 .ite 20 (.W [] [.inr 3 2 19] (.W [.idx 2 19 0,.idx 2 19 1,.idx 2 19 2] [] z0ax)) (.W [.len 3] [] (.loop [16,
 .v 17,18,zI 0] (.W [.B .lss 25 21] [] z00f)))
def z00h:T :=
 .W [.call 9 [0] 0] [] (.W [.len 2] [] (.loop [.c (.nil 6),.c (.nil 6),zI 0,13,zI 0] (.W [.B .lss 19 14] [] z00g)))
def z00i:T :=
 .W [.mk 1 [[37],[39]]] [] (.W [.call 52 [40] 0] [] (.W [.B .add 18 (zI 1)] [] (.again 0 [36,15,16,41,42])))
def z00j:T :=
 .W [.app 6 14 35] [] (.W [.sub 6 17 none (some 23)] [] (.W [.B .add 23 (zI 1)] [] (.W [.sub 6 17 (some 38) none] []
 z00i)))
def z00k:T :=
 .W [.not 33] [] (.ite 34 (.ret [.c (.nil 6),.c (.nil 6),zI 8]) (.W [.mk 6 [[25,26,27,28,29,30]]] [] z00j))
def z00l:T :=
 .W [.B .add 29 (zI 2)] [] (.W [.B .gtr 31 5] [] (.ite 32 (.ret [.c (.nil 6),.c (.nil 6),zI 10]) (.W [.call 44 [28,22,
 .v 5] 0] [] z00k)))
def z00m:T :=
 .W [.mk 1 [[35],[37]]] [] (.W [.call 52 [38] 0] [] (.W [.B .add 18 (zI 1)] [] (.again 0 [34,15,16,39,40])))
def z00n:T :=
 .W [.app 6 14 33] [] (.W [.sub 6 17 none (some 23)] [] (.W [.B .add 23 (zI 1)] [] (.W [.sub 6 17 (some 36) none] []
 z00m)))
def z00o:T :=
 .W [.not 31] [] (.ite 32 (.ret [.c (.nil 6),.c (.nil 6),zI 8]) (.W [.mk 6 [[25,26,27,28,29,30]]] [] z00n))
def z00p:T :=
 .W [.idx 17 23 0,.idx 17 23 1,.idx 17 23 2,.idx 17 23 3,.idx 17 23 4,.idx 17 23 5] [] (.ite 30 z00l
 (.W [.call 44 [28,22,5] 0] [] z00o))
def z00q:T :=
 .W [.call 49 [17,20,21] 0] [] (.W [.B .lss 23 (zI 0)] [] (.ite 24 (.ret [.c (.nil 6),.c (.nil 6),zI 7]) (.W [] [.inr 6 17
 23] z00p)))
def z00r:T :=
 .W [.mk 6 [[4,26,28,29,5,11]]] [] (.W [.app 6 32 33] [] (.W [.B .add 26 (zI 1)] [] (.again 1 [23,24,34,.v
 35])))
def z00s:T :=
 .W [.call 49 [25,4,26] 0] [] (.W [.B .geq 30 (zI 0)] [] (.ite 31 (.ret [.c (.nil 6),.c (.nil 6),zI 6]) (.W [.call 9 [25] 0]
 [] z00r)))
def z00t:T :=
 .W [.call 25 [28] 0] [] (.W [.B .neq 29 (zI 0)] [] (.ite 30 (.ret [.c (.nil 6),.c (.nil 6),29]) (.ret [28,14,zI 0])))
def z00u:T :=
 .ite 27 (.W [] [.inr 2 3 26] (.W [.idx 3 26 0,.idx 3 26 1] [] z00s)) (.W [.call 50 [25] 0] [] z00t)
def z00v:T :=
 .ite 21 (.ret [.c (.nil 6),.c (.nil 6),zI 9]) (.W [.len 3] [] (.loop [15,16,17,zI 0] (.W [.B .lss 26 22] []
 z00u)))
def z00w:T :=
 .ite 19 (.W [] [.inr 3 2 18] (.W [.idx 2 18 0,.idx 2 18 1,.idx 2 18 2] [] z00q)) (.W [.call 51 [1,2,3,.v
 14] 0] [] (.W [.B .lss 20 (zI 0)] [] z00v))
def z00x:T :=
 .W [.call 9 [0] 0] [] (.W [.len 2] [] (.loop [.c (.nil 6),.c (.nil 6),zI 0,12,zI 0] (.W [.B .lss 18 13] [] z00w)))
def z00y:T :=
 .W [.B .eql 10 (zI 0)] [] (.ite 11 (.W [.B .neq 1 5] [] (.ite 12 (.ret [.c (.nil 6),.c (.nil 6),zI 4]) z00h))
 z00x)
def z00z:T :=
 .ite 8 (.ret [.c (.nil 6),.c (.nil 6),zI 3]) (.W [.B .gtr 5 (zI 1000)] [] (.ite 9 (.ret [.c (.nil 6),.c (.nil 6),zI 3]) (.W
 [.len 2] [] z00y)))
def z010:T :=
 .W [.B .gtr 4 (zI 120)] [] (.ite 7 (.ret [.c (.nil 6),.c (.nil 6),zI 3]) (.W [.B .lss 5 (zI 1)] [] z00z))
def zhh:T :=
 .W [.B .lss 4 (zI 1)] [] (.ite 6 (.ret [.c (.nil 6),.c (.nil 6),zI 3]) z010)
attribute [local irreducible] z6j z6y z51 z6l zah z9g z8c
theorem z0j9:Meets Tryz.prog z8p 55 ⟨[.one,.agg 3,.one,.one],[(false,[.pure]),(true,[.pure]),(false,[.scal])],false⟩:=by
 refine z6i (sp:=(zy [(9,z6j),(25,z51),(44,zah),(49,z9g),(50,z8c),(51,z6l),(52,z6y)])) (sigs:=z0vc) (cut:=[]) (hints:=[⟨10,[.n 13 0 360 101 6,.c 13 0 360,.r 8 101 6,.t 10,.r 14 101 6,.t 63,.z 59]⟩,⟨26,[.r 8 101 6,.t 10,.r 14 101 6,.t 142]⟩]) (fns:=[z8x 106 Tryz.f106 [] []]) (dep:=1) (pool:=300) (fn:=Tryz.f55) (t:=zhh) (by kernel_rfl) (by kernel_rfl) (by kernel_rfl) ?_ ?_ ?_
 ·exact (z2h (fn:=Tryz.f106) (by kernel_rfl) (by kernel_rfl) (by kernel_rfl) (by kernel_rfl) (by kernel_rfl) z7k)
 ·exact (zr (L:=[(9,z6j),(25,z51),(44,zah),(49,z9g),(50,z8c),(51,z6l),(52,z6y)]) ⟨z7 rfl z02t,z7 rfl zx8,z7 rfl z0n4,z7 rfl (z0iv z0pg),z7 rfl z0mz,z7 rfl z0ao,z7 rfl z08c,trivial⟩)
 ·rintro ds rs - h
  obtain ⟨⟨l,t,nm,ht⟩,⟨hlc,htc⟩,rfl,rfl⟩:=zg h;clear h;simp only at hlc htc;have ok:CoinsOK l:=(z12 l).1 hlc;have okt:TxOK t:=z4n htc;have hkey:=z0n0 okt.insOk;have hl:=ok.len;have hti:=okt.ins;have hto:=okt.outs;refine ⟨⟨t.ins.length+t.outs.length+1,?_⟩,zpx⟩
  show den _ _ zhh [.l 6 (l.map zh),I t.height,.l 3 (t.ins.map eIn),.l 2 (t.outs.map z3b),I nm,I ht] []=ret (z33 l t nm ht)
  unfold zhh z33
  repeat' (first|refine dq1 ?_|refine dqk rfl (z9y l (by omega)) ?_|exact z5 rfl rfl|refine tR (fun h=>?_) fun h=>?_|fail)
  ·(refine zn (fun (st:List Coin × List Coin) k=>[.l 6 (st.2.map zh),.l 6 (([]:List Coin).map zh),I 0,.l 6 (st.1.map zh),I k]) (fun (st:List Coin × List Coin) _ (xs:List In)=>z6z ht z1j (fun r s=>z5x nm ht (decide ((t.ins.length:Int)=0)) z1j (fun r=>z5f s (z0w r)) r 0 t.outs) st.1 st.2 xs) (fun st k=>SpJ l st k) (l,[]) t.ins ?_ ?_ ?_ ?_ ?_;rfl;exact ⟨zbj ok.sorted,zY0k _,ok.good,rfl,fun c hc=>by cases hc⟩;omega)
   ·rintro ⟨r,s⟩ k x xs hx hd hk hI again hag
    omega
   ·rintro ⟨r,s⟩ hI again
    rw [z6z]
    repeat' (first|refine dq1 ?_|refine dqF ?_|fail)
    (refine zn (fun (r:List Coin) k=>[.l 6 (([]:List Coin).map zh),I 0,.l 6 (r.map zh),I k]) (fun (r:List Coin) k (os:List Out)=>z5x nm ht (decide ((t.ins.length:Int)=0)) z1j (fun r=>z5f s (z0w r)) r k os) (fun r k=>z28 r∧r.length≤l.length+k) r t.outs ?_ ?_ ?_ ?_ ?_;rfl;exact ⟨hI.dist,hI.len⟩;omega)
    ·rintro r k o os hx hd hk ⟨hs,hrl⟩ again' hag
     rw [z5x];have hp:=zdt r ⟨nm,k⟩;rcases z8v r ⟨nm,k⟩ with ⟨h1,h2⟩|⟨j,hj,h1,h2⟩
     ·rw [h1] at hp ⊢
      have hn0:¬ (-1:Int) ≥ 0:=by omega
      rw [if_neg hn0];have hag:=hag (r++[⟨⟨nm,k⟩,o,ht,decide ((t.ins.length:Int)=0)⟩]) ⟨zmu hs h2,by rw [zY04,zY1i];omega⟩
      repeat' (first|refine dq1 ?_|refine dqc ?_|refine dqm ?_|refine dqk rfl (hp) ?_|refine dqk rfl (z9y r (by omega)) ?_|refine z4 (z1m (r:=[(⟨⟨nm,k⟩,o,ht,decide ((t.ins.length:Int)=0)⟩:Coin)].map zh) rfl rfl (by simp)) ?_|exact z6 rfl rfl hag|refine dqT ?_|refine dqF ?_|fail)
     ·rw [h1] at hp ⊢
      have hn0:(j:Int) ≥ 0:=by omega
      rw [if_pos hn0]
      repeat' (first|refine dq1 ?_|refine dqc ?_|refine dqm ?_|refine dqk rfl (hp) ?_|exact z5 rfl rfl|refine dqT ?_|fail)
    ·rintro r ⟨hs,hrl⟩ again'
     rw [z5x];unfold z5f
     repeat' (first|refine dq1 ?_|refine dqk rfl (zi2 r ⟨by omega,hs⟩) ?_|refine dqk rfl (zc9 (z0w r)) ?_|exact z5 rfl rfl|refine tR (fun h=>?_) fun h=>?_|refine dqF ?_|fail)
  ·(refine zn (fun (st:List Coin × List Coin) k=>[.l 6 (st.2.map zh),.l 6 (([]:List Coin).map zh),I 0,.l 6 (st.1.map zh),I k]) (fun (st:List Coin × List Coin) _ (xs:List In)=>z6z ht z1j (fun r s=>if z0z t s<0 then z1j 9 else z5x nm ht (decide ((t.ins.length:Int)=0)) z1j (fun r=>z5f s (z0w r)) r 0 t.outs) st.1 st.2 xs) (fun st k=>SpJ l st k) (l,[]) t.ins ?_ ?_ ?_ ?_ ?_;rfl;exact ⟨zbj ok.sorted,zY0k _,ok.good,rfl,fun c hc=>by cases hc⟩;omega)
   ·rintro ⟨r,s⟩ k x xs hx hd hk hI again hag
    rw [z6z];simp only;have hrl:=hI.len;simp only at hrl;have hkx:=hkey x (zY07 hx);have hp:=zdt r x.p;rcases z8v r x.p with ⟨h1,h2⟩|⟨j,hj,h1,h2⟩
    ·rw [h1] at hp ⊢
     have hn0:(-1:Int)<0:=by omega
     rw [if_pos hn0]
     repeat' (first|refine dq1 ?_|refine dqc ?_|refine dqm ?_|refine dqk rfl (hp) ?_|exact z5 rfl rfl|refine dqT ?_|fail)
    ·rw [h1] at hp ⊢
     have hc:r[j]? = some r[j]:=zY03 hj;have hca:z29 r (j:Int)=r[j]:=by unfold z29;rw [zY21,hc];rfl
     have e1:((j:Int)).toNat=j:=by omega
     have e2:((j:Int)+1).toNat=j+1:=by omega
     rw [hca,e1,e2];generalize r[j]=c at *;have hn0:¬ (j:Int)<0:=by omega
     rw [if_neg hn0];have hcb:=z3v (hI.good c (zY07 hc));have e0:((r.take ((j:Int)).toNat).drop ((0:Int)).toNat)=r.take j:=by rw [e1];rfl
     have e3:r.take ((r.length:Int)).toNat=r:=by rw [zY21,zY1j]
     have hxo:=hx;have hx:=hc;have hop:=z00c c.o.lock x.key ht hcb.2.2.2.2.2.2.2.2 hkx ⟨by omega,by omega⟩
     repeat' (first|refine dq1 ?_|refine dqc ?_|refine dqm ?_|refine dqk rfl (hp) ?_|refine dqk rfl (hop) ?_|exact z5 rfl rfl|((first|refine tR ?_ ?_|refine tB ?_ ?_|refine tN ?_ ?_) <;> intro h)|refine dqT ?_|refine dqF ?_|fail)
     all_goals (refine z4 (z1m (r:=[c].map zh) rfl rfl (by simp)) ?_;refine z4 (zir (l:=s) (l':=[c]) rfl rfl (by have:=hI.cnt;simp only at this ⊢;simp only [zY1i];omega)) ?_;refine z4 (zfq (l:=r) (m:=0) (n:=(j:Int)) rfl rfl rfl (by omega) (by omega) (by omega)) ?_;refine z4 (z82 rfl rfl (by omega)) ?_;refine z4 (zfq (l:=r) (m:=(j:Int)+1) (n:=(r.length:Int)) rfl rfl rfl (by omega) (by omega) (by omega)) ?_;rw [e0,e2,e3];refine z4 (z1m (r:=[[.l 6 ((r.take j).map zh)],[.l 6 ((r.drop (j+1)).map zh)]]) rfl rfl (by simp)) ?_;refine z4 (z3c rfl (zmn _ _ (by simp only [zY0f,zY11];omega)) rfl) ?_;refine z4 (z82 rfl rfl (by omega)) ?_;exact z6 rfl rfl (hag (r.take j++r.drop (j+1),s++[c]) (hI.cut hc)))
   ·rintro ⟨r,s⟩ hI again
    rw [z6z]
    repeat' (first|refine dq1 ?_|refine dqk rfl (zk1 t s (hI.fee okt)) ?_|exact z5 rfl rfl|refine tR (fun h=>?_) fun h=>?_|refine dqF ?_|fail)
    (refine zn (fun (r:List Coin) k=>[.l 6 (([]:List Coin).map zh),I 0,.l 6 (r.map zh),I k]) (fun (r:List Coin) k (os:List Out)=>z5x nm ht (decide ((t.ins.length:Int)=0)) z1j (fun r=>z5f s (z0w r)) r k os) (fun r k=>z28 r∧r.length≤l.length+k) r t.outs ?_ ?_ ?_ ?_ ?_;rfl;exact ⟨hI.dist,hI.len⟩;omega)
    ·rintro r k o os hx hd hk ⟨hs,hrl⟩ again' hag
     rw [z5x];have hp:=zdt r ⟨nm,k⟩;rcases z8v r ⟨nm,k⟩ with ⟨h1,h2⟩|⟨j,hj,h1,h2⟩
     ·rw [h1] at hp ⊢
      have hn0:¬ (-1:Int) ≥ 0:=by omega
      rw [if_neg hn0];have hag:=hag (r++[⟨⟨nm,k⟩,o,ht,decide ((t.ins.length:Int)=0)⟩]) ⟨zmu hs h2,by rw [zY04,zY1i];omega⟩
      repeat' (first|refine dq1 ?_|refine dqc ?_|refine dqm ?_|refine dqk rfl (hp) ?_|refine dqk rfl (z9y r (by omega)) ?_|refine z4 (z1m (r:=[(⟨⟨nm,k⟩,o,ht,decide ((t.ins.length:Int)=0)⟩:Coin)].map zh) rfl rfl (by simp)) ?_|exact z6 rfl rfl hag|refine dqT ?_|refine dqF ?_|fail)
     ·rw [h1] at hp ⊢
      have hn0:(j:Int) ≥ 0:=by omega
      rw [if_pos hn0]
      repeat' (first|refine dq1 ?_|refine dqc ?_|refine dqm ?_|refine dqk rfl (hp) ?_|exact z5 rfl rfl|refine dqT ?_|fail)
    ·rintro r ⟨hs,hrl⟩ again'
     rw [z5x];unfold z5f
     repeat' (first|refine dq1 ?_|refine dqk rfl (zi2 r ⟨by omega,hs⟩) ?_|refine dqk rfl (zc9 (z0w r)) ?_|exact z5 rfl rfl|refine tR (fun h=>?_) fun h=>?_|refine dqF ?_|fail)
end
section
open Go.RowKit
open Go.Lib (itoa)
set_option maxRecDepth 100000
set_option maxHeartbeats 4000000
theorem z0pz (o:List Int) (i n:Nat) (x:Int) (hx:x=(i:Int)):o++zc5 i (n+1)++[0]=(o++[x])++zc5 (i+1) n++[0]:=by
 subst hx;rw [zva];simp
section
variable {α:Type} {f:α→List Dt} {sp:Nat→za} {E:Env}
theorem z0sx {sz n:Nat} {a lo:Atom} {l:List α} {m:Int} (ha:a.val E=some (.l sz (l.map f))) (hl:lo.val E=some (I m)) (hm:m=(n:Int)) (h:n≤l.length):denX sp E (.sub sz a (some lo) none)=some (.l sz ((l.drop n).map f)):=by
 subst hm;have hb:bndI E 0 (some lo)=some (n:Int):=by show asI (lo.val E)=some (n:Int);rw [hl];rfl
 rw [zfq (lo:=some lo) (hi:=none) (m:=(n:Int)) (n:=(l.length:Int)) ha hb rfl (by omega) (by omega) (by omega)];simp
end
theorem zt0 (o:Out) (r:List Out):z0r (o::r)=o.coin+z0r r:=by simp [z0r]
attribute [local irreducible] z01 spD zd zm zb zj z2b z33 zv8 zw z57 z0z z0i z0r z18 zkn zc5 z0qk
attribute [local irreducible] den denX z0g z0o
noncomputable def z0ja:za:=spD (fun _:List Undo × List Undo=>True) fun x=>decide (x.1=x.2)
attribute [local irreducible] z5k
attribute [local irreducible] z0ja
abbrev z0n5 (ts:List (List UInt8)) (l:List Coin):Prop:=zj ⟨ts⟩=0∧zd l=0
noncomputable def z70:za:=spD (fun x:List (List UInt8) × List Coin × Block=>z0n5 x.1 x.2.1) fun x=>z18 ⟨x.1⟩ x.2.1 x.2.2
theorem zmw (ts:List (List UInt8)) (l:List Coin) (b:Block) (h:zj ⟨ts⟩=0) (hl:zd l=0):z70 [.l 1 (ts.map z0c),.l 6 (l.map zh),I b.parent,I b.height,I b.work,I b.nonce,.l 3 (b.txs.map eTx)]=some [.l 6 ((z18 ⟨ts⟩ l b).1.map zh),.l 1 ((z18 ⟨ts⟩ l b).2.1.map z9p),I (z18 ⟨ts⟩ l b).2.2]:=ze (p:=fun x:List (List UInt8) × List Coin × Block=>z0n5 x.1 x.2.1) (f:=fun x:List (List UInt8) × List Coin × Block=>z18 ⟨x.1⟩ x.2.1 x.2.2) (ts,l,b) ⟨h,hl⟩
def zt1:T :=
 .W [.B .add 18 (zI 1)] [] (.W [.mk 1 [[20]]] [] (.W [.app 1 17 21] [] (.W [.B .add 18 (zI 1)] [] (.again 0 [22,.v
 23]))))
def zt2:T :=
 .W [.idx 33 36 0,.idx 33 36 1] [] (.W [.B .add 35 38] [] (.W [.B .add 36 (zI 1)] [] (.again 2 [40,41])))
def zt3:T :=
 .W [] [.inr 1 29 31] (.W [.set 29 31 0 [46]] [] (.W [.B .add 28 (zI 1)] [] (.again 1 [23,24,25,54,45,56,.v
 55])))
def zt4:T :=
 .W [.idx 6 31 0,.idx 6 31 1,.idx 6 31 2] [] (.W [.call 51 [50,51,52,46] 0] [] (.W [.B .add 26 53] []
 zt3))
def zt5:T :=
 .W [] [.inr 1 29 31] (.W [.set 29 31 0 [46]] [] (.W [.B .add 28 (zI 1)] [] (.again 1 [23,24,25,26,45,51,.v
 50])))
def zt6:T :=
 .ite 48 (.ret [.c (.nil 6),.c (.nil 1),47]) (.W [.B .gtr 31 (zI 0)] [] (.ite 49 (.W [] [.inr 3 6 31] zt4) zt5))
def zt7:T :=
 .W [.call 54 [27,41,42,43,44,3] 0,.call 54 [27,41,42,43,44,3] 1,.call 54 [27,41,42,43,44,3] 2] [] (.W
 [.B .neq 47 (zI 0)] [] zt6)
def zt8:T :=
 .W [.idx 6 31 0,.idx 6 31 1,.idx 6 31 2] [] (.W [] [.inr 1 9 31] (.W [.idx 9 31 0] [] zt7))
def zt9:T :=
 .W [.B .add 38 26] [] (.W [.B .gtr 35 39] [] (.ite 40 (.ret [.c (.nil 6),.c (.nil 1),zI 9]) (.W [] [.inr 3 6 31]
 zt8)))
def zta:T :=
 .loop [zI 0,zI 0] (.W [.B .lss 36 34] [] (.ite 37 (.W [] [.inr 2 33 36] zt2) (.W [.call 114 [3] 0] []
 zt9)))
def zqp:T :=
 .W [] [.inr 1 29 31] (.W [.set 29 31 0 [38]] [] (.W [.B .add 28 (zI 1)] [] (.again 1 [23,24,25,46,37,48,.v
 47])))
def zqq:T :=
 .W [.idx 6 31 0,.idx 6 31 1,.idx 6 31 2] [] (.W [.call 51 [42,43,44,38] 0] [] (.W [.B .add 26 45] []
 zqp))
def zqr:T :=
 .W [] [.inr 1 29 31] (.W [.set 29 31 0 [38]] [] (.W [.B .add 28 (zI 1)] [] (.again 1 [23,24,25,26,37,43,.v
 42])))
def zqs:T :=
 .ite 40 (.ret [.c (.nil 6),.c (.nil 1),39]) (.W [.B .gtr 31 (zI 0)] [] (.ite 41 (.W [] [.inr 3 6 31] zqq)
 zqr))
def zqt:T :=
 .W [.call 54 [27,33,34,35,36,3] 0,.call 54 [27,33,34,35,36,3] 1,.call 54 [27,33,34,35,36,3] 2] [] (.W
 [.B .neq 39 (zI 0)] [] zqs)
def zqu:T :=
 .W [.idx 6 31 0,.idx 6 31 1,.idx 6 31 2] [] (.W [] [.inr 1 9 31] (.W [.idx 9 31 0] [] zqt))
def zqv:T :=
 .ite 32 (.W [] [.inr 3 6 (zI 0)] (.W [.idx 6 (zI 0) 2] [] (.W [.len 33] [] zta))) (.W [] [.inr 3 6 31]
 zqu)
def zqw:T :=
 .ite 30 (.W [] [.inr 1 21 28] (.W [.idx 21 28 0] [] (.W [.B .eql 31 (zI 0)] [] zqv))) (.ret [27,29,.c (.i .i64
 0)])
def zqx:T :=
 .W [.len 21] [] (.loop [.c (.nil 6),.c (.nil 1),zI 0,zI 0,1,zI 0,13] (.W [.B .lss 28 22] [] zqw))
def zqy:T :=
 .loop [14,zI 0] (.W [.B .lss 18 16] [] (.ite 19 zt1 (.W [.mk 1 [[zI 0]]] [] (.W [.app 1 17 20] []
 zqx))))
def zqz:T :=
 .W [.len 6] [] (.W [.mkz 1 [.nil 6] 12] [] (.W [.mk 1 []] [] (.W [.sub 3 6 (some (zI 1)) none] [] (.W [.len 15] [] zqy))))
def zdx:T :=
 .W [.call 115 [0,2,3,4,5,6] 0,.call 115 [0,2,3,4,5,6] 1,.call 115 [0,2,3,4,5,6] 2,.call 115 [0,2,
 .v 3,4,5,6] 3] [] (.W [.B .neq 10 (zI 0)] [] (.ite 11 (.ret [.c (.nil 6),.c (.nil 1),10]) zqz))
attribute [local irreducible] z8p z7y z6l z7x
theorem z0az:Meets Tryz.prog z70 30 ⟨[.one,.one,.agg 5],[(false,[.pure]),(false,[.pure]),(false,[.scal])],false⟩:=by
 refine zf (sp:=(zy [(51,z6l),(54,z8p),(114,z7x),(115,z7y)])) (sigs:=z05) (cut:=[]) (hints:=[⟨8,[.r 15 3 1,.t 45,.z 40]⟩,⟨18,[.t 19,.t 70]⟩,⟨13,[.r 6 101 6,.r 7 111 1,.t 8,.t 14,.t 1,.t 58,.o 39]⟩]) (fn:=Tryz.f30) (t:=zdx) (by kernel_rfl) (by kernel_rfl) (by kernel_rfl) ?_ ?_
 ·exact (zr (L:=[(51,z6l),(54,z8p),(114,z7x),(115,z7y)]) ⟨z7 rfl z0ao,z7 rfl z0j9,z7 rfl z0et,z7 rfl z0eu,trivial⟩)
 ·rintro ds rs hok h
  obtain ⟨⟨ts,l,b⟩,⟨hk,hl⟩,rfl,rfl⟩:=zg h;clear h;simp only at hk hl;refine ⟨⟨100,?_⟩,z1d ⟨rfl,trivial⟩⟩
  show den _ _ zdx [.l 1 (ts.map z0c),.l 6 (l.map zh),I b.parent,I b.height,I b.work,I b.nonce,.l 3 (b.txs.map eTx)] []=ret (z18 ⟨ts⟩ l b)
  have hsame:=z0n1 (b:=b) hk hl;rw [← hsame];clear hsame;have a1:=zqj ts b (zhm hk);have hnm:=z08b (ts:=ts) (b:=b);unfold zdx zsx;generalize z2b ts b=nm at *;obtain ⟨tx,n0,ns,e⟩:=nm;simp only at *
  by_cases he:e=0
  rotate_left
  ·repeat' (first|refine dq1 ?_|refine dqK rfl (a1) ?_|exact z5 rfl rfl|refine tR (fun h=>?_) fun h=>?_|fail)
   all_goals (exfalso;omega)
  obtain ⟨hb,hnl⟩:=hnm he;have ok:=z1p hb;have hl4:=ok.len;have hl1:=ok.some;have hrg:=ok.range;unfold z2q at hrg;subst he
  repeat' (first|refine dq1 ?_|refine dqK rfl (a1) ?_|refine z4 (z07e rfl (by omega)) ?_|refine z4 (z1m (r:=(([]:List Int).map zk)) rfl rfl (by simp)) ?_|refine z4 (z0sx (n:=1) rfl rfl rfl (by omega)) ?_|exact z5 rfl rfl|refine tR (fun h=>?_) fun h=>?_|fail)
  have hdl:(b.txs.drop 1).length=b.txs.length - 1:=by simp
  rw [show zc5 1 (b.txs.length - 1)=[]++zc5 (0+1) (b.txs.drop 1).length by rw [hdl];rfl]
  (refine zn (fun (o:List Int) k=>[.l 1 (o.map zk),I k]) (fun (o:List Int) k (r:List Tx)=>z46 b ns l (List.replicate b.txs.length ⟨[]⟩) 0 (o++zc5 (k+1) r.length++[0])) (fun o k=>o.length=k∧∀ x ∈ o,1≤x∧x≤(k:Int)) [] (b.txs.drop 1) ?_ ?_ ?_ ?_ ?_;rfl;exact ⟨rfl,fun x hx=>by cases hx⟩;omega)
  ·rintro o k x r hx hd hk2 ⟨ho,hoe⟩ again hag
   rw [zY0a,z0pz o (k+1) r.length ((k:Int)+1) (by omega)];have hag':=hag (o++[(k:Int)+1]) ⟨by simp;omega,fun y hy=>by
    rcases zY12.1 hy with hy|hy
    ·have:=hoe y hy;omega
    ·rw [zY13.1 hy];omega⟩
   clear hag
   repeat' (first|refine dq1 ?_|refine dqT ?_|fail)
   exact z6 rfl rfl hag'
  ·rintro o ⟨ho,hoe⟩ again
   have hoe2:∀ x ∈ o++[(0:Int)],0≤x∧x<(b.txs.length:Int):=fun y hy=>by
    rcases zY12.1 hy with hy|hy
    ·have:=hoe y hy;omega
    ·rw [zY13.1 hy];omega
   rw [zY0q,zv9,zY1e];have hol:(o++[(0:Int)]).length≤5:=by simp;omega
   repeat' (first|refine dq1 ?_|refine dqF ?_|fail)
   generalize o++[(0:Int)]=ord at *;clear hoe ho
   (refine zn (fun (a:List Coin × List Undo × Int) k=>[.l 6 [],.l 1 [],I 0,I a.2.2,.l 6 (a.1.map zh),I k,.l 1 (a.2.1.map z9p)]) (fun (a:List Coin × List Undo × Int) k (r:List Int)=>z46 b ns a.1 a.2.1 a.2.2 r) (fun a k=>a.2.1.length=b.txs.length∧zd a.1=0 ∧ -(10000000000 * (k:Int))≤a.2.2∧a.2.2≤10000000000 * (k:Int)) (l,List.replicate b.txs.length ⟨[]⟩,0) ord ?_ ?_ ?_ ?_ ?_;rfl;exact ⟨by simp,hl,by simp,by simp⟩;omega)
   ·rintro ⟨l,us,fees⟩ k i r hx hd hk2 ⟨hu,hcl,m1,m2⟩ again2 hag
    simp only at hu hcl m1 m2 hag ⊢;have hi:=hoe2 i (zY07 hx);have hx':b.txs[i.toNat]? = some (b.txs.getD i.toNat zTx):=z59 _ (by omega);have hn':ns[i.toNat]? = some (ns.getD i.toNat 0):=z59 0 (by omega);have hu':us[i.toNat]? = some (us.getD i.toNat ⟨[]⟩):=z59 _ (by omega);have hct:=ok.each _ (zY07 hx');have a4:=zsz l (b.txs.getD i.toNat zTx) (ns.getD i.toNat 0) b.height hcl hct;rw [z46,zcs hcl hct];rw [zcs hcl hct] at a4;have hfee:=zuz (l:=l) (t:=b.txs.getD i.toNat zTx) (nm:=ns.getD i.toNat 0) (h:=b.height);have hrt:=zlf (l:=l) (t:=b.txs.getD i.toNat zTx) (nm:=ns.getD i.toNat 0) (h:=b.height);have hxk:=hx;clear hx
    by_cases hi0:i=0
    ·have hx0:b.txs[(0:Int).toNat]? = some (b.txs.getD 0 zTx):=z59 _ hl1
     have hct0:=ok.each _ (zY07 hx0);have okt:=z4n hct0;have hol:=okt.outs;generalize b.txs.getD 0 zTx=t0 at *;generalize b.txs.getD i.toNat zTx=t at *;generalize ns.getD i.toNat 0=nm at *;generalize us.getD i.toNat ⟨[]⟩=u0 at *;generalize zw l t nm b.height=q at *;obtain ⟨l2,sp,f⟩:=q;simp only at a4 hfee hrt ⊢;have hni:¬ i > 0:=by omega
     rw [if_neg hni]
     repeat' (first|refine dq1 ?_|refine dqc ?_|refine dqm ?_|refine tA (fun h=>?_) fun h=>?_|refine dqT ?_|fail)
     all_goals (try exact absurd hi0 (by assumption))
     rw [← Int.zero_add (z0r t0.outs)]
     (refine zn (fun (s:Int) k=>[I s,I k]) (fun (s:Int) _ (ro:List Out)=>if s+z0r ro > z0i b.height+fees then ([],[],9) else if f≠0 then ([],[],f) else z46 b ns l2 (us.set i.toNat ⟨sp⟩) fees r) (fun s k=>0≤s∧s≤1000000000 * (k:Int)) 0 t0.outs ?_ ?_ ?_ ?_ ?_;rfl;exact ⟨by omega,by omega⟩;omega)
     ·rintro s j z ro hz hdz hjz ⟨s1,s2⟩ again3 hag3
      have hzc:=okt.good z (zY07 hz);have hag3':=hag3 (s+z.coin) ⟨by omega,by omega⟩;rw [zt0,← Int.add_assoc]
      repeat' (first|refine dq1 ?_|refine dqc ?_|refine dqm ?_|refine dqT ?_|fail)
      exact z6 rfl rfl hag3'
     ·rintro s ⟨s1,s2⟩ again3
      have e0:z0r []=0:=by with_unfolding_all rfl
      rw [e0,Int.add_zero];have a6:=zqi b.height (by omega) (by omega);have hrw:=zep b.height;generalize z0i b.height=rw0 at *
      by_cases hbig:s > rw0+fees
      ·rw [if_pos hbig]
       repeat' (first|refine dq1 ?_|refine dqk rfl (a6) ?_|exact z5 rfl rfl|refine dqT ?_|refine dqF ?_|fail)
      ·rw [if_neg hbig]
       by_cases hf:f=0
       ·have hrt:=hrt hf
        have hsl:(us.set i.toNat (⟨sp⟩:Undo)).length=us.length:=zY2m ..
        repeat' (first|refine dq1 ?_|refine dqc ?_|refine dqm ?_|refine dqk rfl (a6) ?_|refine dqK rfl (a4) ?_|refine z4 (zgd (n:=i.toNat) (x:=u0) (y:=⟨sp⟩) rfl rfl rfl rfl (by omega) (zY0k _) hu' rfl) ?_|exact z5 rfl rfl|refine tR (fun h=>?_) fun h=>?_|refine dqF ?_|fail)
        all_goals exact z6 rfl rfl (hag (l2,us.set i.toNat ⟨sp⟩,fees) ⟨by simpa using hu,hrt,by simp only;omega,by simp only;omega⟩)
       ·rw [if_pos hf]
        repeat' (first|refine dq1 ?_|refine dqc ?_|refine dqm ?_|refine dqk rfl (a6) ?_|refine dqK rfl (a4) ?_|exact z5 rfl rfl|refine dqT ?_|refine dqF ?_|fail)
    ·generalize b.txs.getD i.toNat zTx=t at *
     generalize ns.getD i.toNat 0=nm at *;generalize us.getD i.toNat ⟨[]⟩=u0 at *;generalize zw l t nm b.height=q at *;obtain ⟨l2,sp,f⟩:=q;simp only at a4 hfee hrt ⊢;have hni:i > 0:=by omega
     rw [if_pos hni,if_neg (fun h=>hi0 h.1)]
     by_cases hf:f=0
     ·obtain ⟨hd1,hd2,hd3⟩:=hfee hf
      have hrt:=hrt hf;have a5:=zk1 t sp hd1;have hsl:(us.set i.toNat (⟨sp⟩:Undo)).length=us.length:=zY2m ..;generalize z0z t sp=fe at *
      repeat' (first|refine dq1 ?_|refine dqc ?_|refine dqm ?_|refine dqK rfl (a4) ?_|refine dqk rfl (a5) ?_|refine z4 (zgd (n:=i.toNat) (x:=u0) (y:=⟨sp⟩) rfl rfl rfl rfl (by omega) (zY0k _) hu' rfl) ?_|exact z5 rfl rfl|refine tR (fun h=>?_) fun h=>?_|refine dqT ?_|refine dqF ?_|fail)
      all_goals exact z6 rfl rfl (hag (l2,us.set i.toNat ⟨sp⟩,fees+fe) ⟨by simpa using hu,hrt,by simp only;omega,by simp only;omega⟩)
     ·rw [if_pos hf]
      repeat' (first|refine dq1 ?_|refine dqc ?_|refine dqm ?_|refine dqK rfl (a4) ?_|exact z5 rfl rfl|refine dqT ?_|refine dqF ?_|fail)
   ·rintro ⟨l,us,fees⟩ ⟨hu,hcl,m1,m2⟩ again2
    rw [z46]
    repeat' (first|refine dq1 ?_|exact z5 rfl rfl|refine dqF ?_|fail)
attribute [local irreducible] z08l
end
section
open Go.RowKit
open Go.Lib (itoa)
set_option maxRecDepth 100000
set_option maxHeartbeats 4000000
def z24 (t:Tree) (m:Int):List Int × Bool:=if m=0 then ([],true) else if idx t.names m<0 then ([],false) else (z19 t.names t.blocks m,true)
def z6u (t:Tree) (m:Int):Prop:=m=0∨0≤idx t.names m
theorem zcu {t:Tree} {m:Int} (h:z6u t m):z24 t m=(z19 t.names t.blocks m,true):=by
 unfold z24
 by_cases h0:m=0
 ·rw [if_pos h0,h0,z4o]
 ·rw [if_neg h0]
  rcases h with h|h
  ·exact absurd h h0
  ·rw [if_neg (by omega)]
theorem zlj {t:Tree} {m:Int} (h:¬ z6u t m):z24 t m=([],false):=by
 unfold z24;rw [if_neg (fun e=>h (.inl e)),if_pos (Int.not_le.1 fun e=>h (.inr e))]
theorem z0b1 {t:Tree} {m:Int} (ht:zl t=0) (h:z6u t m):z31 t m=(z19 t.names t.blocks m,0):=by
 unfold z31;rw [if_neg (fun k=>k ht)];rw [if_neg (by rcases h with h|h <;> omega)]
theorem zvb {t:Tree} {m:Int} (ht:zl t=0) (h:¬ z6u t m):z31 t m=([],5):=by
 unfold z31;rw [if_neg (fun k=>k ht),if_pos ⟨fun e=>h (.inl e),Int.not_le.1 fun e=>h (.inr e)⟩]
theorem zvc {t:Tree} {m:Int} (ht:zl t≠0):z31 t m=([],zl t):=by
 unfold z31;rw [if_pos ht]
noncomputable def z71:za:=spD (fun _:Tree=>True) fun t=>zl t
theorem zmx (t:Tree):z71 [.l 1 (t.names.map zk),.l 5 (t.blocks.map z09)]=some [I (zl t)]:=ze (f:=fun t:Tree=>zl t) t trivial
def zhi (p:Int × Int):List Dt:=[I p.1,I p.2]
def zk2 (n v:Int):List (Int × Int)→List (Int × Int)
 | []=>[(n,v)]
 | (k,u)::l=>if n=k then (n,v)::l else (k,u)::zk2 n v l
theorem zvd (n v x:Int):∀ l:List (Int × Int),z3k (zk2 n v l) x=if x=n then some v else z3k l x
 | []=>rfl
 | (k,u)::l=>by
  rw [zk2]
  by_cases h:n=k
  ·subst h
   rw [if_pos rfl,z3k,z3k]
   by_cases hx:x=n
   ·rw [if_pos hx,if_pos hx]
   ·rw [if_neg hx,if_neg hx,if_neg hx]
  ·rw [if_neg h,z3k,z3k,zvd n v x l]
   by_cases hx:x=k
   ·rw [if_pos hx,if_pos hx,if_neg fun e=>h (e.symm.trans hx)]
   ·rw [if_neg hx,if_neg hx]
theorem ztb (n:Int):∀ l:List (Int × Int),z6m n (l.map zhi)=(z3k l n).map fun v=>[I v]
 | []=>rfl
 | (k,u)::l=>by
  show (if n=k then some [I u] else z6m n (l.map zhi))=_
  rw [z3k,ztb n l]
  by_cases h:n=k
  ·rw [if_pos h,if_pos h];rfl
  ·rw [if_neg h,if_neg h]
theorem z0b2 (n v:Int):∀ l:List (Int × Int),z9h n [I v] (l.map zhi)=(zk2 n v l).map zhi
 | []=>rfl
 | (k,u)::l=>by
  show (if n=k then (I n::[I v])::l.map zhi else zhi (k,u)::z9h n [I v] (l.map zhi))=_
  rw [zk2,z0b2 n v l]
  by_cases h:n=k
  ·rw [if_pos h,if_pos h];rfl
  ·rw [if_neg h,if_neg h];rfl
theorem z92 {sp:Nat→za} {E:Env} {a ka:Atom} {l:Nat} {rows:List (List Dt)} {n:Int} {b:Bool} (ha:a.val E=some (.l l rows)) (hk:ka.val E=some (I n)) (h:(z6m n rows).isSome=b):denX sp E (.mhas a ka)=some (.b b):=by
 simp only [denX,ha,hk,asI];rw [h]
theorem z0g9 {ns:List Int} {bs:List Block}:∀ {k:Nat},(∀ j,j<k→z1r ns bs j (z10 ns j) (zx bs j)=0)→∀ {p h:Int},z3k (hts ns bs k) p=some h→0≤h∧h≤1000
 | 0,_,p,h,e=>by
  rw [hts,z3k,z3k] at e
  by_cases hp:p=0
  ·rw [if_pos hp] at e;cases e;omega
  ·rw [if_neg hp] at e;cases e
 | k+1,ok,p,h,e=>by
  rw [hts,z3k] at e
  by_cases hp:p=z10 ns k
  ·rw [if_pos hp] at e
   cases e
   exact za6 (z8j (ok k (by omega))).2.1
  ·rw [if_neg hp] at e
   exact z0g9 (fun j hj=>ok j (by omega)) e
section
attribute [local irreducible] z01 spD zb z1r z3m hts z3k zk2
attribute [local irreducible] den denX z0g z0o
def ztc:T :=
 .ite 29 (.ret [zI 4]) (.W [.mput 1 11 13 [15]] [] (.W [.B .add 10 (zI 1)] [] (.again 0 [9,31,30])))
def ztd:T :=
 .W [.not 26] [] (.ite 27 (.ret [zI 5]) (.W [.B .add 25 (zI 1)] [] (.W [.B .neq 28 15] [] ztc)))
def zte:T :=
 .W [.mget [.i .i64 0] 11 13 0,.mhas 11 13] [] (.ite 24 (.ret [zI 6]) (.W [.mget [.i .i64 0] 11 14 0,.mhas 11 14] []
 ztd))
def ztf:T :=
 .ite 20 (.ret [zI 3]) (.W [.call 96 [14,15,16,17,18] 0] [] (.W [.B .neq 21 (zI 0)] [] (.ite 22 (.ret [21])
 zte)))
def ztg:T :=
 .W [.idx 1 10 0,.idx 1 10 1,.idx 1 10 2,.idx 1 10 3,.idx 1 10 4] [] (.W [.B .lss 13 (zI 1)] [] (.ite (.v
 19) (.ret [zI 3]) (.W [.B .gtr 13 (zI 120)] [] ztf)))
def zth:T :=
 .W [.B .lss 10 8] [] (.ite 12 (.W [] [.inr 1 0 10] (.W [.idx 0 10 0] [] (.W [] [.inr 5 1 10] ztg))) (.ret [.c
 (.i .i64 0)]))
def zti:T :=
 .ite 6 (.ret [zI 2]) (.W [.mput 1 (.c (.nil 2)) (zI 0) [zI 0]] [] (.W [.len 0] [] (.loop [zI 0,zI 0,7]
 zth)))
def ztj:T :=
 .W [.len 1] [] (.W [.B .neq 2 3] [] (.ite 4 (.ret [zI 4]) (.W [.len 0] [] (.W [.B .gtr 5 (zI 24)] []
 zti))))
def zdy:T :=
 .W [.len 0] [] ztj
attribute [local irreducible] z45
theorem z0b3:Meets Tryz.prog z71 35 ⟨[.agg 2],[(false,[.scal])],true⟩:=by
 refine zf (sp:=(zy [(96,z45)])) (sigs:=z05) (cut:=[]) (hints:=[⟨7,[.t 2,.t 28,.o 23]⟩]) (fn:=Tryz.f35) (t:=zdy) (by kernel_rfl) (by kernel_rfl) (by kernel_rfl) ?_ ?_
 ·exact (zr (L:=[(96,z45)]) ⟨z7 rfl zlb,trivial⟩)
 ·rintro ds rs - h
  obtain ⟨⟨ns,bs⟩,-,rfl,rfl⟩:=zg h;clear h;refine ⟨⟨30,?_⟩,z04 rfl⟩
  show den _ _ zdy [.l 1 (ns.map zk),.l 5 (bs.map z09)] []=ret (zl ⟨ns,bs⟩)
  unfold zdy zl;simp only
  by_cases h1:ns.length=bs.length
  rotate_left
  ·rw [if_pos h1]
   repeat' (first|refine dq1 ?_|exact z5 rfl rfl|refine dqT ?_|fail)
  rw [if_neg (fun x=>x h1)]
  by_cases h2:24<ns.length
  ·rw [if_pos h2]
   repeat' (first|refine dq1 ?_|exact z5 rfl rfl|refine dqT ?_|refine dqF ?_|fail)
  rw [if_neg h2]
  repeat' (first|refine dq1 ?_|refine z4 (z3u (vs:=1) (rows:=([]:List (Int × Int)).map zhi) rfl rfl rfl ⟨rfl,rfl⟩ (z0b2 0 0 [])) ?_|refine dqF ?_|fail)
  have e0:zk2 0 0 []=[(0,0)]:=by with_unfolding_all rfl
  rw [e0]
  (refine zn (fun (m:List (Int × Int)) k=>[I 0,I k,.l 2 (m.map zhi)]) (fun (m:List (Int × Int)) k (r:List Int)=>z3m ns bs k r.length) (fun m k=>(∀ x,z3k m x=z3k (hts ns bs k) x)∧∀ j,j<k→z1r ns bs j (z10 ns j) (zx bs j)=0) [(0,0)] ns ?_ ?_ ?_ ?_ ?_;rfl;exact ⟨fun x=>by with_unfolding_all rfl,fun j hj=>absurd hj (by omega)⟩;omega)
  ·rintro m k x r hx hd hk ⟨hm,hok⟩ again hag
   have hkb:k<bs.length:=by omega
   have hxb:bs[((k:Nat):Int).toNat]? = some (zx bs (k:Int)):=by rw [zY21];simp [zx,hkb]
   have hn:z10 ns k=x:=by unfold z10;rw [hx];rfl
   have e1:z3m ns bs k (x::r).length=if z1r ns bs k x (zx bs k)≠0 then z1r ns bs k x (zx bs k) else z3m ns bs (k+1) r.length:=by
    rw [zY0a,← hn]
    with_unfolding_all rfl
   rw [e1];have m1:=ztb x m;have m2:=ztb (zx bs (k:Int)).parent m;rw [hm] at m1 m2;have hth:=fun h=>z0jc (n:=x) hok (by omega) h
   have hsl:=z0f8 hok (by omega) (zx bs (k:Int));have hbd:=fun p h=>z0g9 (p:=p) (h:=h) hok
   have b1:=zet (zx bs (k:Int));have hS:z1r ns bs k x (zx bs (k:Int))=if x<1∨120<x then 3 else if zb (zx bs (k:Int))≠0 then zb (zx bs (k:Int)) else if z1o (ns.take k) x=true then 6 else z1t ns bs (zx bs (k:Int)) k:=by with_unfolding_all rfl
   have hgo:=fun (hz:z1r ns bs k x (zx bs (k:Int))=0)=>hag (zk2 x (zx bs (k:Int)).height m) ⟨fun y=>by
    have eh:hts ns bs (k+1)=(z10 ns k,(zx bs (k:Int)).height)::hts ns bs k:=by with_unfolding_all rfl
    have el:∀ (p:Int × Int) (l:List (Int × Int)),z3k (p::l) y=if y=p.1 then some p.2 else z3k l y:=fun p l=>by with_unfolding_all rfl
    rw [zvd,eh,el,hm,hn],fun j hj=>by
    by_cases hjk:j<k
    ·exact hok j hjk
    ·obtain rfl:j=k:=by omega
     rw [hn];exact hz⟩
   clear hag e1;generalize z1r ns bs k x (zx bs (k:Int))=S at *;generalize zx bs (k:Int)=B at *;generalize z3m ns bs (k+1) r.length=G at *
   by_cases c1:x<1
   ·rw [if_pos (.inl c1)] at hS
    subst hS;rw [if_pos (show (3:Int)≠0 by decide)]
    repeat' (first|refine dq1 ?_|refine dqc ?_|refine dqm ?_|exact z5 rfl rfl|refine dqT ?_|fail)
   by_cases c2:120<x
   ·rw [if_pos (.inr c2)] at hS
    subst hS;rw [if_pos (show (3:Int)≠0 by decide)]
    repeat' (first|refine dq1 ?_|refine dqc ?_|refine dqm ?_|exact z5 rfl rfl|refine dqT ?_|refine dqF ?_|fail)
   rw [if_neg (by omega)] at hS
   by_cases c3:zb B=0
   rotate_left
   ·rw [if_pos c3] at hS
    subst hS;rw [if_pos c3];generalize zb B=e at *
    repeat' (first|refine dq1 ?_|refine dqc ?_|refine dqm ?_|refine dqk rfl (b1) ?_|exact z5 rfl rfl|refine dqT ?_|refine dqF ?_|fail)
   rw [if_neg (fun z=>z c3)] at hS;rw [c3] at b1;have hth:=hth (by omega)
   cases hlx:z3k (hts ns bs k) x with
   | some v =>
    rw [hlx] at m1 hth;rw [← hth] at hS;simp only [Option.isSome_some,if_true] at hS;subst hS;rw [if_pos (show (6:Int)≠0 by decide)];simp only [zY1a] at m1
    repeat' (first|refine dq1 ?_|refine dqc ?_|refine dqm ?_|refine dqk rfl (b1) ?_|refine z3p (z0k (zt (d:=I v) rfl rfl (by rw [m1];rfl)) (z0k (z92 (b:=true) rfl rfl (by rw [m1];rfl)) z4t)) ?_ rfl|exact z5 rfl rfl|refine dqT ?_|refine dqF ?_|refine z0a rfl ?_|fail)
   | none =>
    rw [hlx] at m1 hth;rw [← hth] at hS;simp only [Option.isSome_none,zY0v,if_false] at hS;rw [hsl] at hS;simp only [zY3r] at m1
    cases hlp:z3k (hts ns bs k) B.parent with
    | none =>
     rw [hlp] at m2 hS;simp only [zY3r] at m2 hS;subst hS;rw [if_pos (show (5:Int)≠0 by decide)]
     repeat' (first|refine dq1 ?_|refine dqc ?_|refine dqm ?_|refine dqk rfl (b1) ?_|refine z3p (z0k (zt (d:=I 0) rfl rfl (by rw [m1];rfl)) (z0k (z92 (b:=false) rfl rfl (by rw [m1];rfl)) z4t)) ?_ rfl|refine z3p (z0k (zt (d:=I 0) rfl rfl (by rw [m2];rfl)) (z0k (z92 (b:=false) rfl rfl (by rw [m2];rfl)) z4t)) ?_ rfl|exact z5 rfl rfl|refine dqT ?_|refine dqF ?_|refine z0a rfl ?_|refine z0l rfl ?_|fail)
    | some h =>
     obtain ⟨q1,q2⟩:=hbd _ _ hlp;rw [hlp] at m2 hS;simp only [zY1a] at m2 hS
     by_cases c5:h+1=B.height
     ·rw [if_neg (fun z=>z c5)] at hS
      have hgo2:=hgo hS;clear hgo;subst hS;rw [if_neg (show ¬ (0:Int)≠0 by decide)]
      repeat' (first|refine dq1 ?_|refine dqc ?_|refine dqm ?_|refine dqk rfl (b1) ?_|refine z3p (z0k (zt (d:=I 0) rfl rfl (by rw [m1];rfl)) (z0k (z92 (b:=false) rfl rfl (by rw [m1];rfl)) z4t)) ?_ rfl|refine z3p (z0k (zt (d:=I h) rfl rfl (by rw [m2];rfl)) (z0k (z92 (b:=true) rfl rfl (by rw [m2];rfl)) z4t)) ?_ rfl|refine z4 (z3u (vs:=1) rfl rfl rfl ⟨rfl,rfl⟩ (z0b2 x B.height m)) ?_|exact z6 rfl rfl hgo2|refine dqT ?_|refine dqF ?_|refine z0l rfl ?_|fail)
     ·rw [if_pos c5] at hS
      subst hS;rw [if_pos (show (4:Int)≠0 by decide)]
      repeat' (first|refine dq1 ?_|refine dqc ?_|refine dqm ?_|refine dqk rfl (b1) ?_|refine z3p (z0k (zt (d:=I 0) rfl rfl (by rw [m1];rfl)) (z0k (z92 (b:=false) rfl rfl (by rw [m1];rfl)) z4t)) ?_ rfl|refine z3p (z0k (zt (d:=I h) rfl rfl (by rw [m2];rfl)) (z0k (z92 (b:=true) rfl rfl (by rw [m2];rfl)) z4t)) ?_ rfl|exact z5 rfl rfl|refine dqT ?_|refine dqF ?_|refine z0l rfl ?_|fail)
  ·rintro m - again
   have e1:z3m ns bs ns.length ([]:List Int).length=0:=by with_unfolding_all rfl
   rw [e1]
   repeat' (first|refine dq1 ?_|exact z5 rfl rfl|refine dqF ?_|fail)
end
attribute [local irreducible] z01 spD z19 idx z18 zkn zj zd zl z0ic
attribute [local irreducible] den denX z0g z0o
abbrev z0ql (n:Nat) (x:Tree × Int):Prop:=zl x.1=0∧z43 x.1.names x.2+1≤n
noncomputable def zk3 (n:Nat):za:=spD (z0ql n) fun x:Tree × Int=>z24 x.1 x.2
theorem zk4 (n:Nat) (ns:List Int) (bs:List Block) (m:Int) (h:zl ⟨ns,bs⟩=0) (hr:z43 ns m+1≤n):zk3 n [.l 1 (ns.map zk),.l 5 (bs.map z09),I m]=some [.l 1 ((z24 ⟨ns,bs⟩ m).1.map zk),.b (z24 ⟨ns,bs⟩ m).2]:=ze (p:=z0ql n) (f:=fun x:Tree × Int=>z24 x.1 x.2) (⟨ns,bs⟩,m) ⟨h,hr⟩
def z0f9:T :=
 .W [.idx 1 4 0] [] (.W [.call 123 [0,1,6] 0,.call 123 [0,1,6] 1] [] (.W [.mk 1 [[2]]] [] (.W [.app 1 7 9] [] (.ret [10,
 .v 8]))))
def z0fa:T :=
 .W [.call 77 [0,2] 0] [] (.W [.B .lss 4 (zI 0)] [] (.ite 5 (.ret [.c (.nil 1),.c (.b false)]) (.W [] [.inr 5 1 4] z0f9)))
def zk5:T :=
 .W [.B .eql 2 (zI 0)] [] (.ite 3 (.ret [.c (.nil 1),.c (.b true)]) z0fa)
attribute [local irreducible] z1c
theorem z0b4 (n:Nat) {sp_q:za} (m_q:Meets Tryz.prog sp_q 37 ⟨[.agg 2,.one],[(false,[.fresh 3 1]),(false,[.scal])],false⟩) (hq:∀ (ns:List Int) (bs:List Block) (m:Int),zl ⟨ns,bs⟩=0→z43 ns m+1≤n→sp_q [.l 1 (ns.map zk),.l 5 (bs.map z09),I m]=some [.l 1 ((z24 ⟨ns,bs⟩ m).1.map zk),.b (z24 ⟨ns,bs⟩ m).2]):Meets Tryz.prog ((zk3 (n+1))) 37 ⟨[.agg 2,.one],[(false,[.fresh 3 1]),(false,[.scal])],false⟩:=by
 refine zf (sp:=(zy [(77,z1c),(123,sp_q)])) (sigs:=z05) (cut:=[]) (hints:=[]) (fn:=Tryz.f37) (t:=zk5) (by kernel_rfl) (by kernel_rfl) (by kernel_rfl) ?_ ?_
 ·exact (zr (L:=[(77,z1c),(123,sp_q)]) ⟨z7 rfl z7s,z7 rfl m_q,trivial⟩)
 ·rintro ds rs - h
  obtain ⟨⟨⟨ns,bs⟩,m⟩,⟨ht,hr⟩,rfl,rfl⟩:=zg h;clear h;simp only at ht hr;refine ⟨⟨1,?_⟩,z1d ⟨rfl,trivial⟩⟩
  show den _ _ zk5 [.l 1 (ns.map zk),.l 5 (bs.map z09),I m] []=ret (z24 ⟨ns,bs⟩ m)
  have ok:=(z2j ns bs).1 ht;have a1:=z3f ns m;unfold zk5 z24;simp only
  by_cases h0:m=0
  ·subst h0
   rw [if_pos rfl]
   repeat' (first|refine dq1 ?_|exact z5 rfl rfl|refine z0a rfl ?_|fail)
  rw [if_neg h0]
  by_cases h1:idx ns m<0
  ·rw [if_pos h1]
   repeat' (first|refine dq1 ?_|refine dqk rfl (a1) ?_|exact z5 rfl rfl|refine dqT ?_|refine dqF ?_|fail)
  rw [if_neg h1];obtain ⟨s1,s2,s3⟩:=z5s ok (m:=m) (by omega);have hx:bs[(idx ns m).toNat]? = some (zx bs (idx ns m)):=by
   obtain ⟨j,hj,hjs⟩:=zg3 (by omega:0≤idx ns m);have hjl:=(zY02.1 hjs).1;have hlen:=ok.len;have hjb:j<bs.length:=by omega
   rw [hj];simp [zx,hjb]
  have hbl:0≤idx ns m∧idx ns m<(bs.length:Int):=by
   have:=(zY02.1 hx).1;omega
  have a2:=hq ns bs (z0p ns bs m) ht (by omega);have hle:=ok.le;have hpl:=zeo ok s2;rw [zcu (t:=⟨ns,bs⟩) s2] at a2;simp only at a2;unfold z0p at *;generalize zx bs (idx ns m)=b at *;rw [s1];generalize z19 ns bs b.parent=pl at *
  repeat' (first|refine dq1 ?_|refine dqc ?_|refine dqk rfl (a1) ?_|refine dqK rfl (a2) ?_|exact z5 rfl rfl|refine dqF ?_|fail)
theorem z0b5:∀ n:Nat,Meets Tryz.prog (zk3 (n+1)) 37 ⟨[.agg 2,.one],[(false,[.fresh 3 1]),(false,[.scal])],false⟩
 | 0=>z0b4 0 (z0u _ _) fun _ _ _ _ h=>absurd h (by omega)
 | n+1=>z0b4 (n+1) (z0b5 n) fun ns bs m h hr=>zk4 (n+1) ns bs m h hr
noncomputable def z5z:za:=spD (fun x:Tree × Int=>zl x.1=0) fun x=>z24 x.1 x.2
theorem zc6 (ns:List Int) (bs:List Block) (m:Int) (h:zl ⟨ns,bs⟩=0):z5z [.l 1 (ns.map zk),.l 5 (bs.map z09),I m]=some [.l 1 ((z24 ⟨ns,bs⟩ m).1.map zk),.b (z24 ⟨ns,bs⟩ m).2]:=ze (p:=fun x:Tree × Int=>zl x.1=0) (f:=fun x:Tree × Int=>z24 x.1 x.2) (⟨ns,bs⟩,m) h
theorem zve:Meets Tryz.prog z5z 37 ⟨[.agg 2,.one],[(false,[.fresh 3 1]),(false,[.scal])],false⟩:=by
 refine .mk rfl ?_;intro W F ds args rs hF hargs hsp;obtain ⟨⟨⟨ns,bs⟩,m⟩,ht,rfl,rfl⟩:=zg hsp;exact (z0b5 (z43 ns m)).1 rfl W F _ args _ hF hargs (zk4 _ ns bs m ht (zY0k _))
theorem z0b6 {k:Book} {l:List Coin} {b:Block} (h:(z18 k l b).2.2=0):zd (z18 k l b).1=0:=by
 have h':z18 k l b=((z18 k l b).1,(z18 k l b).2.1,0):=by rw [← h]
 exact (z12 _).2 (z0md h').2.2.1
theorem ztk:zd []=0:=by with_unfolding_all rfl
abbrev z0b7 (ts:List (List UInt8)) (t:Tree) (n:Int):Prop:=zj ⟨ts⟩=0∧zl t=0∧z6u t n
noncomputable def z8q:za:=spD (fun x:List (List UInt8) × Tree × Int=>z0b7 x.1 x.2.1 x.2.2) fun x=>z0y ⟨x.1⟩ x.2.1 x.2.2
theorem ztl (ts:List (List UInt8)) (t:Tree) (n:Int) (h:z0b7 ts t n):z8q [.l 1 (ts.map z0c),.l 1 (t.names.map zk),.l 5 (t.blocks.map z09),I n]=some [.l 6 ((z0y ⟨ts⟩ t n).1.map zh),I (z0y ⟨ts⟩ t n).2]:=ze (p:=fun x:List (List UInt8) × Tree × Int=>z0b7 x.1 x.2.1 x.2.2) (f:=fun x:List (List UInt8) × Tree × Int=>z0y ⟨x.1⟩ x.2.1 x.2.2) (ts,t,n) h
def z0b8:T :=
 .W [.B .neq 21 (zI 0)] [] (.ite 22 (.ret [.c (.nil 6),21]) (.W [.B .add 10 (zI 1)] [] (.again 0 [7,8,19,23])))
def z0b9:T :=
 .W [.call 119 [0,9,14,15,16,17,18] 0,.call 119 [0,9,14,15,16,17,18] 1,.call 119 [0,9,14,15,16,17,
 .v 18] 2] [] z0b8
def z0ba:T :=
 .W [] [.inr 5 2 13] (.W [.idx 2 13 0,.idx 2 13 1,.idx 2 13 2,.idx 2 13 3,.idx 2 13 4] [] z0b9)
def z0bb:T :=
 .ite 11 (.W [] [.inr 1 4 10] (.W [.idx 4 10 0] [] (.W [.call 77 [1,12] 0] [] z0ba))) (.ret [9,zI 0])
def zhj:T :=
 .W [.call 123 [1,2,3] 0,.call 123 [1,2,3] 1] [] (.W [.len 4] [] (.loop [.c (.nil 6),zI 0,.c (.nil 6),zI 0] (.W [.B .lss
 10 6] [] z0bb)))
attribute [local irreducible] z70 z5z
theorem z0jd:Meets Tryz.prog z8q 40 ⟨[.one,.agg 2,.one],[(false,[.pure]),(false,[.scal])],false⟩:=by
 refine zf (sp:=(zy [(77,z1c),(119,z70),(123,z5z)])) (sigs:=z05) (cut:=[]) (hints:=[⟨4,[.t 6,.t 7,.t 8,.t 24]⟩]) (fn:=Tryz.f40) (t:=zhj) (by kernel_rfl) (by kernel_rfl) (by kernel_rfl) ?_ ?_
 ·exact (zr (L:=[(77,z1c),(119,z70),(123,z5z)]) ⟨z7 rfl z7s,z7 rfl z0az,z7 rfl zve,trivial⟩)
 ·rintro ds rs - h
  obtain ⟨⟨ts,⟨ns,bs⟩,n⟩,⟨hb,ht,hn⟩,rfl,rfl⟩:=zg h;clear h;simp only at hb ht hn;refine ⟨⟨100,?_⟩,z1d ⟨rfl,trivial⟩⟩
  show den _ _ zhj [.l 1 (ts.map z0c),.l 1 (ns.map zk),.l 5 (bs.map z09),I n] []=ret (z0y ⟨ts⟩ ⟨ns,bs⟩ n)
  have ok:=(z2j ns bs).1 ht;have a1:=zc6 ns bs n ht;rw [zcu hn] at a1;have hpl:=zeo ok hn;have hin:=z060 ok hn;have e:z0y ⟨ts⟩ ⟨ns,bs⟩ n=z4d ⟨ts⟩ ⟨ns,bs⟩ [] (z19 ns bs n):=by
   unfold z0y z3s;rw [if_neg (show ¬ zj ⟨ts⟩≠0 from fun k=>k hb),z0b1 ht hn];exact if_neg (fun k=>k rfl)
  rw [e];simp only at a1;unfold zhj;generalize z19 ns bs n=pl at *
  repeat' (first|refine dq1 ?_|refine dqK rfl (a1) ?_|fail)
  (refine zn (fun (l:List Coin) k=>[.l 6 [],I 0,.l 6 (l.map zh),I k]) (fun (l:List Coin) _ (r:List Int)=>z4d ⟨ts⟩ ⟨ns,bs⟩ l r) (fun l k=>zd l=0) [] pl ?_ ?_ ?_ ?_ ?_;rfl;exact ztk;omega)
  ·rintro l i x r hx hd hk hl again hag
   have hxi:=hin x (zY07 hx);obtain ⟨-,-,e2⟩:=zx7 (t:=⟨ns,bs⟩) ok hxi;have a2:=z3f ns x;have hxb:bs[(idx ns x).toNat]? = some (zx bs (idx ns x)):=by
    obtain ⟨j,hj,hjs⟩:=zg3 hxi;have hjl:=(zY02.1 hjs).1;have hlen:=ok.len;have hjb:j<bs.length:=by omega
    rw [hj];simp [zx,hjb]
   have hbl:0≤idx ns x∧idx ns x<(bs.length:Int):=by
    have:=(zY02.1 hxb).1;omega
   rw [z4d,e2];simp only;generalize zx bs (idx ns x)=b at *;have a3:=zmw ts l b hb hl;have hcr:=z0b6 (k:=⟨ts⟩) (l:=l) (b:=b);generalize z18 ⟨ts⟩ l b=q at *;obtain ⟨q1,q2,q3⟩:=q;simp only at a3 hcr ⊢
   by_cases hq:q3=0
   ·have hag:=hag q1 (hcr hq)
    repeat' (first|refine dq1 ?_|refine dqc ?_|refine dqm ?_|refine dqk rfl (a2) ?_|refine dqK rfl (a3) ?_|exact z6 rfl rfl hag|exact z5 rfl rfl|refine tR (fun h=>?_) fun h=>?_|refine dqT ?_|fail)
   ·rw [if_pos hq]
    repeat' (first|refine dq1 ?_|refine dqc ?_|refine dqm ?_|refine dqk rfl (a2) ?_|refine dqK rfl (a3) ?_|exact z5 rfl rfl|refine dqT ?_|fail)
  ·rintro l hl again
   rw [z4d]
   repeat' (first|refine dq1 ?_|exact z5 rfl rfl|refine dqF ?_|fail)
end
section
open Go.RowKit
open Go.Lib (itoa)
set_option maxRecDepth 100000
set_option maxHeartbeats 4000000
def zfg (parent height work n:Int):Block:=⟨parent,height,work,0,[⟨height,[],[⟨n,[]⟩]⟩]⟩
attribute [local irreducible] den denX z0g z0o
noncomputable def zai:za:=spD (fun _:Int × Int × Int × Int=>True) fun x=>zfg x.1 x.2.1 x.2.2.1 x.2.2.2
theorem zi5 (a b c d:Int):zai [I a,I b,I c,I d]=some [I (zfg a b c d).parent,I (zfg a b c d).height,I (zfg a b c d).work,I (zfg a b c d).nonce,.l 3 ((zfg a b c d).txs.map eTx)]:=ze (f:=fun x:Int × Int × Int × Int=>zfg x.1 x.2.1 x.2.2.1 x.2.2.2) (a,b,c,d) trivial
attribute [local irreducible] z01 spD
def zk6:T :=
 .W [.mk 2 [[3,.c (.nil 2)]]] [] (.W [.mk 3 [[1,.c (.nil 3),4]]] [] (.ret [0,1,2,zI 0,5]))
theorem z0n8:Meets Tryz.prog zai 85 ⟨[.one,.one,.one,.one],[(true,[.scal,.scal,.scal,.scal,.pure])],false⟩:=by
 refine zf (sp:=(zy [])) (sigs:=z05) (cut:=[]) (hints:=[]) (fn:=Tryz.f85) (t:=zk6) (by kernel_rfl) (by kernel_rfl) (by kernel_rfl) ?_ ?_
 ·exact (zr (L:=[]) trivial)
 ·rintro ds rs - h
  obtain ⟨⟨a,b,c,d⟩,-,rfl,rfl⟩:=zg h;clear h;refine ⟨⟨1,?_⟩,z1d ⟨rfl,rfl,rfl,rfl,trivial⟩⟩
  show den _ _ zk6 [I a,I b,I c,I d] []=ret (zfg a b c d)
  unfold zk6
  repeat' (first|refine z4 (z1m rfl rfl (by simp)) ?_|exact z5 rfl rfl|fail)
def ch1:Block:=zfg 0 1 1 5
def ch2:Block:=zfg 2 2 1 7
def chB1:Book:=⟨(z08 ⟨[]⟩ ch1).1⟩
def chB2:Book:=⟨(z08 chB1 ch2).1⟩
theorem ch_n1:(z08 ⟨[]⟩ ch1).2.1=2∧(z08 ⟨[]⟩ ch1).2.2.2=0:=by with_unfolding_all decide +kernel
theorem ch_n2:(z08 chB1 ch2).2.1=4∧(z08 chB1 ch2).2.2.2=0:=by with_unfolding_all decide +kernel
def chT1:Tree:=⟨[2],[ch1]⟩
def zmy:Tree:=⟨[2,4],[ch1,ch2]⟩
theorem ch_t1:z4g ⟨[],[]⟩ 2 ch1=chT1∧z4f ⟨[],[]⟩ 2 ch1=0:=by with_unfolding_all decide +kernel
theorem ch_t2:z4g chT1 4 ch2=zmy∧z4f chT1 4 ch2=0:=by with_unfolding_all decide +kernel
theorem ch_coins:(z0y chB2 zmy 4).1.length=2∧(z0y chB2 zmy 4).2=0:=by with_unfolding_all decide +kernel
theorem z0q0:z3t zmy 2 4=(1,0):=by with_unfolding_all decide +kernel
noncomputable def z8r:za:=spD (fun _:Unit=>True) fun _=>true
theorem ztm:z8r []=some [.b true]:=ze (f:=fun _:Unit=>true) () trivial
attribute [local irreducible] z0v z08 z18 z0y z3t z4g z4f z3x za9 z4q z5u
def z0bc:T :=
 .W [.len 34] [] (.W [.B .eql 44 (zI 2)] [] (.ite 45 (.W [.B .eql 36 (zI 1)] [] (.ret [46])) (.ret [.c (.b false)])))
def z0bd:T :=
 .W [.B .eql 35 (zI 0)] [] (.ite 42 (.W [.B .eql 37 (zI 0)] [] (.ite 43 z0bc (.ret [.c (.b false)]))) (.ret [.c (.b
 false)]))
def z0be:T :=
 .W [.B .eql 25 (zI 0)] [] (.ite 40 (.W [.B .eql 33 (zI 0)] [] (.ite 41 z0bd (.ret [.c (.b false)]))) (.ret [.c (.b
 false)]))
def z0bf:T :=
 .W [.B .eql 8 (zI 0)] [] (.ite 38 (.W [.B .eql 17 (zI 0)] [] (.ite 39 z0be (.ret [.c (.b false)]))) (.ret [.c (.b false)]))
def z0bg:T :=
 .W [.call 85 [14,31,32,15] 0,.call 85 [14,31,32,15] 1] [] (.W [.call 88 [31,32,6,15] 0,.call 88 [31,32,6,15] 1]
 [] z0bf)
def z0bh:T :=
 .W [.call 80 [23,24,15,26,27,28,29,30] 0,.call 80 [23,24,15,26,27,28,29,30] 1,.call 80 [23,24,15,.v
 26,27,28,29,30] 2] [] z0bg
def z0bi:T :=
 .W [.call 93 [6,zI 2,zI 1,zI 7] 0,.call 93 [6,zI 2,zI 1,zI 7] 1,.call 93 [6,zI 2,.c (.i
 .i64 1),zI 7] 2,.call 93 [6,zI 2,zI 1,zI 7] 3,.call 93 [6,zI 2,zI 1,zI 7] 4] [] z0bh
def z0bj:T :=
 .W [.call 80 [.c (.nil 1),.c (.nil 5),6,18,19,20,21,22] 0,.call 80 [.c (.nil 1),.c (.nil 5),6,18,19,20,21,22] 1,.call 80 [.c
 (.nil 1),.c (.nil 5),6,18,19,20,21,22] 2] [] z0bi
def z0bk:T :=
 .W [.call 93 [zI 0,zI 1,zI 1,zI 5] 0,.call 93 [zI 0,zI 1,zI 1,zI 5] 1,.call 93 [.c (.i
 .i64 0),zI 1,zI 1,zI 5] 2,.call 93 [zI 0,zI 1,zI 1,zI 5] 3,.call 93 [zI 0,zI 1,.c
 (.i .i64 1),zI 5] 4] [] z0bj
def z0bl:T :=
 .W [.call 65 [5,9,10,11,12,13] 0,.call 65 [5,9,10,11,12,13] 1,.call 65 [5,9,10,11,12,13] 2,.call 65 [5,
 .v 9,10,11,12,13] 3] [] z0bk
def z011:T :=
 .W [.call 93 [6,zI 2,zI 1,zI 7] 0,.call 93 [6,zI 2,zI 1,zI 7] 1,.call 93 [6,zI 2,.c (.i
 .i64 1),zI 7] 2,.call 93 [6,zI 2,zI 1,zI 7] 3,.call 93 [6,zI 2,zI 1,zI 7] 4] [] z0bl
def z012:T :=
 .W [.call 65 [.c (.nil 1),0,1,2,3,4] 0,.call 65 [.c (.nil 1),0,1,2,3,4] 1,.call 65 [.c (.nil 1),0,1,2,3,4] 2,.call
 65 [.c (.nil 1),0,1,2,3,4] 3] [] z011
def zhk:T :=
 .W [.call 93 [zI 0,zI 1,zI 1,zI 5] 0,.call 93 [zI 0,zI 1,zI 1,zI 5] 1,.call 93 [.c (.i
 .i64 0),zI 1,zI 1,zI 5] 2,.call 93 [zI 0,zI 1,zI 1,zI 5] 3,.call 93 [zI 0,zI 1,.c
 (.i .i64 1),zI 5] 4] [] z012
attribute [local irreducible] zai
theorem z0jf:Meets Tryz.prog z8r 36 ⟨[],[(false,[.scal])],true⟩:=by
 refine zf (sp:=(zy [(65,z3x),(80,za9),(85,z4q),(88,z5u),(93,zai)])) (sigs:=z05) (cut:=[]) (hints:=[]) (fn:=Tryz.f36) (t:=zhk) (by kernel_rfl) (by kernel_rfl) (by kernel_rfl) ?_ ?_
 ·exact (zr (L:=[(65,z3x),(80,za9),(85,z4q),(88,z5u),(93,zai)]) ⟨z7 rfl zpq,z7 rfl z0lv,z7 rfl zv1,z7 rfl zv2,z7 rfl z0n8,trivial⟩)
 ·rintro ds rs - h
  obtain ⟨⟨⟩,-,rfl,rfl⟩:=zg h;clear h;refine ⟨⟨1,?_⟩,z04 rfl⟩
  show den _ _ zhk [] []=ret true
  have b1:=zi5 0 1 1 5;have b2:=zi5 2 2 1 7;have a1:=zay ⟨[]⟩ ch1;rw [show (z08 ⟨[]⟩ ch1).1=chB1.texts from rfl,ch_n1.1,ch_n1.2] at a1;have a2:=zay chB1 ch2;rw [show (z08 chB1 ch2).1=chB2.texts from rfl,ch_n2.1,ch_n2.2] at a2;have a3:=zht ⟨[],[]⟩ 2 ch1;rw [ch_t1.1,ch_t1.2] at a3;have a4:=zht chT1 4 ch2;rw [ch_t2.1,ch_t2.2] at a4;have a5:=zhw chB2 zmy 4;rw [ch_coins.2] at a5;have hl:=ch_coins.1;have a6:=zhx zmy 2 4;rw [z0q0] at a6;generalize (z0y chB2 zmy 4).1=l at *;generalize chB2=k2 at *;generalize chB1=k1 at *;generalize (z08 ⟨[]⟩ ch1).2.2.1=ns1 at *;generalize (z08 k1 ch2).2.2.1=ns2 at *;unfold zhk
  repeat' (first|refine dq1 ?_|refine dqK rfl (b1) ?_|refine dqK rfl (b2) ?_|refine dqK rfl (a1) ?_|refine dqK rfl (a2) ?_|refine dqK rfl (a3) ?_|refine dqK rfl (a4) ?_|refine dqK rfl (a5) ?_|refine dqK rfl (a6) ?_|exact z5 rfl rfl|refine dqT ?_|refine z0a rfl ?_|fail)
end
section
open Go.RowKit
open Go.Lib (itoa)
set_option maxRecDepth 100000
set_option maxHeartbeats 8000000
theorem zhl {k:Book} {t:Tree} {n:Int} (h:zj k≠0):z0y k t n=([],zj k):=by
 unfold z0y z3s;rw [if_pos h,if_pos h]
theorem z0q1 {k:Book} {t:Tree} {n:Int} (hk:zj k=0) (h:zl t≠0):z0y k t n=([],zl t):=by
 unfold z0y z3s;rw [if_neg (show ¬ zj k≠0 from fun x=>x hk),zvc h,if_pos h]
theorem zk7 {k:Book} {t:Tree} {n:Int} (hk:zj k=0) (ht:zl t=0) (h:¬ z6u t n):z0y k t n=([],5):=by
 unfold z0y z3s;rw [if_neg (show ¬ zj k≠0 from fun x=>x hk),zvb ht h,if_pos (show (5:Int)≠0 by decide)]
theorem z0q2 {t:Tree} {n m:Int} (h:zl t≠0):z3t t n m=(0,zl t):=by
 unfold z3t;rw [zvc h,if_pos h]
theorem z0n9 {t:Tree} {n m:Int} (ht:zl t=0) (h:¬ z6u t m):z3t t n m=(0,5):=by
 unfold z3t;rw [zvb ht h,if_pos (show (5:Int)≠0 by decide)]
theorem z0q3 {t:Tree} {n m:Int} (ht:zl t=0) (h:z6u t m):z3t t n m=if idx (z19 t.names t.blocks m) n<0 then (0,5) else (((z19 t.names t.blocks m).length:Int) - 1 - idx (z19 t.names t.blocks m) n,0):=by
 unfold z3t;rw [z0b1 ht h];exact if_neg fun k=>k rfl
attribute [local irreducible] z01 spD z0y z3t zj zl zd z19 idx z1o z6u z24
attribute [local irreducible] den denX z0g z0o
noncomputable def ztn:za:=spD (fun _:Book × Tree × Int × Int=>True) fun _=>true
def zex:T :=
 .W [.B .eql 6 (zI 5)] [] (.ite 24 (.W [.len 5] [] (.W [.B .eql 25 (zI 0)] [] (.ret [26]))) (.ret [.c (.b false)]))
def zr0:T :=
 .W [.B .eql 6 18] [] (.ite 25 (.W [.len 5] [] (.W [.B .eql 26 (zI 0)] [] (.ret [27]))) (.ret [.c (.b false)]))
def zaj:T :=
 .W [.call 124 [0,1,2,3] 0,.call 124 [0,1,2,3] 1] [] (.W [.B .eql 6 26] [] (.ite 27 (.W [.call 26 [5,25] 0] [] (.ret
 [28])) (.ret [.c (.b false)])))
def zr1:T :=
 .W [.call 123 [1,2,3] 0,.call 123 [1,2,3] 1] [] (.W [.not 22] [] (.ite 23 zex (.W [.B .neq 18 (zI 0)] [] (.ite
 24 zr0 zaj))))
def zr2:T :=
 .W [.B .eql 6 18] [] (.ite 22 (.W [.len 5] [] (.W [.B .eql 23 (zI 0)] [] (.ret [24]))) (.ret [.c (.b false)]))
def zey:T :=
 .W [.call 124 [0,1,2,3] 0,.call 124 [0,1,2,3] 1] [] (.W [.B .eql 6 23] [] (.ite 24 (.W [.call 26 [5,22] 0] [] (.ret
 [25])) (.ret [.c (.b false)])))
def zr3:T :=
 .W [.B .eql 18 (zI 0)] [] (.ite 20 zr1 (.W [.B .neq 18 (zI 0)] [] (.ite 21 zr2 zey)))
def zez:T :=
 .ite 24 (.W [.B .eql 6 9] [] (.ite 25 (.W [.len 5] [] (.W [.B .eql 26 (zI 0)] [] (.ret [27]))) (.ret [.c (.b false)])))
 zaj
def zr4:T :=
 .W [.call 123 [1,2,3] 0,.call 123 [1,2,3] 1] [] (.W [.not 22] [] (.ite 23 zex (.W [.B .neq 9 (zI 0)] []
 zez)))
def zr5:T :=
 .ite 21 (.W [.B .eql 6 9] [] (.ite 22 (.W [.len 5] [] (.W [.B .eql 23 (zI 0)] [] (.ret [24]))) (.ret [.c (.b false)])))
 zey
def zmz:T :=
 .ite 19 zr3 (.W [.B .eql 9 (zI 0)] [] (.ite 20 zr4 (.W [.B .neq 9 (zI 0)] [] zr5)))
def zn0:T :=
 .W [.B .neq 7 (zI 0)] [] (.ite 17 (.ret [.c (.b false)]) (.W [.call 111 [0] 0] [] (.W [.B .neq 18 (zI 0)] [] zmz)))
def zdz:T :=
 .W [.B .eql 6 (zI 5)] [] (.ite 25 (.W [.len 5] [] (.W [.B .eql 26 (zI 0)] [] (.ret [27]))) (.ret [.c (.b false)]))
def zn1:T :=
 .W [.B .eql 6 19] [] (.ite 26 (.W [.len 5] [] (.W [.B .eql 27 (zI 0)] [] (.ret [28]))) (.ret [.c (.b false)]))
def ze0:T :=
 .W [.call 124 [0,1,2,3] 0,.call 124 [0,1,2,3] 1] [] (.W [.B .eql 6 27] [] (.ite 28 (.W [.call 26 [5,26] 0] [] (.ret
 [29])) (.ret [.c (.b false)])))
def zn2:T :=
 .W [.call 123 [1,2,3] 0,.call 123 [1,2,3] 1] [] (.W [.not 23] [] (.ite 24 zdz (.W [.B .neq 19 (zI 0)] []
 (.ite 25 zn1 ze0))))
def zn3:T :=
 .W [.B .eql 6 19] [] (.ite 23 (.W [.len 5] [] (.W [.B .eql 24 (zI 0)] [] (.ret [25]))) (.ret [.c (.b false)]))
def z93:T :=
 .W [.call 124 [0,1,2,3] 0,.call 124 [0,1,2,3] 1] [] (.W [.B .eql 6 24] [] (.ite 25 (.W [.call 26 [5,23] 0] [] (.ret
 [26])) (.ret [.c (.b false)])))
def zn4:T :=
 .W [.B .eql 19 (zI 0)] [] (.ite 21 zn2 (.W [.B .neq 19 (zI 0)] [] (.ite 22 zn3 z93)))
def zn5:T :=
 .ite 25 (.W [.B .eql 6 9] [] (.ite 26 (.W [.len 5] [] (.W [.B .eql 27 (zI 0)] [] (.ret [28]))) (.ret [.c (.b false)])))
 ze0
def zn6:T :=
 .W [.call 123 [1,2,3] 0,.call 123 [1,2,3] 1] [] (.W [.not 23] [] (.ite 24 zdz (.W [.B .neq 9 (zI 0)] []
 zn5)))
def ze1:T :=
 .ite 22 (.W [.B .eql 6 9] [] (.ite 23 (.W [.len 5] [] (.W [.B .eql 24 (zI 0)] [] (.ret [25]))) (.ret [.c (.b false)])))
 z93
def zn7:T :=
 .ite 20 zn4 (.W [.B .eql 9 (zI 0)] [] (.ite 21 zn6 (.W [.B .neq 9 (zI 0)] [] ze1)))
def zn8:T :=
 .W [.B .neq 7 (zI 0)] [] (.ite 18 (.ret [.c (.b false)]) (.W [.call 111 [0] 0] [] (.W [.B .neq 19 (zI 0)] [] zn7)))
def ze2:T :=
 .W [.B .eql 6 (zI 5)] [] (.ite 27 (.W [.len 5] [] (.W [.B .eql 28 (zI 0)] [] (.ret [29]))) (.ret [.c (.b false)]))
def zn9:T :=
 .W [.B .eql 6 21] [] (.ite 28 (.W [.len 5] [] (.W [.B .eql 29 (zI 0)] [] (.ret [30]))) (.ret [.c (.b false)]))
def ze3:T :=
 .W [.call 124 [0,1,2,3] 0,.call 124 [0,1,2,3] 1] [] (.W [.B .eql 6 29] [] (.ite 30 (.W [.call 26 [5,28] 0] [] (.ret
 [31])) (.ret [.c (.b false)])))
def zna:T :=
 .W [.call 123 [1,2,3] 0,.call 123 [1,2,3] 1] [] (.W [.not 25] [] (.ite 26 ze2 (.W [.B .neq 21 (zI 0)] []
 (.ite 27 zn9 ze3))))
def znb:T :=
 .W [.B .eql 6 21] [] (.ite 25 (.W [.len 5] [] (.W [.B .eql 26 (zI 0)] [] (.ret [27]))) (.ret [.c (.b false)]))
def znc:T :=
 .W [.B .eql 21 (zI 0)] [] (.ite 23 zna (.W [.B .neq 21 (zI 0)] [] (.ite 24 znb zaj)))
def znd:T :=
 .ite 27 (.W [.B .eql 6 9] [] (.ite 28 (.W [.len 5] [] (.W [.B .eql 29 (zI 0)] [] (.ret [30]))) (.ret [.c (.b false)])))
 ze3
def zne:T :=
 .W [.call 123 [1,2,3] 0,.call 123 [1,2,3] 1] [] (.W [.not 25] [] (.ite 26 ze2 (.W [.B .neq 9 (zI 0)] []
 znd)))
def znf:T :=
 .ite 22 znc (.W [.B .eql 9 (zI 0)] [] (.ite 23 zne (.W [.B .neq 9 (zI 0)] [] zez)))
def zng:T :=
 .W [.B .neq 7 (zI 0)] [] (.ite 20 (.ret [.c (.b false)]) (.W [.call 111 [0] 0] [] (.W [.B .neq 21 (zI 0)] [] znf)))
def ze4:T :=
 .W [.B .eql 6 (zI 5)] [] (.ite 31 (.W [.len 5] [] (.W [.B .eql 32 (zI 0)] [] (.ret [33]))) (.ret [.c (.b false)]))
def znh:T :=
 .W [.B .eql 6 25] [] (.ite 32 (.W [.len 5] [] (.W [.B .eql 33 (zI 0)] [] (.ret [34]))) (.ret [.c (.b false)]))
def ze5:T :=
 .W [.call 124 [0,1,2,3] 0,.call 124 [0,1,2,3] 1] [] (.W [.B .eql 6 33] [] (.ite 34 (.W [.call 26 [5,32] 0] [] (.ret
 [35])) (.ret [.c (.b false)])))
def zni:T :=
 .W [.call 123 [1,2,3] 0,.call 123 [1,2,3] 1] [] (.W [.not 29] [] (.ite 30 ze4 (.W [.B .neq 25 (zI 0)] []
 (.ite 31 znh ze5))))
def znj:T :=
 .W [.B .eql 6 25] [] (.ite 29 (.W [.len 5] [] (.W [.B .eql 30 (zI 0)] [] (.ret [31]))) (.ret [.c (.b false)]))
def ze6:T :=
 .W [.call 124 [0,1,2,3] 0,.call 124 [0,1,2,3] 1] [] (.W [.B .eql 6 30] [] (.ite 31 (.W [.call 26 [5,29] 0] [] (.ret
 [32])) (.ret [.c (.b false)])))
def znk:T :=
 .W [.B .eql 25 (zI 0)] [] (.ite 27 zni (.W [.B .neq 25 (zI 0)] [] (.ite 28 znj ze6)))
def znl:T :=
 .ite 31 (.W [.B .eql 6 9] [] (.ite 32 (.W [.len 5] [] (.W [.B .eql 33 (zI 0)] [] (.ret [34]))) (.ret [.c (.b false)])))
 ze5
def znm:T :=
 .W [.call 123 [1,2,3] 0,.call 123 [1,2,3] 1] [] (.W [.not 29] [] (.ite 30 ze4 (.W [.B .neq 9 (zI 0)] []
 znl)))
def znn:T :=
 .ite 28 (.W [.B .eql 6 9] [] (.ite 29 (.W [.len 5] [] (.W [.B .eql 30 (zI 0)] [] (.ret [31]))) (.ret [.c (.b false)])))
 ze6
def zno:T :=
 .ite 26 znk (.W [.B .eql 9 (zI 0)] [] (.ite 27 znm (.W [.B .neq 9 (zI 0)] [] znn)))
def znp:T :=
 .W [.B .neq 7 23] [] (.ite 24 (.ret [.c (.b false)]) (.W [.call 111 [0] 0] [] (.W [.B .neq 25 (zI 0)] [] zno)))
def znq:T :=
 .W [.len 13] [] (.W [.B .sub 20 (zI 1)] [] (.W [.call 77 [13,3] 0] [] (.W [.B .sub 21 22] [] znp)))
def znr:T :=
 .ite 18 (.W [.B .neq 8 (zI 5)] [] (.ite 19 (.ret [.c (.b false)]) zng)) (.W [.B .neq 8 (zI 0)] [] (.ite 19 (.ret
 [.c (.b false)]) znq))
def zns:T :=
 .ite 16 (.W [.B .neq 8 (zI 5)] [] (.ite 17 (.ret [.c (.b false)]) zn8)) (.W [.call 101 [13,3] 0] [] (.W [.not 17] []
 znr))
def znt:T :=
 .W [.B .neq 9 (zI 0)] [] (.ite 15 (.W [.B .neq 8 9] [] (.ite 16 (.ret [.c (.b false)]) zn0)) (.W [.not 14] []
 zns))
def ze7:T :=
 .W [.B .eql 6 (zI 5)] [] (.ite 22 (.W [.len 5] [] (.W [.B .eql 23 (zI 0)] [] (.ret [24]))) (.ret [.c (.b false)]))
def znu:T :=
 .W [.B .eql 6 16] [] (.ite 23 (.W [.len 5] [] (.W [.B .eql 24 (zI 0)] [] (.ret [25]))) (.ret [.c (.b false)]))
def znv:T :=
 .W [.call 123 [1,2,3] 0,.call 123 [1,2,3] 1] [] (.W [.not 20] [] (.ite 21 ze7 (.W [.B .neq 16 (zI 0)] []
 (.ite 22 znu z93))))
def znw:T :=
 .W [.B .eql 6 16] [] (.ite 20 (.W [.len 5] [] (.W [.B .eql 21 (zI 0)] [] (.ret [22]))) (.ret [.c (.b false)]))
def ze8:T :=
 .W [.call 124 [0,1,2,3] 0,.call 124 [0,1,2,3] 1] [] (.W [.B .eql 6 21] [] (.ite 22 (.W [.call 26 [5,20] 0] [] (.ret
 [23])) (.ret [.c (.b false)])))
def znx:T :=
 .W [.B .eql 16 (zI 0)] [] (.ite 18 znv (.W [.B .neq 16 (zI 0)] [] (.ite 19 znw ze8)))
def zny:T :=
 .W [.call 123 [1,2,3] 0,.call 123 [1,2,3] 1] [] (.W [.not 20] [] (.ite 21 ze7 (.W [.B .neq 9 (zI 0)] []
 ze1)))
def znz:T :=
 .ite 19 (.W [.B .eql 6 9] [] (.ite 20 (.W [.len 5] [] (.W [.B .eql 21 (zI 0)] [] (.ret [22]))) (.ret [.c (.b false)])))
 ze8
def zo0:T :=
 .ite 17 znx (.W [.B .eql 9 (zI 0)] [] (.ite 18 zny (.W [.B .neq 9 (zI 0)] [] znz)))
def ze9:T :=
 .W [.B .neq 7 (zI 0)] [] (.ite 15 (.ret [.c (.b false)]) (.W [.call 111 [0] 0] [] (.W [.B .neq 16 (zI 0)] [] zo0)))
def zo1:T :=
 .ite 13 (.W [.B .neq 8 9] [] (.ite 14 (.ret [.c (.b false)]) ze9)) (.W [.B .neq 8 (zI 5)] [] (.ite 14 (.ret [.c (.b
 false)]) ze9))
def zo2:T :=
 .ite 12 (.W [.call 123 [1,2,4] 0,.call 123 [1,2,4] 1] [] znt) (.W [.B .neq 9 (zI 0)] [] zo1)
def zo3:T :=
 .W [.call 122 [1,2] 0] [] (.W [.call 94 [] 0] [] (.W [.not 10] [] (.ite 11 (.ret [.c (.b false)]) (.W [.B .eql 9 (zI 0)] []
 zo2))))
def zc7:T :=
 .W [.call 85 [0,1,2,3] 0,.call 85 [0,1,2,3] 1] [] (.W [.call 88 [1,2,3,4] 0,.call 88 [1,2,3,4] 1] []
 zo3)
attribute [local irreducible] z4q z5u z1c z56 z8r z6x z71 z8q z5z z5k
theorem z013:Meets Tryz.prog ztn 6 ⟨[.agg 1,.agg 2,.one,.one],[(false,[.scal])],true⟩:=by
 refine zf (sp:=(zy [(26,z5k),(77,z1c),(85,z4q),(88,z5u),(94,z8r),(101,z56),(111,z6x),(122,z71),(123,z5z),(124,z8q)])) (sigs:=z05) (cut:=[]) (hints:=[]) (fn:=Tryz.f6) (t:=zc7) (by kernel_rfl) (by kernel_rfl) (by kernel_rfl) ?_ ?_
 ·exact (zr (L:=[(26,z5k),(77,z1c),(85,z4q),(88,z5u),(94,z8r),(101,z56),(111,z6x),(122,z71),(123,z5z),(124,z8q)]) ⟨z7 rfl z05v,z7 rfl z7s,z7 rfl zv1,z7 rfl zv2,z7 rfl z0jf,z7 rfl zkm,z7 rfl z087,z7 rfl z0b3,z7 rfl zve,z7 rfl z0jd,trivial⟩)
 ·rintro ds rs - h
  obtain ⟨⟨k,⟨ns,bs⟩,n,m⟩,-,rfl,rfl⟩:=zg h;clear h;refine ⟨⟨1,?_⟩,z04 rfl⟩
  show den _ _ zc7 [.l 1 (k.texts.map z0c),.l 1 (ns.map zk),.l 5 (bs.map z09),I n,I m] []=ret true
  have a1:=zhw k ⟨ns,bs⟩ n;have a2:=zhx ⟨ns,bs⟩ n m;have a3:=zmx ⟨ns,bs⟩;have a4:=ztm;have a5:=zml k;have z3:([]:List Coin).length=0:=rfl;unfold zc7
  by_cases ht:zl ⟨ns,bs⟩=0
  rotate_left
  ·rw [z0q2 ht] at a2
   by_cases hk:zj k=0
   ·rw [z0q1 hk ht] at a1
    rw [hk] at a5;generalize zl ⟨ns,bs⟩=e at *
    repeat' (first|refine dq1 ?_|refine dqK rfl (a1) ?_|refine dqK rfl (a2) ?_|refine dqk rfl (a3) ?_|refine dqk rfl (a4) ?_|refine dqk rfl (a5) ?_|exact z5 rfl rfl|refine dqT ?_|refine dqF ?_|refine z0a rfl ?_|refine z0l rfl ?_|fail)
   ·rw [zhl hk] at a1
    generalize zl ⟨ns,bs⟩=e at *;generalize zj k=f at *
    repeat' (first|refine dq1 ?_|refine dqK rfl (a1) ?_|refine dqK rfl (a2) ?_|refine dqk rfl (a3) ?_|refine dqk rfl (a4) ?_|refine dqk rfl (a5) ?_|exact z5 rfl rfl|refine dqT ?_|refine dqF ?_|refine z0a rfl ?_|refine z0l rfl ?_|fail)
  rw [ht] at a3;have a6:=zc6 ns bs m ht;have a7:=zc6 ns bs n ht;have ok:=(z2j ns bs).1 ht;have hnt:z6u ⟨ns,bs⟩ n→z24 ⟨ns,bs⟩ n=(z19 ns bs n,true):=fun h=>zcu h
  have hnf:¬ z6u ⟨ns,bs⟩ n→z24 ⟨ns,bs⟩ n=([],false):=fun h=>zlj h
  have a10:=fun hk h=>ztl k.texts ⟨ns,bs⟩ n ⟨hk,ht,h⟩
  by_cases hm:z6u ⟨ns,bs⟩ m
  ·rw [zcu hm] at a6
   rw [z0q3 ht hm] at a2;have hpl:=zeo ok (by with_unfolding_all exact hm);simp only at a2 a6;generalize z19 ns bs m=p at *;have a8:=z8k p n;have a9:=z3f p n;have hmi:=zh1 p n;have hbd:=zfr p n
   by_cases hmem:z1o p n=true
   ·have h0:=hmi.1 hmem
    rw [if_neg (show ¬ idx p n<0 by omega)] at a2;rw [hmem] at a8;clear hmi;generalize idx p n=j at *
    by_cases hk:zj k=0
    rotate_left
    ·rw [zhl hk] at a1
     clear a10
     cases hq:(z24 ⟨ns,bs⟩ n).2 <;> rw [hq] at a7
     all_goals generalize zj k=f at *
     all_goals repeat' (first|refine dq1 ?_|refine dqK rfl (a1) ?_|refine dqK rfl (a2) ?_|refine dqk rfl (a3) ?_|refine dqk rfl (a4) ?_|refine dqk rfl (a5) ?_|refine dqK rfl (a6) ?_|refine dqk rfl (a8) ?_|refine dqk rfl (a9) ?_|exact z5 rfl rfl|refine dqT ?_|refine dqF ?_|refine z0a rfl ?_|refine z0l rfl ?_|fail)
    rw [hk] at a5
    by_cases hn:z6u ⟨ns,bs⟩ n
    ·rw [hnt hn] at a7
     have a10:=a10 hk hn;have e0:z0y ⟨k.texts⟩ ⟨ns,bs⟩ n=z0y k ⟨ns,bs⟩ n:=rfl;rw [e0] at a10;clear hnt hnf;generalize z0y k ⟨ns,bs⟩ n=w at *;obtain ⟨wl,we⟩:=w;simp only at a1 a10 a7;generalize z19 ns bs n=pn at *;have a11:=z8y wl wl;rw [decide_eq_true rfl] at a11
     repeat' (first|refine dq1 ?_|refine dqK rfl (a1) ?_|refine dqK rfl (a2) ?_|refine dqk rfl (a3) ?_|refine dqk rfl (a4) ?_|refine dqk rfl (a5) ?_|refine dqK rfl (a6) ?_|refine dqK rfl (a7) ?_|refine dqk rfl (a8) ?_|refine dqk rfl (a9) ?_|refine dqK rfl (a10) ?_|refine dqk rfl (a11) ?_|exact z5 rfl rfl|refine dqF ?_|refine z0a rfl ?_|refine z0l rfl ?_|fail)
    ·rw [hnf hn] at a7
     rw [zk7 hk ht hn] at a1;clear a10
     repeat' (first|refine dq1 ?_|refine dqK rfl (a1) ?_|refine dqK rfl (a2) ?_|refine dqk rfl (a3) ?_|refine dqk rfl (a4) ?_|refine dqk rfl (a5) ?_|refine dqK rfl (a6) ?_|refine dqK rfl (a7) ?_|refine dqk rfl (a8) ?_|refine dqk rfl (a9) ?_|exact z5 rfl rfl|refine dqF ?_|refine z0a rfl ?_|refine z0l rfl ?_|fail)
   ·have h0:idx p n<0:=Int.not_le.1 fun h=>hmem (hmi.2 h)
    rw [if_pos h0] at a2;rw [zY31] at hmem;rw [hmem] at a8;clear hmi;generalize idx p n=j at *
    by_cases hk:zj k=0
    rotate_left
    ·rw [zhl hk] at a1
     clear a10
     cases hq:(z24 ⟨ns,bs⟩ n).2 <;> rw [hq] at a7
     all_goals generalize zj k=f at *
     all_goals repeat' (first|refine dq1 ?_|refine dqK rfl (a1) ?_|refine dqK rfl (a2) ?_|refine dqk rfl (a3) ?_|refine dqk rfl (a4) ?_|refine dqk rfl (a5) ?_|refine dqK rfl (a6) ?_|refine dqk rfl (a8) ?_|exact z5 rfl rfl|refine dqT ?_|refine dqF ?_|refine z0a rfl ?_|refine z0l rfl ?_|fail)
    rw [hk] at a5
    by_cases hn:z6u ⟨ns,bs⟩ n
    ·rw [hnt hn] at a7
     have a10:=a10 hk hn;have e0:z0y ⟨k.texts⟩ ⟨ns,bs⟩ n=z0y k ⟨ns,bs⟩ n:=rfl;rw [e0] at a10;clear hnt hnf;generalize z0y k ⟨ns,bs⟩ n=w at *;obtain ⟨wl,we⟩:=w;simp only at a1 a10 a7;generalize z19 ns bs n=pn at *;have a11:=z8y wl wl;rw [decide_eq_true rfl] at a11
     repeat' (first|refine dq1 ?_|refine dqK rfl (a1) ?_|refine dqK rfl (a2) ?_|refine dqk rfl (a3) ?_|refine dqk rfl (a4) ?_|refine dqk rfl (a5) ?_|refine dqK rfl (a6) ?_|refine dqK rfl (a7) ?_|refine dqk rfl (a8) ?_|refine dqK rfl (a10) ?_|refine dqk rfl (a11) ?_|exact z5 rfl rfl|refine dqF ?_|refine z0a rfl ?_|refine z0l rfl ?_|fail)
    ·rw [hnf hn] at a7
     rw [zk7 hk ht hn] at a1;clear a10
     repeat' (first|refine dq1 ?_|refine dqK rfl (a1) ?_|refine dqK rfl (a2) ?_|refine dqk rfl (a3) ?_|refine dqk rfl (a4) ?_|refine dqk rfl (a5) ?_|refine dqK rfl (a6) ?_|refine dqK rfl (a7) ?_|refine dqk rfl (a8) ?_|exact z5 rfl rfl|refine dqF ?_|refine z0a rfl ?_|refine z0l rfl ?_|fail)
  ·rw [zlj hm] at a6
   rw [z0n9 ht hm] at a2;have a8:=z8k [] n;have a9:=z3f [] n
   by_cases hk:zj k=0
   rotate_left
   ·rw [zhl hk] at a1
    clear a10
    cases hq:(z24 ⟨ns,bs⟩ n).2 <;> rw [hq] at a7
    all_goals generalize zj k=f at *
    all_goals repeat' (first|refine dq1 ?_|refine dqK rfl (a1) ?_|refine dqK rfl (a2) ?_|refine dqk rfl (a3) ?_|refine dqk rfl (a4) ?_|refine dqk rfl (a5) ?_|refine dqK rfl (a6) ?_|exact z5 rfl rfl|refine dqT ?_|refine dqF ?_|refine z0a rfl ?_|refine z0l rfl ?_|fail)
   rw [hk] at a5
   by_cases hn:z6u ⟨ns,bs⟩ n
   ·rw [hnt hn] at a7
    have a10:=a10 hk hn;have e0:z0y ⟨k.texts⟩ ⟨ns,bs⟩ n=z0y k ⟨ns,bs⟩ n:=rfl;rw [e0] at a10;clear hnt hnf;generalize z0y k ⟨ns,bs⟩ n=w at *;obtain ⟨wl,we⟩:=w;simp only at a1 a10 a7;generalize z19 ns bs n=pn at *;have a11:=z8y wl wl;rw [decide_eq_true rfl] at a11
    repeat' (first|refine dq1 ?_|refine dqK rfl (a1) ?_|refine dqK rfl (a2) ?_|refine dqk rfl (a3) ?_|refine dqk rfl (a4) ?_|refine dqk rfl (a5) ?_|refine dqK rfl (a6) ?_|refine dqK rfl (a7) ?_|refine dqK rfl (a10) ?_|refine dqk rfl (a11) ?_|exact z5 rfl rfl|refine dqF ?_|refine z0a rfl ?_|refine z0l rfl ?_|fail)
   ·rw [hnf hn] at a7
    rw [zk7 hk ht hn] at a1;clear a10
    repeat' (first|refine dq1 ?_|refine dqK rfl (a1) ?_|refine dqK rfl (a2) ?_|refine dqk rfl (a3) ?_|refine dqk rfl (a4) ?_|refine dqk rfl (a5) ?_|refine dqK rfl (a6) ?_|refine dqK rfl (a7) ?_|exact z5 rfl rfl|refine dqF ?_|refine z0a rfl ?_|refine z0l rfl ?_|fail)
theorem chainCoins_walk (k:Book) (c_k:List Value) (t:Tree) (c_t:List Value) (name:Int) (tip:Int) (w:World) (h_k:shBook.rep w (Lt w.heap.size) k c_k) (h_t:shTree.rep w (Lt w.heap.size) t c_t) (name_0 : -9223372036854775808≤name) (name_1:name≤9223372036854775807) (tip_0 : -9223372036854775808≤tip) (tip_1:tip≤9223372036854775807) (hG:Glob w) :
  Calls Tryz.prog 6 #[.agg c_k.toArray,.agg c_t.toArray,.int .i64 name,.int .i64 tip] w fun e w'=>e = .returned (.bool true)∧Below w.heap.size w w' :=
 zkw (F:=Lt w.heap.size) (us:=[.agg c_k.toArray,.agg c_t.toArray,.int .i64 name,.int .i64 tip]) rfl (z1x (fn:=Tryz.f6) (by kernel_rfl) (by kernel_rfl) (by kernel_rfl)) z013 ⟨fun _ h=>h,hG⟩ (ze (f:=fun _=>true) (k,t,name,tip) trivial)
  (zon (d1:=zed k) (she_book.to h_k) rfl (zon (d1:=zb8 t) (she_tree.to h_t) rfl (zgq (.i _ _ (wrap_i64 ⟨name_0,name_1⟩)) (zgq (.i _ _ (wrap_i64 ⟨tip_0,tip_1⟩)) zom))))
end
end Go.Proofs.YtaddehddalnliaaGreatDoor
