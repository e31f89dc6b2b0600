/- Own texts, put together by wip/bundle.py: VQ5, VQ6, VQ7, VQ8, VQ9, VQ10, VUB, VUD, VUE, VE2, VL5, VL5a, VL5b, VL5c, VL6, VUC, VE3, VC7, VW24. -/
import Derived.Deep.DeepCutAuto
import Derived.Deep.Light
import Derived.Sort.AssemblyPlain
import Derived.Shelf.SlSortFuncK.BreakPatternsK
import Derived.Shelf.GgSortFunc.SmallK
import Derived.Shelf.GgSortFunc.Slice
import Derived.Shelf.GgSortFunc.Tiny
import Derived.Test.YtaddehddalnliaaGreatDoorShelf4
import Derived.Test.YtaddehddalnliaaGreatDoorBCOwnB
import Derived.Test.YtaddehddalnliaaGreatDoorBCOwnC
import Derived.Test.YtaddehddalnliaaGreatDoorBCOwnR
import Derived.Test.YtaddehddalnliaaGreatDoorBCOwnS
import Derived.Test.YtaddehddalnliaaGreatDoorBCOwnV2
import Derived.Test.YtaddehddalnliaaGreatDoorBCOwnZ2
import Derived.Test.YtaddehddalnliaaGreatDoorBCOwnZ4
set_option linter.unusedVariables false
set_option linter.unusedSimpArgs false
namespace Go.Proofs.YtaddehddalnliaaGreatDoor
section
open Go.RowKit
set_option maxRecDepth 100000
set_option maxHeartbeats 4000000
attribute [local irreducible] z00 spD z1h z9 zg z20 za z0f z42
attribute [local irreducible] den denX z0i z0q
noncomputable def z5s:zd:=spD z7y fun x=>z0u x.1 x.2
theorem zie (t:Tx) (l:List Coin) (h:z7y (t,l)):z5s [I t.height,.l 3 (t.ins.map eIn),.l 2 (t.outs.map z3r),.l 6 (l.map zb)]=some [I (z0u t l)]:=zm (p:=z7y) (f:=fun x:Tx × List Coin=>z0u x.1 x.2) (t,l) h
def z0d3:T :=
 .lets [.idx 3 6 0,.idx 3 6 1,.idx 3 6 2,.idx 3 6 3,.idx 3 6 4,.idx 3 6 5] [] (.lets [.bin .add 5 10] []
 (.lets [.bin .add 6 (zI 1)] [] (.again 0 [14,15])))
def z0d4:T :=
 .lets [.idx 2 10 0,.idx 2 10 1] [] (.lets [.bin .sub 9 12] [] (.lets [.bin .add 10 (zI 1)] [] (.again 1 [14,15])))
def z0d5:T :=
 .lets [.len 2] [] (.loop [5,zI 0] (.lets [.bin .lss 10 8] [] (.ite 11 (.lets [] [.inr 2 2 10] z0d4) (.ret [9]))))
def zl2:T :=
 .lets [.len 3] [] (.loop [zI 0,zI 0] (.lets [.bin .lss 6 4] [] (.ite 7 (.lets [] [.inr 6 3 6] z0d3) z0d5)))
theorem z060:Meets Tryz.prog z5s 56 ⟨[.agg 3,.one],[(false,[.scal])],true⟩:=by
 refine zl (sp:=(z0g [])) (sigs:=z0p) (cut:=[]) (hints:=[⟨3,[.t 5,.t 12]⟩,⟨8,[.t 5,.t 25]⟩]) (fn:=Tryz.f56) (t:=zl2) (by kernel_rfl) (by kernel_rfl) (by kernel_rfl) ?_ ?_
 ·exact (z05 (L:=[]) trivial)
 ·rintro ds rs - h
  obtain ⟨⟨t,l⟩,⟨h1,h2,h3,h4⟩,rfl,rfl⟩:=zp h;clear h;simp only at h1 h2 h3 h4;refine ⟨⟨l.length+t.outs.length+1,?_⟩,z04 rfl⟩
  show den _ _ zl2 [I t.height,.l 3 (t.ins.map eIn),.l 2 (t.outs.map z3r),.l 6 (l.map zb)] []=ret (z0u t l)
  unfold zl2 z0u
  repeat' (first|refine dq1 ?_|fail)
  (refine zr (fun (s:Int) k=>[I s,I k]) (fun (s:Int) _ (r:List Coin)=>t.outs.foldl (fun s o=>s - o.coin) (r.foldl (fun s c=>s+c.o.coin) s)) (fun s k=>0≤s∧s≤k * 1000000000) (0:Int) l ?_ ?_ ?_ ?_ ?_;rfl;exact ⟨by omega,by omega⟩;omega)
  ·rintro s k c r hx hd hkl ⟨h0,h5⟩ again hag
   have hc:=h2 c (zY0a hx)
   repeat' (first|refine dq1 ?_|refine dqc ?_|refine dqm ?_|refine dqT ?_|fail)
   exact z7 rfl rfl (hag (s+c.o.coin) ⟨by omega,by omega⟩)
  ·rintro s ⟨h0,h5⟩ again
   repeat' (first|refine dq1 ?_|refine dqF ?_|fail)
   (refine zr (fun (s:Int) k=>[I s,I k]) (fun (s:Int) _ (r:List Out)=>r.foldl (fun s o=>s - o.coin) s) (fun s k => - (k * 1000000000)≤s∧s≤l.length * 1000000000) s t.outs ?_ ?_ ?_ ?_ ?_;rfl;exact ⟨by omega,by omega⟩;omega)
   ·rintro s k c r hx hd hkl ⟨h0,h5⟩ again' hag
    have hc:=h4 c (zY0a hx)
    repeat' (first|refine dq1 ?_|refine dqc ?_|refine dqm ?_|refine dqT ?_|fail)
    exact z7 rfl rfl (hag (s - c.coin) ⟨by omega,by omega⟩)
   ·rintro s ⟨h0,h5⟩ again'
    repeat' (first|refine dq1 ?_|exact z6 rfl rfl|refine dqF ?_|fail)
attribute [local irreducible] z0u
structure SpJ (l:List Coin) (st:List Coin × List Coin) (k:Nat):Prop where
 dist:z1c st.1
 len:st.1.length≤l.length
 good:∀ c ∈ st.1,z4c c=0
 cnt:st.2.length=k
 spent:∀ c ∈ st.2,z4c c=0
theorem SpJ.cut {l:List Coin} {r s:List Coin} {k:Nat} {c:Coin} {j:Nat} (h:SpJ l (r,s) k) (hc:r[j]? = some c):SpJ l (r.take j++r.drop (j+1),s++[c]) (k+1):=by
 refine ⟨zl1 h.dist j,?_,fun d hd=>?_,?_,fun d hd=>?_⟩
 ·have:=h.len
  simp only [zY04,zY0e,zY0z] at this ⊢;omega
 ·rcases zY11.1 hd with hd|hd
  ·exact h.good d (zY2l hd)
  ·exact h.good d (zY2c hd)
 ·have:=h.cnt
  simp only [zY04,zY1f] at this ⊢;omega
 ·rcases zY11.1 hd with hd|hd
  ·exact h.spent d hd
  ·rw [zY13.1 hd];exact h.good c (zY0a hc)
theorem SpJ.fee {l:List Coin} {r s:List Coin} {t:Tx} (h:SpJ l (r,s) t.ins.length) (ht:TxOK t):z7y (t,s):=by
 have h1:=h.cnt;have h2:=ht.ins;have h3:=ht.outs;simp only at h1;refine ⟨by simp only;omega,fun c hc=>?_,by simp only;omega,fun o ho=>?_⟩
 ·have:=z3k (h.spent c hc)
  exact ⟨by omega,by omega⟩
 ·have:=ht.good o ho
  exact ⟨by omega,by omega⟩
noncomputable def z84:zd:=spD (fun x:List Coin × Tx × Int × Int=>z9 x.1=0∧zg x.2.1=0) fun x=>z2y x.1 x.2.1 x.2.2.1 x.2.2.2
theorem zqs (l:List Coin) (t:Tx) (nm h:Int) (hl:z9 l=0) (ht:zg t=0):z84 [.l 6 (l.map zb),I t.height,.l 3 (t.ins.map eIn),.l 2 (t.outs.map z3r),I nm,I h]=some [.l 6 ((z2y l t nm h).1.map zb),.l 6 ((z2y l t nm h).2.1.map zb),I (z2y l t nm h).2.2]:=zm (f:=fun x:List Coin × Tx × Int × Int=>z2y x.1 x.2.1 x.2.2.1 x.2.2.2) (l,t,nm,h) ⟨hl,ht⟩
def z061:T :=
 .lets [.mk 1 [[38],[40]]] [] (.lets [.call 52 [41] 0] [] (.lets [.bin .add 19 (zI 1)] [] (.again 0 [37,16,17,42,43])))
def z062:T :=
 .lets [.app 6 15 36] [] (.lets [.sub 6 18 none (some 24)] [] (.lets [.bin .add 24 (zI 1)] [] (.lets [.sub 6 18 (some 39) none] []
 z061)))
def z063:T :=
 .lets [.not 34] [] (.ite 35 (.ret [.c (.nil 6),.c (.nil 6),zI 8]) (.lets [.mk 6 [[26,27,28,29,30,31]]] [] z062))
def z064:T :=
 .lets [.bin .add 30 (zI 2)] [] (.lets [.bin .gtr 32 5] [] (.ite 33 (.ret [.c (.nil 6),.c (.nil 6),zI 10]) (.lets [.call 44 [29,23,
 .v 5] 0] [] z063)))
def z065:T :=
 .lets [.mk 1 [[36],[38]]] [] (.lets [.call 52 [39] 0] [] (.lets [.bin .add 19 (zI 1)] [] (.again 0 [35,16,17,40,41])))
def z066:T :=
 .lets [.app 6 15 34] [] (.lets [.sub 6 18 none (some 24)] [] (.lets [.bin .add 24 (zI 1)] [] (.lets [.sub 6 18 (some 37) none] []
 z065)))
def z067:T :=
 .lets [.not 32] [] (.ite 33 (.ret [.c (.nil 6),.c (.nil 6),zI 8]) (.lets [.mk 6 [[26,27,28,29,30,31]]] [] z066))
def z068:T :=
 .lets [.idx 18 24 0,.idx 18 24 1,.idx 18 24 2,.idx 18 24 3,.idx 18 24 4,.idx 18 24 5] [] (.ite 31 z064
 (.lets [.call 44 [29,23,5] 0] [] z067))
def z069:T :=
 .lets [.call 49 [18,21,22] 0] [] (.lets [.bin .lss 24 (zI 0)] [] (.ite 25 (.ret [.c (.nil 6),.c (.nil 6),zI 7]) (.lets [] [.inr 6 18
 24] z068)))
def z06a:T :=
 .lets [.mk 6 [[4,25,27,28,5,11]]] [] (.lets [.app 6 31 32] [] (.lets [.bin .add 25 (zI 1)] [] (.again 1 [22,23,33,.v
 34])))
def zwd:T :=
 .lets [.call 49 [24,4,25] 0] [] (.lets [.bin .geq 29 (zI 0)] [] (.ite 30 (.ret [.c (.nil 6),.c (.nil 6),zI 6]) (.lets [.call 9 [24] 0]
 [] z06a)))
def zwe:T :=
 .lets [.call 25 [27] 0] [] (.lets [.bin .neq 28 (zI 0)] [] (.ite 29 (.ret [.c (.nil 6),.c (.nil 6),28]) (.ret [27,15,zI 0])))
def zwf:T :=
 .ite 26 (.lets [] [.inr 2 3 25] (.lets [.idx 3 25 0,.idx 3 25 1] [] zwd)) (.lets [.call 50 [24] 0] [] zwe)
def zwg:T :=
 .ite 20 (.lets [] [.inr 3 2 19] (.lets [.idx 2 19 0,.idx 2 19 1,.idx 2 19 2] [] z069)) (.lets [.len 3] [] (.loop [16,
 .v 17,18,zI 0] (.lets [.bin .lss 25 21] [] zwf)))
def zwh:T :=
 .lets [.call 9 [0] 0] [] (.lets [.len 2] [] (.loop [.c (.nil 6),.c (.nil 6),zI 0,13,zI 0] (.lets [.bin .lss 19 14] [] zwg)))
def zwi:T :=
 .lets [.mk 1 [[37],[39]]] [] (.lets [.call 52 [40] 0] [] (.lets [.bin .add 18 (zI 1)] [] (.again 0 [36,15,16,41,42])))
def zwj:T :=
 .lets [.app 6 14 35] [] (.lets [.sub 6 17 none (some 23)] [] (.lets [.bin .add 23 (zI 1)] [] (.lets [.sub 6 17 (some 38) none] []
 zwi)))
def zwk:T :=
 .lets [.not 33] [] (.ite 34 (.ret [.c (.nil 6),.c (.nil 6),zI 8]) (.lets [.mk 6 [[25,26,27,28,29,30]]] [] zwj))
def zwl:T :=
 .lets [.bin .add 29 (zI 2)] [] (.lets [.bin .gtr 31 5] [] (.ite 32 (.ret [.c (.nil 6),.c (.nil 6),zI 10]) (.lets [.call 44 [28,22,
 .v 5] 0] [] zwk)))
def zwm:T :=
 .lets [.mk 1 [[35],[37]]] [] (.lets [.call 52 [38] 0] [] (.lets [.bin .add 18 (zI 1)] [] (.again 0 [34,15,16,39,40])))
def zwn:T :=
 .lets [.app 6 14 33] [] (.lets [.sub 6 17 none (some 23)] [] (.lets [.bin .add 23 (zI 1)] [] (.lets [.sub 6 17 (some 36) none] []
 zwm)))
def zwo:T :=
 .lets [.not 31] [] (.ite 32 (.ret [.c (.nil 6),.c (.nil 6),zI 8]) (.lets [.mk 6 [[25,26,27,28,29,30]]] [] zwn))
def zwp:T :=
 .lets [.idx 17 23 0,.idx 17 23 1,.idx 17 23 2,.idx 17 23 3,.idx 17 23 4,.idx 17 23 5] [] (.ite 30 zwl
 (.lets [.call 44 [28,22,5] 0] [] zwo))
def zwq:T :=
 .lets [.call 49 [17,20,21] 0] [] (.lets [.bin .lss 23 (zI 0)] [] (.ite 24 (.ret [.c (.nil 6),.c (.nil 6),zI 7]) (.lets [] [.inr 6 17
 23] zwp)))
def zwr:T :=
 .lets [.mk 6 [[4,26,28,29,5,11]]] [] (.lets [.app 6 32 33] [] (.lets [.bin .add 26 (zI 1)] [] (.again 1 [23,24,34,.v
 35])))
def zws:T :=
 .lets [.call 49 [25,4,26] 0] [] (.lets [.bin .geq 30 (zI 0)] [] (.ite 31 (.ret [.c (.nil 6),.c (.nil 6),zI 6]) (.lets [.call 9 [25] 0]
 [] zwr)))
def zwt:T :=
 .lets [.call 25 [28] 0] [] (.lets [.bin .neq 29 (zI 0)] [] (.ite 30 (.ret [.c (.nil 6),.c (.nil 6),29]) (.ret [28,14,zI 0])))
def zwu:T :=
 .ite 27 (.lets [] [.inr 2 3 26] (.lets [.idx 3 26 0,.idx 3 26 1] [] zws)) (.lets [.call 50 [25] 0] [] zwt)
def zwv:T :=
 .ite 21 (.ret [.c (.nil 6),.c (.nil 6),zI 9]) (.lets [.len 3] [] (.loop [15,16,17,zI 0] (.lets [.bin .lss 26 22] []
 zwu)))
def zww:T :=
 .ite 19 (.lets [] [.inr 3 2 18] (.lets [.idx 2 18 0,.idx 2 18 1,.idx 2 18 2] [] zwq)) (.lets [.call 51 [1,2,3,.v
 14] 0] [] (.lets [.bin .lss 20 (zI 0)] [] zwv))
def zwx:T :=
 .lets [.call 9 [0] 0] [] (.lets [.len 2] [] (.loop [.c (.nil 6),.c (.nil 6),zI 0,12,zI 0] (.lets [.bin .lss 18 13] [] zww)))
def zwy:T :=
 .lets [.bin .eql 10 (zI 0)] [] (.ite 11 (.lets [.bin .neq 1 5] [] (.ite 12 (.ret [.c (.nil 6),.c (.nil 6),zI 4]) zwh))
 zwx)
def zwz:T :=
 .ite 8 (.ret [.c (.nil 6),.c (.nil 6),zI 3]) (.lets [.bin .gtr 5 (zI 1000)] [] (.ite 9 (.ret [.c (.nil 6),.c (.nil 6),zI 3]) (.lets
 [.len 2] [] zwy)))
def zx0:T :=
 .lets [.bin .gtr 4 (zI 120)] [] (.ite 7 (.ret [.c (.nil 6),.c (.nil 6),zI 3]) (.lets [.bin .lss 5 (zI 1)] [] zwz))
def zg4:T :=
 .lets [.bin .lss 4 (zI 1)] [] (.ite 6 (.ret [.c (.nil 6),.c (.nil 6),zI 3]) zx0)
attribute [local irreducible] z4a z66 z1t z5s z9f z5r z54
theorem z0d6:Meets Tryz.prog z84 55 ⟨[.one,.agg 3,.one,.one],[(false,[.pure]),(true,[.pure]),(false,[.scal])],false⟩:=by
 refine zai (sp:=(z0g [(9,z4a),(25,z1t),(44,z9f),(49,z5r),(50,z54),(51,z5s),(52,z66)])) (sigs:=z0pa) (cut:=[]) (hints:=[⟨10,[.n 13 0 360 101 6,.c 13 0 360,.r 8 101 6,.t 10,.r 14 101 6,.t 63,.z 59]⟩,⟨26,[.r 8 101 6,.t 10,.r 14 101 6,.t 142]⟩]) (fns:=[zau 106 Tryz.f106 [] []]) (dep:=1) (pool:=300) (fn:=Tryz.f55) (t:=zg4) (by kernel_rfl) (by kernel_rfl) (by kernel_rfl) ?_ ?_ ?_
 ·exact (z3b (fn:=Tryz.f106) (by kernel_rfl) (by kernel_rfl) (by kernel_rfl) (by kernel_rfl) (by kernel_rfl) zcb)
 ·exact (z05 (L:=[(9,z4a),(25,z1t),(44,z9f),(49,z5r),(50,z54),(51,z5s),(52,z66)]) ⟨ze rfl zkk,ze rfl zb1,ze rfl z0gz,ze rfl (z0cr z03n),ze rfl zsn,ze rfl z060,ze rfl z03m,trivial⟩)
 ·rintro ds rs - h
  obtain ⟨⟨l,t,nm,ht⟩,⟨hlc,htc⟩,rfl,rfl⟩:=zp h;clear h;simp only at hlc htc;have ok:CoinsOK l:=(z17 l).1 hlc;have okt:TxOK t:=z39 htc;have hkey:=z0gv okt.insOk;have hl:=ok.len;have hti:=okt.ins;have hto:=okt.outs;refine ⟨⟨t.ins.length+t.outs.length+1,?_⟩,znt⟩
  show den _ _ zg4 [.l 6 (l.map zb),I t.height,.l 3 (t.ins.map eIn),.l 2 (t.outs.map z3r),I nm,I ht] []=ret (z2y l t nm ht)
  unfold zg4 z2y
  repeat' (first|refine dq1 ?_|refine dqk rfl (z6y l (by omega)) ?_|exact z6 rfl rfl|refine tR (fun h=>?_) fun h=>?_|fail)
  ·(refine zr (fun (st:List Coin × List Coin) k=>[.l 6 (st.2.map zb),.l 6 (([]:List Coin).map zb),I 0,.l 6 (st.1.map zb),I k]) (fun (st:List Coin × List Coin) _ (xs:List In)=>z67 ht z1f (fun r s=>z55 nm ht (decide ((t.ins.length:Int)=0)) z1f (fun r=>z4s s (z0f r)) r 0 t.outs) st.1 st.2 xs) (fun st k=>SpJ l st k) (l,[]) t.ins ?_ ?_ ?_ ?_ ?_;rfl;exact ⟨z6d ok.sorted,zY0h _,ok.good,rfl,fun c hc=>by cases hc⟩;omega)
   ·rintro ⟨r,s⟩ k x xs hx hd hk hI again hag
    omega
   ·rintro ⟨r,s⟩ hI again
    rw [z67]
    repeat' (first|refine dq1 ?_|refine dqF ?_|fail)
    (refine zr (fun (r:List Coin) k=>[.l 6 (([]:List Coin).map zb),I 0,.l 6 (r.map zb),I k]) (fun (r:List Coin) k (os:List Out)=>z55 nm ht (decide ((t.ins.length:Int)=0)) z1f (fun r=>z4s s (z0f r)) r k os) (fun r k=>z1c r∧r.length≤l.length+k) r t.outs ?_ ?_ ?_ ?_ ?_;rfl;exact ⟨hI.dist,hI.len⟩;omega)
    ·rintro r k o os hx hd hk ⟨hs,hrl⟩ again' hag
     rw [z55];have hp:=z78 r ⟨nm,k⟩;rcases z4y r ⟨nm,k⟩ with ⟨h1,h2⟩|⟨j,hj,h1,h2⟩
     ·rw [h1] at hp ⊢
      have hn0:¬ (-1:Int) ≥ 0:=by omega
      rw [if_neg hn0];have hag:=hag (r++[⟨⟨nm,k⟩,o,ht,decide ((t.ins.length:Int)=0)⟩]) ⟨zg1 hs h2,by rw [zY04,zY1f];omega⟩
      repeat' (first|refine dq1 ?_|refine dqc ?_|refine dqm ?_|refine dqk rfl (hp) ?_|refine dqk rfl (z6y r (by omega)) ?_|refine z5 (z24 (r:=[(⟨⟨nm,k⟩,o,ht,decide ((t.ins.length:Int)=0)⟩:Coin)].map zb) rfl rfl (by simp)) ?_|exact z7 rfl rfl hag|refine dqT ?_|refine dqF ?_|fail)
     ·rw [h1] at hp ⊢
      have hn0:(j:Int) ≥ 0:=by omega
      rw [if_pos hn0]
      repeat' (first|refine dq1 ?_|refine dqc ?_|refine dqm ?_|refine dqk rfl (hp) ?_|exact z6 rfl rfl|refine dqT ?_|fail)
    ·rintro r ⟨hs,hrl⟩ again'
     rw [z55];unfold z4s
     repeat' (first|refine dq1 ?_|refine dqk rfl (zb2 r ⟨by omega,hs⟩) ?_|refine dqk rfl (z5e (z0f r)) ?_|exact z6 rfl rfl|refine tR (fun h=>?_) fun h=>?_|refine dqF ?_|fail)
  ·(refine zr (fun (st:List Coin × List Coin) k=>[.l 6 (st.2.map zb),.l 6 (([]:List Coin).map zb),I 0,.l 6 (st.1.map zb),I k]) (fun (st:List Coin × List Coin) _ (xs:List In)=>z67 ht z1f (fun r s=>if z0u t s<0 then z1f 9 else z55 nm ht (decide ((t.ins.length:Int)=0)) z1f (fun r=>z4s s (z0f r)) r 0 t.outs) st.1 st.2 xs) (fun st k=>SpJ l st k) (l,[]) t.ins ?_ ?_ ?_ ?_ ?_;rfl;exact ⟨z6d ok.sorted,zY0h _,ok.good,rfl,fun c hc=>by cases hc⟩;omega)
   ·rintro ⟨r,s⟩ k x xs hx hd hk hI again hag
    rw [z67];simp only;have hrl:=hI.len;simp only at hrl;have hkx:=hkey x (zY0a hx);have hp:=z78 r x.p;rcases z4y r x.p with ⟨h1,h2⟩|⟨j,hj,h1,h2⟩
    ·rw [h1] at hp ⊢
     have hn0:(-1:Int)<0:=by omega
     rw [if_pos hn0]
     repeat' (first|refine dq1 ?_|refine dqc ?_|refine dqm ?_|refine dqk rfl (hp) ?_|exact z6 rfl rfl|refine dqT ?_|fail)
    ·rw [h1] at hp ⊢
     have hc:r[j]? = some r[j]:=zY03 hj;have hca:z1u r (j:Int)=r[j]:=by unfold z1u;rw [zY2k,hc];rfl
     have e1:((j:Int)).toNat=j:=by omega
     have e2:((j:Int)+1).toNat=j+1:=by omega
     rw [hca,e1,e2];generalize r[j]=c at *;have hn0:¬ (j:Int)<0:=by omega
     rw [if_neg hn0];have hcb:=z3k (hI.good c (zY0a hc));have e0:((r.take ((j:Int)).toNat).drop ((0:Int)).toNat)=r.take j:=by rw [e1];rfl
     have e3:r.take ((r.length:Int)).toNat=r:=by rw [zY2k,zY1i]
     have hxo:=hx;have hx:=hc;have hop:=zwc c.o.lock x.key ht hcb.2.2.2.2.2.2.2.2 hkx ⟨by omega,by omega⟩
     repeat' (first|refine dq1 ?_|refine dqc ?_|refine dqm ?_|refine dqk rfl (hp) ?_|refine dqk rfl (hop) ?_|exact z6 rfl rfl|((first|refine tR ?_ ?_|refine tB ?_ ?_|refine tN ?_ ?_) <;> intro h)|refine dqT ?_|refine dqF ?_|fail)
     all_goals (refine z5 (z24 (r:=[c].map zb) rfl rfl (by simp)) ?_;refine z5 (zh4 (l:=s) (l':=[c]) rfl rfl (by have:=hI.cnt;simp only at this ⊢;simp only [zY1f];omega)) ?_;refine z5 (zeg (l:=r) (m:=0) (n:=(j:Int)) rfl rfl rfl (by omega) (by omega) (by omega)) ?_;refine z5 (z6a rfl rfl (by omega)) ?_;refine z5 (zeg (l:=r) (m:=(j:Int)+1) (n:=(r.length:Int)) rfl rfl rfl (by omega) (by omega) (by omega)) ?_;rw [e0,e2,e3];refine z5 (z24 (r:=[[.l 6 ((r.take j).map zb)],[.l 6 ((r.drop (j+1)).map zb)]]) rfl rfl (by simp)) ?_;refine z5 (z2x rfl (zku _ _ (by simp only [zY0e,zY0z];omega)) rfl) ?_;refine z5 (z6a rfl rfl (by omega)) ?_;exact z7 rfl rfl (hag (r.take j++r.drop (j+1),s++[c]) (hI.cut hc)))
   ·rintro ⟨r,s⟩ hI again
    rw [z67]
    repeat' (first|refine dq1 ?_|refine dqk rfl (zie t s (hI.fee okt)) ?_|exact z6 rfl rfl|refine tR (fun h=>?_) fun h=>?_|refine dqF ?_|fail)
    (refine zr (fun (r:List Coin) k=>[.l 6 (([]:List Coin).map zb),I 0,.l 6 (r.map zb),I k]) (fun (r:List Coin) k (os:List Out)=>z55 nm ht (decide ((t.ins.length:Int)=0)) z1f (fun r=>z4s s (z0f r)) r k os) (fun r k=>z1c r∧r.length≤l.length+k) r t.outs ?_ ?_ ?_ ?_ ?_;rfl;exact ⟨hI.dist,hI.len⟩;omega)
    ·rintro r k o os hx hd hk ⟨hs,hrl⟩ again' hag
     rw [z55];have hp:=z78 r ⟨nm,k⟩;rcases z4y r ⟨nm,k⟩ with ⟨h1,h2⟩|⟨j,hj,h1,h2⟩
     ·rw [h1] at hp ⊢
      have hn0:¬ (-1:Int) ≥ 0:=by omega
      rw [if_neg hn0];have hag:=hag (r++[⟨⟨nm,k⟩,o,ht,decide ((t.ins.length:Int)=0)⟩]) ⟨zg1 hs h2,by rw [zY04,zY1f];omega⟩
      repeat' (first|refine dq1 ?_|refine dqc ?_|refine dqm ?_|refine dqk rfl (hp) ?_|refine dqk rfl (z6y r (by omega)) ?_|refine z5 (z24 (r:=[(⟨⟨nm,k⟩,o,ht,decide ((t.ins.length:Int)=0)⟩:Coin)].map zb) rfl rfl (by simp)) ?_|exact z7 rfl rfl hag|refine dqT ?_|refine dqF ?_|fail)
     ·rw [h1] at hp ⊢
      have hn0:(j:Int) ≥ 0:=by omega
      rw [if_pos hn0]
      repeat' (first|refine dq1 ?_|refine dqc ?_|refine dqm ?_|refine dqk rfl (hp) ?_|exact z6 rfl rfl|refine dqT ?_|fail)
    ·rintro r ⟨hs,hrl⟩ again'
     rw [z55];unfold z4s
     repeat' (first|refine dq1 ?_|refine dqk rfl (zb2 r ⟨by omega,hs⟩) ?_|refine dqk rfl (z5e (z0f r)) ?_|exact z6 rfl rfl|refine tR (fun h=>?_) fun h=>?_|refine dqF ?_|fail)
end
section
open Go.RowKit
open Go.Lib (itoa)
set_option maxRecDepth 100000
set_option maxHeartbeats 4000000
theorem z0jr (o:List Int) (i n:Nat) (x:Int) (hx:x=(i:Int)):o++zb3 i (n+1)++[0]=(o++[x])++zb3 (i+1) n++[0]:=by
 subst hx;rw [zsr];simp
theorem z0js (o:List Int) (i:Nat):o++z6k (i+1)=(o++[(i:Int)+1])++z6k i:=by
 rw [z6k];simp
theorem z0h0 {E:Env} {as0:List Atom} {d:Dt} {n m:Int} (h:vals E as0=some [d,I n]) (e:n=m):vals E as0=some [d,I m]:=e ▸ h
section
variable {α:Type} {f:α→List Dt} {sp:Nat→zd} {E:Env}
theorem z0mo {sz n:Nat} {a lo:Atom} {l:List α} {m:Int} (ha:a.val E=some (.l sz (l.map f))) (hl:lo.val E=some (I m)) (hm:m=(n:Int)) (h:n≤l.length):denX sp E (.sub sz a (some lo) none)=some (.l sz ((l.drop n).map f)):=by
 subst hm;have hb:bndI E 0 (some lo)=some (n:Int):=by show asI (lo.val E)=some (n:Int);rw [hl];rfl
 rw [zeg (lo:=some lo) (hi:=none) (m:=(n:Int)) (n:=(l.length:Int)) ha hb rfl (by omega) (by omega) (by omega)];simp
end
theorem zqt (o:Out) (r:List Out):z0l (o::r)=o.coin+z0l r:=by simp [z0l]
attribute [local irreducible] z00 spD z9 zg zf zk z1b z2y z3d zx z16 z0u z0e z0l z1n z3n zb3 z6k
attribute [local irreducible] den denX z0i z0q
noncomputable def z7r:zd:=spD (fun _:Undo × Undo=>True) fun x=>decide (x.1=x.2)
theorem zj0 (x y:Undo):z7r [.l 6 (x.spent.map zb),.l 6 (y.spent.map zb)]=some [.b (decide (x=y))]:=zm (f:=fun x:Undo × Undo=>decide (x.1=x.2)) (x,y) trivial
noncomputable def z9g:zd:=spD (fun _:List Undo × List Undo=>True) fun x=>decide (x.1=x.2)
theorem zx1 (l m:List Undo):z9g [.l 1 (l.map z2h),.l 1 (m.map z2h)]=some [.b (decide (l=m))]:=zm (f:=fun x:List Undo × List Undo=>decide (x.1=x.2)) (l,m) trivial
noncomputable def z68:zd:=spD (fun _:List Undo × List Undo=>True) fun x=>decide (x.1=x.2)
theorem zl3 (l m:List Undo):z68 [.l 1 (l.map z2h),.l 1 (m.map z2h)]=some [.b (decide (l=m))]:=zm (f:=fun x:List Undo × List Undo=>decide (x.1=x.2)) (l,m) trivial
def zb4:T :=
 .lets [.call 26 [0,1] 0] [] (.ret [2])
def z09m:T :=
 .lets [.call 116 [9,10] 0] [] (.lets [.not 11] [] (.ite 12 (.ret [.c (.b false)]) (.lets [.bin .add 7 (zI 1)] [] (.again 0 [6,13]))))
def z09n:T :=
 .ite 8 (.lets [] [.inr 1 0 7] (.lets [.idx 0 7 0] [] (.lets [] [.inr 1 1 7] (.lets [.idx 1 7 0] [] z09m)))) (.ret [.c (.b true)])
def z09o:T :=
 .lets [.bin .neq 2 3] [] (.ite 4 (.ret [.c (.b false)]) (.lets [.len 0] [] (.loop [.c (.b false),zI 0] (.lets [.bin .lss 7 5] []
 z09n))))
def zif:T :=
 .lets [.len 0] [] (.lets [.len 1] [] z09o)
def zcv:T :=
 .lets [.call 117 [0,1] 0] [] (.ret [2])
attribute [local irreducible] z3c
theorem zx2:Meets Tryz.prog z7r 81 ⟨[.agg 1,.agg 1],[(false,[.scal])],true⟩:=by
 refine zl (sp:=(z0g [(26,z3c)])) (sigs:=z0p) (cut:=[]) (hints:=[]) (fn:=Tryz.f81) (t:=zb4) (by kernel_rfl) (by kernel_rfl) (by kernel_rfl) ?_ ?_
 ·exact (z05 (L:=[(26,z3c)]) ⟨ze rfl zhp,trivial⟩)
 ·rintro ds rs - h
  obtain ⟨⟨⟨x⟩,⟨y⟩⟩,-,rfl,rfl⟩:=zp h;clear h;refine ⟨⟨1,?_⟩,z04 rfl⟩
  show den _ _ zb4 [.l 6 (x.map zb),.l 6 (y.map zb)] []=ret (decide ((⟨x⟩:Undo)=⟨y⟩))
  have e:decide ((⟨x⟩:Undo)=⟨y⟩)=decide (x=y):=by simp
  rw [e];unfold zb4
  repeat' (first|refine dqk rfl (z8b x y) ?_|exact z6 rfl rfl|fail)
theorem z0h1:Meets Tryz.prog z9g 80 ⟨[.one,.one,.clos 81 []],[(false,[.scal])],true⟩:=by
 refine zl (sp:=(z0g [(116,z7r)])) (sigs:=z0p) (cut:=[]) (hints:=[⟨4,[.t 6,.t 17]⟩]) (fn:=Tryz.f80) (t:=zif) (by kernel_rfl) (by kernel_rfl) (by kernel_rfl) ?_ ?_
 ·exact (z05 (L:=[(116,z7r)]) ⟨ze rfl zx2,trivial⟩)
 ·rintro ds rs hok h
  obtain ⟨⟨l,m⟩,-,rfl,rfl⟩:=zp h;clear h;have hll:=ok_l (hok (.l 1 (l.map z2h)) (zY0p ..));refine ⟨⟨l.length+1,?_⟩,z04 rfl⟩
  show den _ _ zif [.l 1 (l.map z2h),.l 1 (m.map z2h)] []=ret (decide (l=m))
  rw [zho];unfold zif
  repeat' (first|refine dq1 ?_|exact z6 rfl rfl|refine tR (fun h=>?_) fun h=>?_|fail)
  have hlm:l.length=m.length:=by omega
  (refine zr (fun (_:Unit) k=>[.b false,I k]) (fun (_:Unit) k (r:List Undo)=>decide (r=m.drop k)) (fun _ _=>True) () l ?_ ?_ ?_ ?_ ?_;rfl;exact trivial;exact zY26 _)
  ·rintro _ k x r hx hd hk - again hag
   have hy:m[k]? = some (m[k]'(by omega)):=zY03 (by omega);have hdy:m.drop k=m[k]'(by omega)::m.drop (k+1):=zY1j (by omega);rw [hdy];generalize m[k]'(by omega)=y at *;have e:decide (x::r=y::m.drop (k+1))=if decide (x=y)=true then decide (r=m.drop (k+1)) else false:=by
    by_cases h:x=y
    ·simp [h]
    ·simp [h]
   rw [e];have hkm:k<m.length:=by omega
   repeat' (first|refine dq1 ?_|refine dqc ?_|refine dqk rfl (zj0 x y) ?_|exact z6 rfl rfl|exact z7 rfl rfl (hag () trivial)|refine tN (fun h=>?_) fun h=>?_|refine dqT ?_|fail)
  ·rintro _ - again
   rw [hlm,zY2x]
   repeat' (first|refine dq1 ?_|exact z6 rfl rfl|refine dqF ?_|fail)
attribute [local irreducible] z9g
theorem z06b:Meets Tryz.prog z68 32 ⟨[.one,.one],[(false,[.scal])],true⟩:=by
 refine zl (sp:=(z0g [(117,z9g)])) (sigs:=z0p) (cut:=[]) (hints:=[]) (fn:=Tryz.f32) (t:=zcv) (by kernel_rfl) (by kernel_rfl) (by kernel_rfl) ?_ ?_
 ·exact (z05 (L:=[(117,z9g)]) ⟨ze rfl z0h1,trivial⟩)
 ·rintro ds rs - h
  obtain ⟨⟨l,m⟩,-,rfl,rfl⟩:=zp h;clear h;refine ⟨⟨1,?_⟩,z04 rfl⟩
  show den _ _ zcv [.l 1 (l.map z2h),.l 1 (m.map z2h)] []=ret (decide (l=m))
  unfold zcv
  repeat' (first|refine dqk rfl (zx1 l m) ?_|exact z6 rfl rfl|fail)
abbrev zoh (ts:List (List UInt8)) (l:List Coin):Prop:=zk ⟨ts⟩=0∧z9 l=0
noncomputable def z69:zd:=spD (fun x:List (List UInt8) × List Coin × Block=>zoh x.1 x.2.1) fun x=>z1n ⟨x.1⟩ x.2.1 x.2.2
theorem zl4 (ts:List (List UInt8)) (l:List Coin) (b:Block) (h:zk ⟨ts⟩=0) (hl:z9 l=0):z69 [.l 1 (ts.map z13),.l 6 (l.map zb),I b.parent,I b.height,I b.work,I b.nonce,.l 3 (b.txs.map eTx)]=some [.l 6 ((z1n ⟨ts⟩ l b).1.map zb),.l 1 ((z1n ⟨ts⟩ l b).2.1.map z2h),I (z1n ⟨ts⟩ l b).2.2]:=zm (p:=fun x:List (List UInt8) × List Coin × Block=>zoh x.1 x.2.1) (f:=fun x:List (List UInt8) × List Coin × Block=>z1n ⟨x.1⟩ x.2.1 x.2.2) (ts,l,b) ⟨h,hl⟩
def zqu:T :=
 .lets [.bin .add 18 (zI 1)] [] (.lets [.mk 1 [[20]]] [] (.lets [.app 1 17 21] [] (.lets [.bin .add 18 (zI 1)] [] (.again 0 [22,.v
 23]))))
def zqv:T :=
 .lets [.idx 33 36 0,.idx 33 36 1] [] (.lets [.bin .add 35 38] [] (.lets [.bin .add 36 (zI 1)] [] (.again 2 [40,41])))
def zqw:T :=
 .lets [] [.inr 1 29 31] (.lets [.set 29 31 0 [46]] [] (.lets [.bin .add 28 (zI 1)] [] (.again 1 [23,24,25,54,45,56,.v
 55])))
def zqx:T :=
 .lets [.idx 6 31 0,.idx 6 31 1,.idx 6 31 2] [] (.lets [.call 51 [50,51,52,46] 0] [] (.lets [.bin .add 26 53] []
 zqw))
def zqy:T :=
 .lets [] [.inr 1 29 31] (.lets [.set 29 31 0 [46]] [] (.lets [.bin .add 28 (zI 1)] [] (.again 1 [23,24,25,26,45,51,.v
 50])))
def zqz:T :=
 .ite 48 (.ret [.c (.nil 6),.c (.nil 1),47]) (.lets [.bin .gtr 31 (zI 0)] [] (.ite 49 (.lets [] [.inr 3 6 31] zqx) zqy))
def zr0:T :=
 .lets [.call 54 [27,41,42,43,44,3] 0,.call 54 [27,41,42,43,44,3] 1,.call 54 [27,41,42,43,44,3] 2] [] (.lets
 [.bin .neq 47 (zI 0)] [] zqz)
def zr1:T :=
 .lets [.idx 6 31 0,.idx 6 31 1,.idx 6 31 2] [] (.lets [] [.inr 1 9 31] (.lets [.idx 9 31 0] [] zr0))
def zr2:T :=
 .lets [.bin .add 38 26] [] (.lets [.bin .gtr 35 39] [] (.ite 40 (.ret [.c (.nil 6),.c (.nil 1),zI 9]) (.lets [] [.inr 3 6 31]
 zr1)))
def zr3:T :=
 .loop [zI 0,zI 0] (.lets [.bin .lss 36 34] [] (.ite 37 (.lets [] [.inr 2 33 36] zqv) (.lets [.call 114 [3] 0] []
 zr2)))
def zoi:T :=
 .lets [] [.inr 1 29 31] (.lets [.set 29 31 0 [38]] [] (.lets [.bin .add 28 (zI 1)] [] (.again 1 [23,24,25,46,37,48,.v
 47])))
def zoj:T :=
 .lets [.idx 6 31 0,.idx 6 31 1,.idx 6 31 2] [] (.lets [.call 51 [42,43,44,38] 0] [] (.lets [.bin .add 26 45] []
 zoi))
def zok:T :=
 .lets [] [.inr 1 29 31] (.lets [.set 29 31 0 [38]] [] (.lets [.bin .add 28 (zI 1)] [] (.again 1 [23,24,25,26,37,43,.v
 42])))
def zol:T :=
 .ite 40 (.ret [.c (.nil 6),.c (.nil 1),39]) (.lets [.bin .gtr 31 (zI 0)] [] (.ite 41 (.lets [] [.inr 3 6 31] zoj)
 zok))
def zom:T :=
 .lets [.call 54 [27,33,34,35,36,3] 0,.call 54 [27,33,34,35,36,3] 1,.call 54 [27,33,34,35,36,3] 2] [] (.lets
 [.bin .neq 39 (zI 0)] [] zol)
def zon:T :=
 .lets [.idx 6 31 0,.idx 6 31 1,.idx 6 31 2] [] (.lets [] [.inr 1 9 31] (.lets [.idx 9 31 0] [] zom))
def zoo:T :=
 .ite 32 (.lets [] [.inr 3 6 (zI 0)] (.lets [.idx 6 (zI 0) 2] [] (.lets [.len 33] [] zr3))) (.lets [] [.inr 3 6 31]
 zon)
def zop:T :=
 .ite 30 (.lets [] [.inr 1 21 28] (.lets [.idx 21 28 0] [] (.lets [.bin .eql 31 (zI 0)] [] zoo))) (.ret [27,29,.c (.i .i64
 0)])
def zoq:T :=
 .lets [.len 21] [] (.loop [.c (.nil 6),.c (.nil 1),zI 0,zI 0,1,zI 0,13] (.lets [.bin .lss 28 22] [] zop))
def zor:T :=
 .loop [14,zI 0] (.lets [.bin .lss 18 16] [] (.ite 19 zqu (.lets [.mk 1 [[zI 0]]] [] (.lets [.app 1 17 20] []
 zoq))))
def zos:T :=
 .lets [.len 6] [] (.lets [.mkz 1 [.nil 6] 12] [] (.lets [.mk 1 []] [] (.lets [.sub 3 6 (some (zI 1)) none] [] (.lets [.len 15] [] zor))))
def zcw:T :=
 .lets [.call 115 [0,2,3,4,5,6] 0,.call 115 [0,2,3,4,5,6] 1,.call 115 [0,2,3,4,5,6] 2,.call 115 [0,2,
 .v 3,4,5,6] 3] [] (.lets [.bin .neq 10 (zI 0)] [] (.ite 11 (.ret [.c (.nil 6),.c (.nil 1),10]) zos))
attribute [local irreducible] z84 z2r z5s z77
theorem z06c:Meets Tryz.prog z69 30 ⟨[.one,.one,.agg 5],[(false,[.pure]),(false,[.pure]),(false,[.scal])],false⟩:=by
 refine zl (sp:=(z0g [(51,z5s),(54,z84),(114,z77),(115,z2r)])) (sigs:=z0p) (cut:=[]) (hints:=[⟨8,[.r 15 3 1,.t 45,.z 40]⟩,⟨18,[.t 19,.t 70]⟩,⟨13,[.r 6 101 6,.r 7 111 1,.t 8,.t 14,.t 1,.t 58,.o 39]⟩]) (fn:=Tryz.f30) (t:=zcw) (by kernel_rfl) (by kernel_rfl) (by kernel_rfl) ?_ ?_
 ·exact (z05 (L:=[(51,z5s),(54,z84),(114,z77),(115,z2r)]) ⟨ze rfl z060,ze rfl z0d6,ze rfl z097,ze rfl ze3,trivial⟩)
 ·rintro ds rs hok h
  obtain ⟨⟨ts,l,b⟩,⟨hk,hl⟩,rfl,rfl⟩:=zp h;clear h;simp only at hk hl;refine ⟨⟨100,?_⟩,z8l ⟨rfl,trivial⟩⟩
  show den _ _ zcw [.l 1 (ts.map z13),.l 6 (l.map zb),I b.parent,I b.height,I b.work,I b.nonce,.l 3 (b.txs.map eTx)] []=ret (z1n ⟨ts⟩ l b)
  have hsame:=z0gw (b:=b) hk hl;rw [← hsame];clear hsame;have a1:=z97 ts b (z86 hk);have hnm:=zhz (ts:=ts) (b:=b);unfold zcw zqq;generalize z1b ts b=nm at *;obtain ⟨tx,n0,ns,e⟩:=nm;simp only at *
  by_cases he:e=0
  rotate_left
  ·repeat' (first|refine dq1 ?_|refine dqK rfl (a1) ?_|exact z6 rfl rfl|refine tR (fun h=>?_) fun h=>?_|fail)
   all_goals (exfalso;omega)
  obtain ⟨hb,hnl⟩:=hnm he;have ok:=z1g hb;have hl4:=ok.len;have hl1:=ok.some;have hrg:=ok.range;unfold z38 at hrg;subst he
  repeat' (first|refine dq1 ?_|refine dqK rfl (a1) ?_|refine z5 (z031 rfl (by omega)) ?_|refine z5 (z24 (r:=(([]:List Int).map z0r)) rfl rfl (by simp)) ?_|refine z5 (z0mo (n:=1) rfl rfl rfl (by omega)) ?_|exact z6 rfl rfl|refine tR (fun h=>?_) fun h=>?_|fail)
  have hdl:(b.txs.drop 1).length=b.txs.length - 1:=by simp
  rw [show zb3 1 (b.txs.length - 1)=[]++zb3 (0+1) (b.txs.drop 1).length by rw [hdl];rfl]
  (refine zr (fun (o:List Int) k=>[.l 1 (o.map z0r),I k]) (fun (o:List Int) k (r:List Tx)=>z3u b ns l (List.replicate b.txs.length ⟨[]⟩) 0 (o++zb3 (k+1) r.length++[0])) (fun o k=>o.length=k∧∀ x ∈ o,1≤x∧x≤(k:Int)) [] (b.txs.drop 1) ?_ ?_ ?_ ?_ ?_;rfl;exact ⟨rfl,fun x hx=>by cases hx⟩;omega)
  ·rintro o k x r hx hd hk2 ⟨ho,hoe⟩ again hag
   rw [zY0c,z0jr o (k+1) r.length ((k:Int)+1) (by omega)];have hag':=hag (o++[(k:Int)+1]) ⟨by simp;omega,fun y hy=>by
    rcases zY11.1 hy with hy|hy
    ·have:=hoe y hy;omega
    ·rw [zY13.1 hy];omega⟩
   clear hag
   repeat' (first|refine dq1 ?_|refine dqT ?_|fail)
   exact z7 rfl rfl hag'
  ·rintro o ⟨ho,hoe⟩ again
   have hoe2:∀ x ∈ o++[(0:Int)],0≤x∧x<(b.txs.length:Int):=fun y hy=>by
    rcases zY11.1 hy with hy|hy
    ·have:=hoe y hy;omega
    ·rw [zY13.1 hy];omega
   rw [zY0r,zsq,zY1e];have hol:(o++[(0:Int)]).length≤5:=by simp;omega
   repeat' (first|refine dq1 ?_|refine dqF ?_|fail)
   generalize o++[(0:Int)]=ord at *;clear hoe ho
   (refine zr (fun (a:List Coin × List Undo × Int) k=>[.l 6 [],.l 1 [],I 0,I a.2.2,.l 6 (a.1.map zb),I k,.l 1 (a.2.1.map z2h)]) (fun (a:List Coin × List Undo × Int) k (r:List Int)=>z3u b ns a.1 a.2.1 a.2.2 r) (fun a k=>a.2.1.length=b.txs.length∧z9 a.1=0 ∧ -(10000000000 * (k:Int))≤a.2.2∧a.2.2≤10000000000 * (k:Int)) (l,List.replicate b.txs.length ⟨[]⟩,0) ord ?_ ?_ ?_ ?_ ?_;rfl;exact ⟨by simp,hl,by simp,by simp⟩;omega)
   ·rintro ⟨l,us,fees⟩ k i r hx hd hk2 ⟨hu,hcl,m1,m2⟩ again2 hag
    simp only at hu hcl m1 m2 hag ⊢;have hi:=hoe2 i (zY0a hx);have hx':b.txs[i.toNat]? = some (b.txs.getD i.toNat zTx):=z1j _ (by omega);have hn':ns[i.toNat]? = some (ns.getD i.toNat 0):=z1j 0 (by omega);have hu':us[i.toNat]? = some (us.getD i.toNat ⟨[]⟩):=z1j _ (by omega);have hct:=ok.each _ (zY0a hx');have a4:=zqs l (b.txs.getD i.toNat zTx) (ns.getD i.toNat 0) b.height hcl hct;rw [z3u,zbp hcl hct];rw [zbp hcl hct] at a4;have hfee:=zsi (l:=l) (t:=b.txs.getD i.toNat zTx) (nm:=ns.getD i.toNat 0) (h:=b.height);have hrt:=zjv (l:=l) (t:=b.txs.getD i.toNat zTx) (nm:=ns.getD i.toNat 0) (h:=b.height);have hxk:=hx;clear hx
    by_cases hi0:i=0
    ·have hx0:b.txs[(0:Int).toNat]? = some (b.txs.getD 0 zTx):=z1j _ hl1
     have hct0:=ok.each _ (zY0a hx0);have okt:=z39 hct0;have hol:=okt.outs;generalize b.txs.getD 0 zTx=t0 at *;generalize b.txs.getD i.toNat zTx=t at *;generalize ns.getD i.toNat 0=nm at *;generalize us.getD i.toNat ⟨[]⟩=u0 at *;generalize zx l t nm b.height=q at *;obtain ⟨l2,sp,f⟩:=q;simp only at a4 hfee hrt ⊢;have hni:¬ i > 0:=by omega
     rw [if_neg hni]
     repeat' (first|refine dq1 ?_|refine dqc ?_|refine dqm ?_|refine tA (fun h=>?_) fun h=>?_|refine dqT ?_|fail)
     all_goals (try exact absurd hi0 (by assumption))
     rw [← Int.zero_add (z0l t0.outs)]
     (refine zr (fun (s:Int) k=>[I s,I k]) (fun (s:Int) _ (ro:List Out)=>if s+z0l ro > z0e b.height+fees then ([],[],9) else if f≠0 then ([],[],f) else z3u b ns l2 (us.set i.toNat ⟨sp⟩) fees r) (fun s k=>0≤s∧s≤1000000000 * (k:Int)) 0 t0.outs ?_ ?_ ?_ ?_ ?_;rfl;exact ⟨by omega,by omega⟩;omega)
     ·rintro s j z ro hz hdz hjz ⟨s1,s2⟩ again3 hag3
      have hzc:=okt.good z (zY0a hz);have hag3':=hag3 (s+z.coin) ⟨by omega,by omega⟩;rw [zqt,← Int.add_assoc]
      repeat' (first|refine dq1 ?_|refine dqc ?_|refine dqm ?_|refine dqT ?_|fail)
      exact z7 rfl rfl hag3'
     ·rintro s ⟨s1,s2⟩ again3
      have e0:z0l []=0:=by with_unfolding_all rfl
      rw [e0,Int.add_zero];have a6:=zoa b.height (by omega) (by omega);have hrw:=zdg b.height;generalize z0e b.height=rw0 at *
      by_cases hbig:s > rw0+fees
      ·rw [if_pos hbig]
       repeat' (first|refine dq1 ?_|refine dqk rfl (a6) ?_|exact z6 rfl rfl|refine dqT ?_|refine dqF ?_|fail)
      ·rw [if_neg hbig]
       by_cases hf:f=0
       ·have hrt:=hrt hf
        have hsl:(us.set i.toNat (⟨sp⟩:Undo)).length=us.length:=zY3b ..
        repeat' (first|refine dq1 ?_|refine dqc ?_|refine dqm ?_|refine dqk rfl (a6) ?_|refine dqK rfl (a4) ?_|refine z5 (zev (n:=i.toNat) (x:=u0) (y:=⟨sp⟩) rfl rfl rfl rfl (by omega) (zY0h _) hu' rfl) ?_|exact z6 rfl rfl|refine tR (fun h=>?_) fun h=>?_|refine dqF ?_|fail)
        all_goals exact z7 rfl rfl (hag (l2,us.set i.toNat ⟨sp⟩,fees) ⟨by simpa using hu,hrt,by simp only;omega,by simp only;omega⟩)
       ·rw [if_pos hf]
        repeat' (first|refine dq1 ?_|refine dqc ?_|refine dqm ?_|refine dqk rfl (a6) ?_|refine dqK rfl (a4) ?_|exact z6 rfl rfl|refine dqT ?_|refine dqF ?_|fail)
    ·generalize b.txs.getD i.toNat zTx=t at *
     generalize ns.getD i.toNat 0=nm at *;generalize us.getD i.toNat ⟨[]⟩=u0 at *;generalize zx l t nm b.height=q at *;obtain ⟨l2,sp,f⟩:=q;simp only at a4 hfee hrt ⊢;have hni:i > 0:=by omega
     rw [if_pos hni,if_neg (fun h=>hi0 h.1)]
     by_cases hf:f=0
     ·obtain ⟨hd1,hd2,hd3⟩:=hfee hf
      have hrt:=hrt hf;have a5:=zie t sp hd1;have hsl:(us.set i.toNat (⟨sp⟩:Undo)).length=us.length:=zY3b ..;generalize z0u t sp=fe at *
      repeat' (first|refine dq1 ?_|refine dqc ?_|refine dqm ?_|refine dqK rfl (a4) ?_|refine dqk rfl (a5) ?_|refine z5 (zev (n:=i.toNat) (x:=u0) (y:=⟨sp⟩) rfl rfl rfl rfl (by omega) (zY0h _) hu' rfl) ?_|exact z6 rfl rfl|refine tR (fun h=>?_) fun h=>?_|refine dqT ?_|refine dqF ?_|fail)
      all_goals exact z7 rfl rfl (hag (l2,us.set i.toNat ⟨sp⟩,fees+fe) ⟨by simpa using hu,hrt,by simp only;omega,by simp only;omega⟩)
     ·rw [if_pos hf]
      repeat' (first|refine dq1 ?_|refine dqc ?_|refine dqm ?_|refine dqK rfl (a4) ?_|exact z6 rfl rfl|refine dqT ?_|refine dqF ?_|fail)
   ·rintro ⟨l,us,fees⟩ ⟨hu,hcl,m1,m2⟩ again2
    rw [z3u]
    repeat' (first|refine dq1 ?_|exact z6 rfl rfl|refine dqF ?_|fail)
noncomputable def z4p:zd:=spD (fun x:List (List UInt8) × List Coin × Block × List Undo=>zoh x.1 x.2.1) fun x=>z3n ⟨x.1⟩ x.2.1 x.2.2.1 x.2.2.2
theorem zgi (ts:List (List UInt8)) (l:List Coin) (b:Block) (us:List Undo) (h:zk ⟨ts⟩=0) (hl:z9 l=0):z4p [.l 1 (ts.map z13),.l 6 (l.map zb),I b.parent,I b.height,I b.work,I b.nonce,.l 3 (b.txs.map eTx),.l 1 (us.map z2h)]=some [.l 6 ((z3n ⟨ts⟩ l b us).1.map zb),I (z3n ⟨ts⟩ l b us).2]:=zm (p:=fun x:List (List UInt8) × List Coin × Block × List Undo=>zoh x.1 x.2.1) (f:=fun x:List (List UInt8) × List Coin × Block × List Undo=>z3n ⟨x.1⟩ x.2.1 x.2.2.1 x.2.2.2) (ts,l,b,us) ⟨h,hl⟩
def zj1:T :=
 .lets [.bin .neq 36 (zI 0)] [] (.ite 37 (.ret [.c (.nil 6),36]) (.lets [.bin .add 27 (zI 1)] [] (.again 1 [35,36,25,26,.v
 38])))
def zj2:T :=
 .lets [.idx 7 29 0] [] (.lets [.call 55 [23,30,31,32,33,34] 0,.call 55 [23,30,31,32,33,34] 1] [] zj1)
def zj3:T :=
 .lets [.idx 6 29 0,.idx 6 29 1,.idx 6 29 2] [] (.lets [] [.inr 1 10 29] (.lets [.idx 10 29 0] [] (.lets [] [.inr 1 7 (.v
 29)] zj2)))
def zj4:T :=
 .ite 28 (.lets [] [.inr 1 19 27] (.lets [.idx 19 27 0] [] (.lets [] [.inr 3 6 29] zj3))) (.ret [23,zI 0])
def zj5:T :=
 .ite 21 (.lets [.mk 1 [[20]]] [] (.lets [.app 1 19 22] [] (.lets [.bin .sub 20 (zI 1)] [] (.again 0 [23,24])))) (.lets [.len 19] []
 (.loop [1,11,.c (.nil 6),zI 0,zI 0] (.lets [.bin .lss 27 22] [] zj4)))
def zj6:T :=
 .lets [.mk 1 [[zI 0]]] [] (.lets [.len 7] [] (.lets [.bin .sub 17 (zI 1)] [] (.loop [16,18] (.lets [.bin .gtr 20 (zI 0)] []
 zj5))))
def zj7:T :=
 .ite 12 (.ret [.c (.nil 6),11]) (.lets [.len 7] [] (.lets [.len 6] [] (.lets [.bin .neq 13 14] [] (.ite 15 (.ret [.c (.nil 6),zI 4])
 zj6))))
def z9h:T :=
 .lets [.call 115 [0,2,3,4,5,6] 0,.call 115 [0,2,3,4,5,6] 1,.call 115 [0,2,3,4,5,6] 2,.call 115 [0,2,
 .v 3,4,5,6] 3] [] (.lets [.bin .neq 11 (zI 0)] [] zj7)
attribute [local irreducible] z79
theorem zot:Meets Tryz.prog z4p 31 ⟨[.one,.one,.agg 5,.one],[(false,[.pure]),(false,[.scal])],false⟩:=by
 refine zl (sp:=(z0g [(55,z79),(115,z2r)])) (sigs:=z0p) (cut:=[]) (hints:=[⟨8,[.r 14 3 1,.t 15,.z 35]⟩,⟨12,[.t 1,.t 13,.r 8 101 6,.t 9,.t 49]⟩]) (fn:=Tryz.f31) (t:=z9h) (by kernel_rfl) (by kernel_rfl) (by kernel_rfl) ?_ ?_
 ·exact (z05 (L:=[(55,z79),(115,z2r)]) ⟨ze rfl z09d,ze rfl ze3,trivial⟩)
 ·rintro ds rs hok h
  obtain ⟨⟨ts,l,b,us⟩,⟨hk,hl⟩,rfl,rfl⟩:=zp h;clear h;simp only at hk hl;refine ⟨⟨100,?_⟩,z8l ⟨rfl,trivial⟩⟩
  show den _ _ z9h [.l 1 (ts.map z13),.l 6 (l.map zb),I b.parent,I b.height,I b.work,I b.nonce,.l 3 (b.txs.map eTx),.l 1 (us.map z2h)] []=ret (z3n ⟨ts⟩ l b us)
  have hsame:=z0jl (b:=b) (us:=us) hk hl;rw [← hsame];clear hsame;have a1:=z97 ts b (z86 hk);have hnm:=zhz (ts:=ts) (b:=b);unfold z9h z03y;generalize z1b ts b=nm at *;obtain ⟨tx,n0,ns,e⟩:=nm;simp only at *
  by_cases he:e=0
  rotate_left
  ·repeat' (first|refine dq1 ?_|refine dqK rfl (a1) ?_|exact z6 rfl rfl|refine tR (fun h=>?_) fun h=>?_|fail)
   all_goals (exfalso;omega)
  obtain ⟨hb,hnl⟩:=hnm he;have ok:=z1g hb;have hl4:=ok.len;have hl1:=ok.some;subst he
  by_cases hul:us.length=b.txs.length
  rotate_left
  ·repeat' (first|refine dq1 ?_|refine dqK rfl (a1) ?_|exact z6 rfl rfl|refine tR (fun h=>?_) fun h=>?_|fail)
   all_goals (exfalso;omega)
  repeat' (first|refine dq1 ?_|refine dqK rfl (a1) ?_|exact z6 rfl rfl|refine tR (fun h=>?_) fun h=>?_|fail)
  rw [show (0:Int)::z6k (b.txs.length - 1)=[0]++z6k (b.txs.length - 1) from rfl]
  (refine z032 (fun (o:List Int) k=>[.l 1 (o.map z0r),I k]) (fun (o:List Int) i=>z5c b ns us l (o++z6k i)) (fun o i=>o.length+i=b.txs.length∧∀ x ∈ o,0≤x∧x<(b.txs.length:Int)) [0] (b.txs.length - 1) ?_ ?_ ?_ ?_ ?_;exact z0h0 rfl (by omega);exact ⟨by simp;omega,fun x hx=>by rw [zY13.1 hx];omega⟩;omega)
  ·rintro o i hi ⟨ho,hoe⟩ again hag
   rw [z0js];have hag':=hag (o++[(i:Int)+1]) ⟨by simp;omega,fun y hy=>by
    rcases zY11.1 hy with hy|hy
    ·exact hoe y hy
    ·rw [zY13.1 hy];omega⟩
   clear hag;rw [show ((i:Nat):Int)=(i:Int)+1 - 1 by omega] at hag';rw [show (i:Int)+1 - 1+1=(i:Int)+1 by omega] at hag'
   repeat' (first|refine dq1 ?_|refine dqT ?_|fail)
   exact z7 rfl rfl hag'
  ·rintro o ⟨ho,hoe⟩ again
   have e0:o++z6k 0=o:=by
    have e1:z6k 0=[]:=by with_unfolding_all rfl
    rw [e1,zY1e]
   rw [e0]
   repeat' (first|refine dq1 ?_|refine dqF ?_|fail)
   (refine zr (fun (l:List Coin) k=>[.l 6 (l.map zb),I 0,.l 6 [],I 0,I k]) (fun (l:List Coin) k (r:List Int)=>z5c b ns us l r) (fun l k=>z9 l=0) l o ?_ ?_ ?_ ?_ ?_;rfl;exact hl;omega)
   ·rintro l k i r hx hd hk2 hcl again2 hag
    have hi:=hoe i (zY0a hx);have hx':b.txs[i.toNat]? = some (b.txs.getD i.toNat zTx):=z1j _ (by omega);have hn':ns[i.toNat]? = some (ns.getD i.toNat 0):=z1j 0 (by omega);have hu':us[i.toNat]? = some (us.getD i.toNat ⟨[]⟩):=z1j _ (by omega);have hct:=ok.each _ (zY0a hx');have okl:=(z17 l).1 hcl;have okt:=z39 hct;have a4:=zof l (b.txs.getD i.toNat zTx) (ns.getD i.toNat 0) (us.getD i.toNat ⟨[]⟩).spent ⟨z6d okl.sorted,by have:=okl.len;omega,by have:=okt.ins;omega,by have:=okt.outs;omega⟩;rw [z5c,zac hcl hct];rw [zac hcl hct] at a4;have hrt:=zcr (l:=l) (t:=b.txs.getD i.toNat zTx) (nm:=ns.getD i.toNat 0) (u:=(us.getD i.toNat ⟨[]⟩).spent);generalize b.txs.getD i.toNat zTx=t at *;generalize ns.getD i.toNat 0=nm at *;generalize us.getD i.toNat ⟨[]⟩=u0 at *;generalize z16 l t nm u0.spent=q at *;obtain ⟨l2,f⟩:=q;simp only at a4 hrt ⊢
    by_cases hf:f=0
    ·have hag':=hag l2 (hrt hf)
     subst hf;rw [if_neg (fun h=>h rfl)]
     repeat' (first|refine dq1 ?_|refine dqc ?_|refine dqm ?_|refine dqK rfl (a4) ?_|refine dqT ?_|refine dqF ?_|fail)
     exact z7 rfl rfl hag'
    ·rw [if_pos hf]
     repeat' (first|refine dq1 ?_|refine dqc ?_|refine dqm ?_|refine dqK rfl (a4) ?_|exact z6 rfl rfl|refine dqT ?_|fail)
   ·rintro l hcl again2
    rw [z5c]
    repeat' (first|refine dq1 ?_|exact z6 rfl rfl|refine dqF ?_|fail)
end
section
open Go.RowKit
set_option maxRecDepth 100000
set_option maxHeartbeats 4000000
attribute [local irreducible] den denX z0i z0q
noncomputable def zap:zd:=spD (fun _:List (List UInt8) × List (List UInt8)=>True) fun x=>decide (x.1=x.2)
theorem z06d (l m:List (List UInt8)):zap [.l 1 (l.map z13),.l 1 (m.map z13)]=some [.b (decide (l=m))]:=zm (f:=fun x:List (List UInt8) × List (List UInt8)=>decide (x.1=x.2)) (l,m) trivial
attribute [local irreducible] z00 spD
def z0d7:T :=
 .lets [.idx 1 7 0] [] (.lets [.bin .neq 9 10] [] (.ite 11 (.ret [.c (.b false)]) (.lets [.bin .add 7 (zI 1)] [] (.again 0 [6,12]))))
def z0d8:T :=
 .lets [.bin .lss 7 5] [] (.ite 8 (.lets [] [.inr 1 0 7] (.lets [.idx 0 7 0] [] (.lets [] [.inr 1 1 7] z0d7))) (.ret [.c (.b
 true)]))
def z0d9:T :=
 .lets [.len 1] [] (.lets [.bin .neq 2 3] [] (.ite 4 (.ret [.c (.b false)]) (.lets [.len 0] [] (.loop [.c (.b false),zI 0] z0d8))))
def zl5:T :=
 .lets [.len 0] [] z0d9
theorem z0jt:Meets Tryz.prog zap 13 ⟨[.one,.one],[(false,[.scal])],true⟩:=by
 refine zl (sp:=(z0g [])) (sigs:=z0p) (cut:=[]) (hints:=[⟨4,[.t 4,.t 13]⟩]) (fn:=Tryz.f13) (t:=zl5) (by kernel_rfl) (by kernel_rfl) (by kernel_rfl) ?_ ?_
 ·exact (z05 (L:=[]) trivial)
 ·rintro ds rs hok h
  obtain ⟨⟨l,m⟩,-,rfl,rfl⟩:=zp h;clear h;have hll:=ok_l (hok (.l 1 (l.map z13)) (zY0p ..));refine ⟨⟨l.length+1,?_⟩,z04 rfl⟩
  show den _ _ zl5 [.l 1 (l.map z13),.l 1 (m.map z13)] []=ret (decide (l=m))
  rw [zho];unfold zl5
  repeat' (first|refine dq1 ?_|exact z6 rfl rfl|refine tR (fun h=>?_) fun h=>?_|fail)
  have hlm:l.length=m.length:=by omega
  (refine zr (fun (_:Unit) k=>[.b false,I k]) (fun (_:Unit) k (r:List (List UInt8))=>decide (r=m.drop k)) (fun _ _=>True) () l ?_ ?_ ?_ ?_ ?_;rfl;exact trivial;exact zY26 _)
  ·rintro _ k x r hx hd hk - again hag
   have hy:m[k]? = some (m[k]'(by omega)):=zY03 (by omega);have hdy:m.drop k=m[k]'(by omega)::m.drop (k+1):=zY1j (by omega);rw [hdy];generalize m[k]'(by omega)=y at *;have e:decide (x::r=y::m.drop (k+1))=if decide (x≠y)=true then false else decide (r=m.drop (k+1)):=by
    by_cases h:x=y
    ·simp [h]
    ·simp [h]
   rw [e];have hkm:k<m.length:=by omega
   repeat' (first|refine dq1 ?_|refine dqc ?_|exact z6 rfl rfl|exact z7 rfl rfl (hag () trivial)|refine tB (fun h=>?_) fun h=>?_|refine dqT ?_|fail)
  ·rintro _ - again
   rw [hlm,zY2x]
   repeat' (first|refine dq1 ?_|exact z6 rfl rfl|refine dqF ?_|fail)
end
section
open Go.RowKit
open Go.Lib (itoa)
set_option maxRecDepth 100000
set_option maxHeartbeats 8000000
theorem z0db {k:Book} {b:Block} (h:zf b≠0):z09 k b=([],0,[],zf b):=by
 unfold z09;have e:z0h b=([],zf b):=by unfold z0h;rw [if_pos h]
 rw [e,if_pos h]
theorem z0dc {k:Book} {b:Block} (hb:zf b=0) (h:zk k≠0):z09 k b=([],0,[],zk k):=by
 unfold z09 z9u z0z;rw [zji hb,if_neg (fun k=>k rfl),if_pos h,if_pos h]
theorem zii {k:Book} {l:List Coin} {b:Block} (h:z9 l≠0):z1n k l b=([],[],z9 l):=by
 unfold z1n;rw [if_pos h]
theorem zl7 {k:Book} {l:List Coin} {b:Block} {us:List Undo} (h:z9 l≠0):z3n k l b us=([],z9 l):=by
 unfold z3n;rw [if_pos h]
theorem zss {k:Book} {l:List Coin} {b:Block} (h:z9 l=0) {e:Int} (hn:z09 k b=([],0,[],e)) (he:e≠0):z1n k l b=([],[],e):=by
 unfold z1n;rw [if_neg (fun k=>k h),hn,if_pos he]
theorem z06f {k:Book} {l:List Coin} {b:Block} {us:List Undo} (h:z9 l=0) {e:Int} (hn:z09 k b=([],0,[],e)) (he:e≠0):z3n k l b us=([],e):=by
 unfold z3n;rw [if_neg (fun k=>k h),hn,if_pos he]
attribute [local irreducible] z00 spD z09 z1n z3n zk z9 zf z1b
attribute [local irreducible] den denX z0i z0q
noncomputable def zr5:zd:=spD (fun x:Book × List Coin × Block × List Undo=>z95 x.2.2.2) fun _=>true
def zdp:T :=
 .lets [.bin .add 34 35] [] (.lets [.len 15] [] (.lets [.bin .add 36 37] [] (.lets [.bin .eql 38 (zI 0)] [] (.ret [39]))))
def zou:T :=
 .ite 32 (.lets [.bin .eql 16 29] [] (.ite 33 (.lets [.len 12] [] (.lets [.len 13] [] zdp)) (.ret [.c (.b false)]))) (.ret [.c (.b false)])
def zov:T :=
 .ite 39 (.lets [.bin .eql 16 36] [] (.ite 40 (.lets [.call 26 [15,35] 0] [] (.ret [41])) (.ret [.c (.b false)]))) (.ret [.c (.b false)])
def zow:T :=
 .ite 37 (.lets [.call 26 [12,32] 0] [] (.ite 38 (.lets [.call 118 [13,33] 0] [] zov) (.ret [.c (.b false)]))) (.ret [.c (.b false)])
def zox:T :=
 .lets [.call 120 [0,1,2,3,4,5,6,7] 0,.call 120 [0,1,2,3,4,5,6,7] 1] [] (.lets [.bin .eql 14 34] []
 zow)
def zdq:T :=
 .lets [.call 119 [0,1,2,3,4,5,6] 0,.call 119 [0,1,2,3,4,5,6] 1,.call 119 [0,1,2,3,4,5,6] 2] []
 zox
def zoy:T :=
 .ite 32 (.lets [.bin .eql 16 19] [] (.ite 33 (.lets [.len 12] [] (.lets [.len 13] [] zdp)) (.ret [.c (.b false)]))) (.ret [.c (.b false)])
def zoz:T :=
 .ite 30 (.lets [.bin .neq 29 (zI 0)] [] (.ite 31 (.lets [.bin .eql 14 29] [] zou) zdq)) (.lets [.bin .neq 19 (.c (.i
 .i64 0))] [] (.ite 31 (.lets [.bin .eql 14 19] [] zoy) zdq))
def zp0:T :=
 .lets [.bin .neq 27 (zI 0)] [] (.ite 28 (.ret [.c (.b false)]) (.lets [.call 25 [1] 0] [] (.lets [.bin .neq 29 (zI 0)] [] zoz)))
def zp1:T :=
 .lets [.bin .neq 9 (zI 0)] [] (.ite 24 (.ret [.c (.b false)]) (.lets [.len 10] [] (.lets [.len 8] [] (.lets [.bin .add 25 26] []
 zp0))))
def zcy:T :=
 .lets [.bin .add 38 39] [] (.lets [.len 15] [] (.lets [.bin .add 40 41] [] (.lets [.bin .eql 42 (zI 0)] [] (.ret [43]))))
def zl8:T :=
 .ite 36 (.lets [.bin .eql 16 33] [] (.ite 37 (.lets [.len 12] [] (.lets [.len 13] [] zcy)) (.ret [.c (.b false)]))) (.ret [.c (.b false)])
def zl9:T :=
 .ite 43 (.lets [.bin .eql 16 40] [] (.ite 44 (.lets [.call 26 [15,39] 0] [] (.ret [45])) (.ret [.c (.b false)]))) (.ret [.c (.b false)])
def zla:T :=
 .ite 41 (.lets [.call 26 [12,36] 0] [] (.ite 42 (.lets [.call 118 [13,37] 0] [] zl9) (.ret [.c (.b false)]))) (.ret [.c (.b false)])
def zlb:T :=
 .lets [.call 120 [0,1,2,3,4,5,6,7] 0,.call 120 [0,1,2,3,4,5,6,7] 1] [] (.lets [.bin .eql 14 38] []
 zla)
def zcz:T :=
 .lets [.call 119 [0,1,2,3,4,5,6] 0,.call 119 [0,1,2,3,4,5,6] 1,.call 119 [0,1,2,3,4,5,6] 2] []
 zlb
def zlc:T :=
 .ite 36 (.lets [.bin .eql 16 19] [] (.ite 37 (.lets [.len 12] [] (.lets [.len 13] [] zcy)) (.ret [.c (.b false)]))) (.ret [.c (.b false)])
def zld:T :=
 .ite 34 (.lets [.bin .neq 33 (zI 0)] [] (.ite 35 (.lets [.bin .eql 14 33] [] zl8) zcz)) (.lets [.bin .neq 19 (.c
 (.i .i64 0))] [] (.ite 35 (.lets [.bin .eql 14 19] [] zlc) zcz))
def zle:T :=
 .lets [.call 69 [8,23] 0] [] (.lets [.not 31] [] (.ite 32 (.ret [.c (.b false)]) (.lets [.call 25 [1] 0] [] (.lets [.bin .neq 33 (zI 0)] []
 zld))))
def zlf:T :=
 .lets [.bin .neq 9 24] [] (.ite 28 (.ret [.c (.b false)]) (.lets [.call 46 [10,25] 0] [] (.lets [.not 29] [] (.ite 30 (.ret [.c (.b false)])
 zle))))
def zlg:T :=
 .lets [.call 115 [0,2,3,4,5,6] 0,.call 115 [0,2,3,4,5,6] 1,.call 115 [0,2,3,4,5,6] 2,.call 115 [0,2,
 .v 3,4,5,6] 3] [] (.lets [.bin .neq 11 26] [] (.ite 27 (.ret [.c (.b false)]) zlf))
def zlh:T :=
 .lets [.bin .neq 19 (zI 0)] [] (.ite 22 (.lets [.bin .neq 11 19] [] (.ite 23 (.ret [.c (.b false)]) zp1)) zlg)
def zd0:T :=
 .lets [.bin .add 33 34] [] (.lets [.len 15] [] (.lets [.bin .add 35 36] [] (.lets [.bin .eql 37 (zI 0)] [] (.ret [38]))))
def zli:T :=
 .ite 31 (.lets [.bin .eql 16 28] [] (.ite 32 (.lets [.len 12] [] (.lets [.len 13] [] zd0)) (.ret [.c (.b false)]))) (.ret [.c (.b false)])
def zlj:T :=
 .ite 38 (.lets [.bin .eql 16 35] [] (.ite 39 (.lets [.call 26 [15,34] 0] [] (.ret [40])) (.ret [.c (.b false)]))) (.ret [.c (.b false)])
def zlk:T :=
 .ite 36 (.lets [.call 26 [12,31] 0] [] (.ite 37 (.lets [.call 118 [13,32] 0] [] zlj) (.ret [.c (.b false)]))) (.ret [.c (.b false)])
def zll:T :=
 .lets [.call 120 [0,1,2,3,4,5,6,7] 0,.call 120 [0,1,2,3,4,5,6,7] 1] [] (.lets [.bin .eql 14 33] []
 zlk)
def zd1:T :=
 .lets [.call 119 [0,1,2,3,4,5,6] 0,.call 119 [0,1,2,3,4,5,6] 1,.call 119 [0,1,2,3,4,5,6] 2] []
 zll
def zlm:T :=
 .ite 31 (.lets [.bin .eql 16 17] [] (.ite 32 (.lets [.len 12] [] (.lets [.len 13] [] zd0)) (.ret [.c (.b false)]))) (.ret [.c (.b false)])
def zln:T :=
 .ite 29 (.lets [.bin .neq 28 (zI 0)] [] (.ite 30 (.lets [.bin .eql 14 28] [] zli) zd1)) (.lets [.bin .neq 17 (.c
 (.i .i64 0))] [] (.ite 30 (.lets [.bin .eql 14 17] [] zlm) zd1))
def zlo:T :=
 .lets [.bin .neq 26 (zI 0)] [] (.ite 27 (.ret [.c (.b false)]) (.lets [.call 25 [1] 0] [] (.lets [.bin .neq 28 (zI 0)] [] zln)))
def zlp:T :=
 .lets [.bin .neq 9 (zI 0)] [] (.ite 23 (.ret [.c (.b false)]) (.lets [.len 10] [] (.lets [.len 8] [] (.lets [.bin .add 24 25] []
 zlo))))
def zd2:T :=
 .lets [.bin .add 37 38] [] (.lets [.len 15] [] (.lets [.bin .add 39 40] [] (.lets [.bin .eql 41 (zI 0)] [] (.ret [42]))))
def zlq:T :=
 .ite 35 (.lets [.bin .eql 16 32] [] (.ite 36 (.lets [.len 12] [] (.lets [.len 13] [] zd2)) (.ret [.c (.b false)]))) (.ret [.c (.b false)])
def zlr:T :=
 .ite 42 (.lets [.bin .eql 16 39] [] (.ite 43 (.lets [.call 26 [15,38] 0] [] (.ret [44])) (.ret [.c (.b false)]))) (.ret [.c (.b false)])
def zls:T :=
 .ite 40 (.lets [.call 26 [12,35] 0] [] (.ite 41 (.lets [.call 118 [13,36] 0] [] zlr) (.ret [.c (.b false)]))) (.ret [.c (.b false)])
def zlt:T :=
 .lets [.call 120 [0,1,2,3,4,5,6,7] 0,.call 120 [0,1,2,3,4,5,6,7] 1] [] (.lets [.bin .eql 14 37] []
 zls)
def zd3:T :=
 .lets [.call 119 [0,1,2,3,4,5,6] 0,.call 119 [0,1,2,3,4,5,6] 1,.call 119 [0,1,2,3,4,5,6] 2] []
 zlt
def zlu:T :=
 .ite 35 (.lets [.bin .eql 16 17] [] (.ite 36 (.lets [.len 12] [] (.lets [.len 13] [] zd2)) (.ret [.c (.b false)]))) (.ret [.c (.b false)])
def zlv:T :=
 .ite 33 (.lets [.bin .neq 32 (zI 0)] [] (.ite 34 (.lets [.bin .eql 14 32] [] zlq) zd3)) (.lets [.bin .neq 17 (.c
 (.i .i64 0))] [] (.ite 34 (.lets [.bin .eql 14 17] [] zlu) zd3))
def zlw:T :=
 .lets [.call 69 [8,22] 0] [] (.lets [.not 30] [] (.ite 31 (.ret [.c (.b false)]) (.lets [.call 25 [1] 0] [] (.lets [.bin .neq 32 (zI 0)] []
 zlv))))
def zlx:T :=
 .lets [.bin .neq 9 23] [] (.ite 27 (.ret [.c (.b false)]) (.lets [.call 46 [10,24] 0] [] (.lets [.not 28] [] (.ite 29 (.ret [.c (.b false)])
 zlw))))
def zly:T :=
 .lets [.call 115 [0,2,3,4,5,6] 0,.call 115 [0,2,3,4,5,6] 1,.call 115 [0,2,3,4,5,6] 2,.call 115 [0,2,
 .v 3,4,5,6] 3] [] (.lets [.bin .neq 11 25] [] (.ite 26 (.ret [.c (.b false)]) zlx))
def zlz:T :=
 .lets [.bin .neq 17 (zI 0)] [] (.ite 21 (.lets [.bin .neq 11 17] [] (.ite 22 (.ret [.c (.b false)]) zlp)) zly)
def zm0:T :=
 .ite 18 (.lets [.call 111 [0] 0] [] (.lets [.call 70 [] 0] [] (.lets [.not 20] [] (.ite 21 (.ret [.c (.b false)]) zlh)))) (.lets [.call 70 [] 0] []
 (.lets [.not 19] [] (.ite 20 (.ret [.c (.b false)]) zlz)))
def zm1:T :=
 .lets [.call 82 [0,1,2,3,4,5,6,7] 0,.call 82 [0,1,2,3,4,5,6,7] 1] [] (.lets [.call 96 [2,3,4,5,6]
 0] [] (.lets [.bin .eql 17 (zI 0)] [] zm0))
def zm2:T :=
 .lets [.call 67 [0,1,2,3,4,5,6] 0,.call 67 [0,1,2,3,4,5,6] 1,.call 67 [0,1,2,3,4,5,6] 2] []
 zm1
def zb5:T :=
 .lets [.call 65 [0,2,3,4,5,6] 0,.call 65 [0,2,3,4,5,6] 1,.call 65 [0,2,3,4,5,6] 2,.call 65 [0,2,3,
 .v 4,5,6] 3] [] zm2
attribute [local irreducible] z2w z7m z26 z5q zap zcp z2r z3t z65 z1t z69 z4p z3c z68
theorem zx3:Meets Tryz.prog zr5 5 ⟨[.agg 1,.one,.agg 5,.one],[(false,[.scal])],true⟩:=by
 refine zl (sp:=(z0g [(25,z1t),(26,z3c),(46,z5q),(65,z26),(67,z2w),(69,zap),(70,zcp),(82,z7m),(96,z3t),(111,z65),(115,z2r),(118,z68),(119,z69),(120,z4p)])) (sigs:=z0p) (cut:=[]) (hints:=[]) (fn:=Tryz.f5) (t:=zb5) (by kernel_rfl) (by kernel_rfl) (by kernel_rfl) ?_ ?_
 ·exact (z05 (L:=[(25,z1t),(26,z3c),(46,z5q),(65,z26),(67,z2w),(69,zap),(70,zcp),(82,z7m),(96,z3t),(111,z65),(115,z2r),(118,z68),(119,z69),(120,z4p)]) ⟨ze rfl zb1,ze rfl zhp,ze rfl z01k,ze rfl zbl,ze rfl zhx,ze rfl z0jt,ze rfl z0m5,ze rfl z0fx,ze rfl zjs,ze rfl z03j,ze rfl ze3,ze rfl z06b,ze rfl z06c,ze rfl zot,trivial⟩)
 ·rintro ds rs - h
  obtain ⟨⟨k,l,b,us⟩,hus,rfl,rfl⟩:=zp h;clear h;simp only at hus;refine ⟨⟨1,?_⟩,z04 rfl⟩
  show den _ _ zb5 [.l 1 (k.texts.map z13),.l 6 (l.map zb),I b.parent,I b.height,I b.work,I b.nonce,.l 3 (b.txs.map eTx),.l 1 (us.map z2h)] []=ret true
  have a1:=z7i k b;have a2:=zcn k l b;have a3:=zu3 k l b us hus;have a4:=zdm b;have a5:=zkt k;have a6:=z08r;have a7:=z5e l;have z1:([]:List Int).length=0:=rfl;have z2:([]:List (List UInt8)).length=0:=rfl;have z3:([]:List Coin).length=0:=rfl;have z4:([]:List Undo).length=0:=rfl;unfold zb5
  by_cases hb:zf b=0
  rotate_left
  ·have hn:=z0db (k:=k) hb
   rw [hn] at a1
   by_cases hl:z9 l=0
   ·rw [zss hl hn hb] at a2
    rw [z06f hl hn hb] at a3;rw [hl] at a7;clear hn;generalize zf b=e at *
    repeat' (first|refine dq1 ?_|refine dqK rfl (a1) ?_|refine dqK rfl (a2) ?_|refine dqK rfl (a3) ?_|refine dqk rfl (a4) ?_|refine dqk rfl (a6) ?_|refine dqk rfl (a7) ?_|exact z6 rfl rfl|refine dqT ?_|refine dqF ?_|refine z0j rfl ?_|refine z0o rfl ?_|fail)
   ·rw [zii hl] at a2
    rw [zl7 hl] at a3;clear hn;generalize zf b=e at *;generalize z9 l=f at *
    repeat' (first|refine dq1 ?_|refine dqK rfl (a1) ?_|refine dqK rfl (a2) ?_|refine dqK rfl (a3) ?_|refine dqk rfl (a4) ?_|refine dqk rfl (a6) ?_|refine dqk rfl (a7) ?_|exact z6 rfl rfl|refine dqT ?_|refine dqF ?_|refine z0j rfl ?_|refine z0o rfl ?_|fail)
  by_cases hk:zk k=0
  rotate_left
  ·have hn:=z0dc hb hk
   rw [hn] at a1;rw [hb] at a4
   by_cases hl:z9 l=0
   ·rw [zss hl hn hk] at a2
    rw [z06f hl hn hk] at a3;rw [hl] at a7;clear hn;generalize zk k=e at *
    repeat' (first|refine dq1 ?_|refine dqK rfl (a1) ?_|refine dqK rfl (a2) ?_|refine dqK rfl (a3) ?_|refine dqk rfl (a4) ?_|refine dqk rfl (a5) ?_|refine dqk rfl (a6) ?_|refine dqk rfl (a7) ?_|exact z6 rfl rfl|refine dqT ?_|refine dqF ?_|refine z0j rfl ?_|refine z0o rfl ?_|fail)
   ·rw [zii hl] at a2
    rw [zl7 hl] at a3;clear hn;generalize zk k=e at *;generalize z9 l=f at *
    repeat' (first|refine dq1 ?_|refine dqK rfl (a1) ?_|refine dqK rfl (a2) ?_|refine dqK rfl (a3) ?_|refine dqk rfl (a4) ?_|refine dqk rfl (a5) ?_|refine dqk rfl (a6) ?_|refine dqk rfl (a7) ?_|exact z6 rfl rfl|refine dqT ?_|refine dqF ?_|refine z0j rfl ?_|refine z0o rfl ?_|fail)
  have b1:=z97 k.texts b (z86 (bk:=k) hk);rw [zfy hk] at b1;have b2:=fun hl=>zl4 k.texts l b hk hl
  have b3:=fun hl=>zgi k.texts l b us hk hl
  rw [hb] at a4;rw [hk] at a5;generalize z09 k b=q at *;obtain ⟨x,n,ns,e⟩:=q;simp only at a1 b1;have c1:=zhl ns ns;have c2:=z06d x x;rw [decide_eq_true rfl] at c1 c2
  by_cases hl:z9 l=0
  ·have b2:=b2 hl
   have b3:=b3 hl;rw [hl] at a7;generalize z1n k l b=w at *;obtain ⟨m,vs,f⟩:=w;generalize z3n k l b us=v at *;obtain ⟨d,g⟩:=v;simp only at a2 a3 b2 b3;have c3:=z8b m m;have c4:=z8b d d;have c5:=zl3 vs vs;rw [decide_eq_true rfl] at c3 c4 c5
   repeat' (first|refine dq1 ?_|refine dqK rfl (a1) ?_|refine dqK rfl (a2) ?_|refine dqK rfl (a3) ?_|refine dqk rfl (a4) ?_|refine dqk rfl (a5) ?_|refine dqk rfl (a6) ?_|refine dqk rfl (a7) ?_|refine dqK rfl (b1) ?_|refine dqK rfl (b2) ?_|refine dqK rfl (b3) ?_|refine dqk rfl (c1) ?_|refine dqk rfl (c2) ?_|refine dqk rfl (c3) ?_|refine dqk rfl (c4) ?_|refine dqk rfl (c5) ?_|exact z6 rfl rfl|refine dqF ?_|refine z0j rfl ?_|refine z0o rfl ?_|fail)
  ·clear b2 b3
   rw [zii hl] at a2;rw [zl7 hl] at a3;generalize z9 l=f at *
   repeat' (first|refine dq1 ?_|refine dqK rfl (a1) ?_|refine dqK rfl (a2) ?_|refine dqK rfl (a3) ?_|refine dqk rfl (a4) ?_|refine dqk rfl (a5) ?_|refine dqk rfl (a6) ?_|refine dqk rfl (a7) ?_|refine dqK rfl (b1) ?_|refine dqk rfl (c1) ?_|refine dqk rfl (c2) ?_|exact z6 rfl rfl|refine dqT ?_|refine dqF ?_|refine z0j rfl ?_|refine z0o rfl ?_|fail)
theorem blockConnect_walk (k:Book) (c_k:List Value) (l:List (Coin)) (A_l:Option Addr) (n_l c_l:Nat) (b:Block) (c_b:List Value) (us:List (Undo)) (A_us:Option Addr) (n_us c_us:Nat) (w:World) (h_k:shBook.rep w (Lt w.heap.size) k c_k) (h_l:Rds shCoin w (Lt w.heap.size) l A_l n_l c_l) (h_b:shBlock.rep w (Lt w.heap.size) b c_b) (h_us:Rds shUndo w (Lt w.heap.size) us A_us n_us c_us) (z_us:∀ u ∈ us,∀ c ∈ u.spent,c.o.lock.length≤8796093021952) (hG:Glob w) :
  Calls Tryz.prog 5 #[.agg c_k.toArray,.slice A_l n_l c_l,.agg c_b.toArray,.slice A_us n_us c_us] w fun e w'=>e = .returned (.bool true)∧Below w.heap.size w w' :=
 zje (F:=Lt w.heap.size) (us:=[.agg c_k.toArray,.slice A_l n_l c_l,.agg c_b.toArray,.slice A_us n_us c_us]) rfl (z2t (fn:=Tryz.f5) (by kernel_rfl) (by kernel_rfl) (by kernel_rfl)) zx3 ⟨fun _ h=>h,hG⟩ (zm (f:=fun _=>true) (k,l,b,us) (fun u hu c hc=>zY3e (z_us u hu c hc) (by omega)))
  (zmm (d1:=zbd k) (she_book.to h_k) rfl (zf8 (z8h she_coin h_l) (zmm (d1:=z7w b) (she_block.to h_b) rfl (zf8 (z8h z0hx h_us) zml))))
end
end Go.Proofs.YtaddehddalnliaaGreatDoor
