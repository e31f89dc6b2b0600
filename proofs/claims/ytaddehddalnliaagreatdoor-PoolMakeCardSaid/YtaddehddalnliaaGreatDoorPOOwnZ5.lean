/- Own texts, put together by wip/bundle.py: VQ4, VQ5, VQ6, VQ7, VQ8, VQ9, VQ10, VUB, VUD, VUE, VE2, VL5, VL5a, VL5b, VL5c, VL6, VUC, VE3, VE5, VE6, VE7, VC7, VTxR, VW26. -/
import Derived.Deep.DeepCutAuto
import Derived.Deep.Light
import Derived.Sort.AssemblyPlain
import Derived.Shelf.SlSortFuncK.BreakPatternsK
import Derived.Shelf.GgSortFunc.SmallK
import Derived.Shelf.GgSortFunc.Slice
import Derived.Shelf.GgSortFunc.Tiny
import Derived.Test.YtaddehddalnliaaGreatDoorShelf4
import Derived.Test.YtaddehddalnliaaGreatDoorPOOwnB
import Derived.Test.YtaddehddalnliaaGreatDoorPOOwnC
import Derived.Test.YtaddehddalnliaaGreatDoorPOOwnR
import Derived.Test.YtaddehddalnliaaGreatDoorPOOwnS
import Derived.Test.YtaddehddalnliaaGreatDoorPOOwnV2
import Derived.Test.YtaddehddalnliaaGreatDoorPOOwnZ2
import Derived.Test.YtaddehddalnliaaGreatDoorPOOwnZ4
set_option linter.unusedVariables false
set_option linter.unusedSimpArgs false
namespace Go.Proofs.YtaddehddalnliaaGreatDoor
section
open Go.RowKit
set_option maxRecDepth 100000
set_option maxHeartbeats 4000000
attribute [local irreducible] z00 spD z1e zb zf z1z z7 z0o z3y
attribute [local irreducible] den denX z0f z0k
noncomputable def z56:z9:=spD z96 fun x=>z16 x.1 x.2
theorem zi9 (t:Tx) (l:List Coin) (h:z96 (t,l)):z56 [I t.height,.l 3 (t.ins.map eIn),.l 2 (t.outs.map z17),.l 6 (l.map zd)]=some [I (z16 t l)]:=zg (p:=z96) (f:=fun x:Tx × List Coin=>z16 x.1 x.2) (t,l) h
def z0d1:T :=
 .lets [.idx 3 6 0,.idx 3 6 1,.idx 3 6 2,.idx 3 6 3,.idx 3 6 4,.idx 3 6 5] [] (.lets [.bin .add 5 10] []
 (.lets [.bin .add 6 (zI 1)] [] (.again 0 [14,15])))
def z0d2:T :=
 .lets [.idx 2 10 0,.idx 2 10 1] [] (.lets [.bin .sub 9 12] [] (.lets [.bin .add 10 (zI 1)] [] (.again 1 [14,15])))
def z0d3:T :=
 .lets [.len 2] [] (.loop [5,zI 0] (.lets [.bin .lss 10 8] [] (.ite 11 (.lets [] [.inr 2 2 10] z0d2) (.ret [9]))))
def zko:T :=
 .lets [.len 3] [] (.loop [zI 0,zI 0] (.lets [.bin .lss 6 4] [] (.ite 7 (.lets [] [.inr 6 3 6] z0d1) z0d3)))
theorem z05b:Meets Tryz.prog z56 56 ⟨[.agg 3,.one],[(false,[.scal])],true⟩:=by
 refine zj (sp:=(z07 [])) (sigs:=z0i) (cut:=[]) (hints:=[⟨3,[.t 5,.t 12]⟩,⟨8,[.t 5,.t 25]⟩]) (fn:=Tryz.f56) (t:=zko) (by kernel_rfl) (by kernel_rfl) (by kernel_rfl) ?_ ?_
 ·exact (z01 (L:=[]) trivial)
 ·rintro ds rs - h
  obtain ⟨⟨t,l⟩,⟨h1,h2,h3,h4⟩,rfl,rfl⟩:=zi h;clear h;simp only at h1 h2 h3 h4;refine ⟨⟨l.length+t.outs.length+1,?_⟩,zy rfl⟩
  show den _ _ zko [I t.height,.l 3 (t.ins.map eIn),.l 2 (t.outs.map z17),.l 6 (l.map zd)] []=ret (z16 t l)
  unfold zko z16
  repeat' (first|refine dq1 ?_|fail)
  (refine zw (fun (s:Int) k=>[I s,I k]) (fun (s:Int) _ (r:List Coin)=>t.outs.foldl (fun s o=>s - o.coin) (r.foldl (fun s c=>s+c.o.coin) s)) (fun s k=>0≤s∧s≤k * 1000000000) (0:Int) l ?_ ?_ ?_ ?_ ?_;rfl;exact ⟨by omega,by omega⟩;omega)
  ·rintro s k c r hx hd hkl ⟨h0,h5⟩ again hag
   have hc:=h2 c (zY0f hx)
   repeat' (first|refine dq1 ?_|refine dqc ?_|refine dqm ?_|refine dqT ?_|fail)
   exact z6 rfl rfl (hag (s+c.o.coin) ⟨by omega,by omega⟩)
  ·rintro s ⟨h0,h5⟩ again
   repeat' (first|refine dq1 ?_|refine dqF ?_|fail)
   (refine zw (fun (s:Int) k=>[I s,I k]) (fun (s:Int) _ (r:List Out)=>r.foldl (fun s o=>s - o.coin) s) (fun s k => - (k * 1000000000)≤s∧s≤l.length * 1000000000) s t.outs ?_ ?_ ?_ ?_ ?_;rfl;exact ⟨by omega,by omega⟩;omega)
   ·rintro s k c r hx hd hkl ⟨h0,h5⟩ again' hag
    have hc:=h4 c (zY0f hx)
    repeat' (first|refine dq1 ?_|refine dqc ?_|refine dqm ?_|refine dqT ?_|fail)
    exact z6 rfl rfl (hag (s - c.coin) ⟨by omega,by omega⟩)
   ·rintro s ⟨h0,h5⟩ again'
    repeat' (first|refine dq1 ?_|exact z5 rfl rfl|refine dqF ?_|fail)
attribute [local irreducible] z16
structure SpJ (l:List Coin) (st:List Coin × List Coin) (k:Nat):Prop where
 dist:z24 st.1
 len:st.1.length≤l.length
 good:∀ c ∈ st.1,z4b c=0
 cnt:st.2.length=k
 spent:∀ c ∈ st.2,z4b c=0
theorem SpJ.cut {l:List Coin} {r s:List Coin} {k:Nat} {c:Coin} {j:Nat} (h:SpJ l (r,s) k) (hc:r[j]? = some c):SpJ l (r.take j++r.drop (j+1),s++[c]) (k+1):=by
 refine ⟨z037 h.dist j,?_,fun d hd=>?_,?_,fun d hd=>?_⟩
 ·have:=h.len
  simp only [zY06,zY0b,zY0y] at this ⊢;omega
 ·rcases zY0z.1 hd with hd|hd
  ·exact h.good d (zY2j hd)
  ·exact h.good d (zY2d hd)
 ·have:=h.cnt
  simp only [zY06,zY1o] at this ⊢;omega
 ·rcases zY0z.1 hd with hd|hd
  ·exact h.spent d hd
  ·rw [zY19.1 hd];exact h.good c (zY0f hc)
theorem SpJ.fee {l:List Coin} {r s:List Coin} {t:Tx} (h:SpJ l (r,s) t.ins.length) (ht:TxOK t):z96 (t,s):=by
 have h1:=h.cnt;have h2:=ht.ins;have h3:=ht.outs;simp only at h1;refine ⟨by simp only;omega,fun c hc=>?_,by simp only;omega,fun o ho=>?_⟩
 ·have:=z3m (h.spent c hc)
  exact ⟨by omega,by omega⟩
 ·have:=ht.good o ho
  exact ⟨by omega,by omega⟩
noncomputable def z4a:z9:=spD (fun x:List Coin × Tx × Int × Int=>zb x.1=0∧zf x.2.1=0) fun x=>z4m x.1 x.2.1 x.2.2.1 x.2.2.2
theorem zeq (l:List Coin) (t:Tx) (nm h:Int) (hl:zb l=0) (ht:zf t=0):z4a [.l 6 (l.map zd),I t.height,.l 3 (t.ins.map eIn),.l 2 (t.outs.map z17),I nm,I h]=some [.l 6 ((z4m l t nm h).1.map zd),.l 6 ((z4m l t nm h).2.1.map zd),I (z4m l t nm h).2.2]:=zg (f:=fun x:List Coin × Tx × Int × Int=>z4m x.1 x.2.1 x.2.2.1 x.2.2.2) (l,t,nm,h) ⟨hl,ht⟩
def z05c:T :=
 .lets [.mk 1 [[38],[40]]] [] (.lets [.call 52 [41] 0] [] (.lets [.bin .add 19 (zI 1)] [] (.again 0 [37,16,17,42,43])))
def z05d:T :=
 .lets [.app 6 15 36] [] (.lets [.sub 6 18 none (some 24)] [] (.lets [.bin .add 24 (zI 1)] [] (.lets [.sub 6 18 (some 39) none] []
 z05c)))
def z05e:T :=
 .lets [.not 34] [] (.ite 35 (.ret [.c (.nil 6),.c (.nil 6),zI 8]) (.lets [.mk 6 [[26,27,28,29,30,31]]] [] z05d))
def z05f:T :=
 .lets [.bin .add 30 (zI 2)] [] (.lets [.bin .gtr 32 5] [] (.ite 33 (.ret [.c (.nil 6),.c (.nil 6),zI 10]) (.lets [.call 44 [29,23,
 .v 5] 0] [] z05e)))
def z05g:T :=
 .lets [.mk 1 [[36],[38]]] [] (.lets [.call 52 [39] 0] [] (.lets [.bin .add 19 (zI 1)] [] (.again 0 [35,16,17,40,41])))
def z05h:T :=
 .lets [.app 6 15 34] [] (.lets [.sub 6 18 none (some 24)] [] (.lets [.bin .add 24 (zI 1)] [] (.lets [.sub 6 18 (some 37) none] []
 z05g)))
def z05i:T :=
 .lets [.not 32] [] (.ite 33 (.ret [.c (.nil 6),.c (.nil 6),zI 8]) (.lets [.mk 6 [[26,27,28,29,30,31]]] [] z05h))
def z05j:T :=
 .lets [.idx 18 24 0,.idx 18 24 1,.idx 18 24 2,.idx 18 24 3,.idx 18 24 4,.idx 18 24 5] [] (.ite 31 z05f
 (.lets [.call 44 [29,23,5] 0] [] z05i))
def z05k:T :=
 .lets [.call 49 [18,21,22] 0] [] (.lets [.bin .lss 24 (zI 0)] [] (.ite 25 (.ret [.c (.nil 6),.c (.nil 6),zI 7]) (.lets [] [.inr 6 18
 24] z05j)))
def z05l:T :=
 .lets [.mk 6 [[4,25,27,28,5,11]]] [] (.lets [.app 6 31 32] [] (.lets [.bin .add 25 (zI 1)] [] (.again 1 [22,23,33,.v
 34])))
def zv9:T :=
 .lets [.call 49 [24,4,25] 0] [] (.lets [.bin .geq 29 (zI 0)] [] (.ite 30 (.ret [.c (.nil 6),.c (.nil 6),zI 6]) (.lets [.call 9 [24] 0]
 [] z05l)))
def zva:T :=
 .lets [.call 25 [27] 0] [] (.lets [.bin .neq 28 (zI 0)] [] (.ite 29 (.ret [.c (.nil 6),.c (.nil 6),28]) (.ret [27,15,zI 0])))
def zvb:T :=
 .ite 26 (.lets [] [.inr 2 3 25] (.lets [.idx 3 25 0,.idx 3 25 1] [] zv9)) (.lets [.call 50 [24] 0] [] zva)
def zvc:T :=
 .ite 20 (.lets [] [.inr 3 2 19] (.lets [.idx 2 19 0,.idx 2 19 1,.idx 2 19 2] [] z05k)) (.lets [.len 3] [] (.loop [16,
 .v 17,18,zI 0] (.lets [.bin .lss 25 21] [] zvb)))
def zvd:T :=
 .lets [.call 9 [0] 0] [] (.lets [.len 2] [] (.loop [.c (.nil 6),.c (.nil 6),zI 0,13,zI 0] (.lets [.bin .lss 19 14] [] zvc)))
def zve:T :=
 .lets [.mk 1 [[37],[39]]] [] (.lets [.call 52 [40] 0] [] (.lets [.bin .add 18 (zI 1)] [] (.again 0 [36,15,16,41,42])))
def zvf:T :=
 .lets [.app 6 14 35] [] (.lets [.sub 6 17 none (some 23)] [] (.lets [.bin .add 23 (zI 1)] [] (.lets [.sub 6 17 (some 38) none] []
 zve)))
def zvg:T :=
 .lets [.not 33] [] (.ite 34 (.ret [.c (.nil 6),.c (.nil 6),zI 8]) (.lets [.mk 6 [[25,26,27,28,29,30]]] [] zvf))
def zvh:T :=
 .lets [.bin .add 29 (zI 2)] [] (.lets [.bin .gtr 31 5] [] (.ite 32 (.ret [.c (.nil 6),.c (.nil 6),zI 10]) (.lets [.call 44 [28,22,
 .v 5] 0] [] zvg)))
def zvi:T :=
 .lets [.mk 1 [[35],[37]]] [] (.lets [.call 52 [38] 0] [] (.lets [.bin .add 18 (zI 1)] [] (.again 0 [34,15,16,39,40])))
def zvj:T :=
 .lets [.app 6 14 33] [] (.lets [.sub 6 17 none (some 23)] [] (.lets [.bin .add 23 (zI 1)] [] (.lets [.sub 6 17 (some 36) none] []
 zvi)))
def zvk:T :=
 .lets [.not 31] [] (.ite 32 (.ret [.c (.nil 6),.c (.nil 6),zI 8]) (.lets [.mk 6 [[25,26,27,28,29,30]]] [] zvj))
def zvl:T :=
 .lets [.idx 17 23 0,.idx 17 23 1,.idx 17 23 2,.idx 17 23 3,.idx 17 23 4,.idx 17 23 5] [] (.ite 30 zvh
 (.lets [.call 44 [28,22,5] 0] [] zvk))
def zvm:T :=
 .lets [.call 49 [17,20,21] 0] [] (.lets [.bin .lss 23 (zI 0)] [] (.ite 24 (.ret [.c (.nil 6),.c (.nil 6),zI 7]) (.lets [] [.inr 6 17
 23] zvl)))
def zvn:T :=
 .lets [.mk 6 [[4,26,28,29,5,11]]] [] (.lets [.app 6 32 33] [] (.lets [.bin .add 26 (zI 1)] [] (.again 1 [23,24,34,.v
 35])))
def zvo:T :=
 .lets [.call 49 [25,4,26] 0] [] (.lets [.bin .geq 30 (zI 0)] [] (.ite 31 (.ret [.c (.nil 6),.c (.nil 6),zI 6]) (.lets [.call 9 [25] 0]
 [] zvn)))
def zvp:T :=
 .lets [.call 25 [28] 0] [] (.lets [.bin .neq 29 (zI 0)] [] (.ite 30 (.ret [.c (.nil 6),.c (.nil 6),29]) (.ret [28,14,zI 0])))
def zvq:T :=
 .ite 27 (.lets [] [.inr 2 3 26] (.lets [.idx 3 26 0,.idx 3 26 1] [] zvo)) (.lets [.call 50 [25] 0] [] zvp)
def zvr:T :=
 .ite 21 (.ret [.c (.nil 6),.c (.nil 6),zI 9]) (.lets [.len 3] [] (.loop [15,16,17,zI 0] (.lets [.bin .lss 26 22] []
 zvq)))
def zvs:T :=
 .ite 19 (.lets [] [.inr 3 2 18] (.lets [.idx 2 18 0,.idx 2 18 1,.idx 2 18 2] [] zvm)) (.lets [.call 51 [1,2,3,.v
 14] 0] [] (.lets [.bin .lss 20 (zI 0)] [] zvr))
def zvt:T :=
 .lets [.call 9 [0] 0] [] (.lets [.len 2] [] (.loop [.c (.nil 6),.c (.nil 6),zI 0,12,zI 0] (.lets [.bin .lss 18 13] [] zvs)))
def zvu:T :=
 .lets [.bin .eql 10 (zI 0)] [] (.ite 11 (.lets [.bin .neq 1 5] [] (.ite 12 (.ret [.c (.nil 6),.c (.nil 6),zI 4]) zvd))
 zvt)
def zvv:T :=
 .ite 8 (.ret [.c (.nil 6),.c (.nil 6),zI 3]) (.lets [.bin .gtr 5 (zI 1000)] [] (.ite 9 (.ret [.c (.nil 6),.c (.nil 6),zI 3]) (.lets
 [.len 2] [] zvu)))
def zvw:T :=
 .lets [.bin .gtr 4 (zI 120)] [] (.ite 7 (.ret [.c (.nil 6),.c (.nil 6),zI 3]) (.lets [.bin .lss 5 (zI 1)] [] zvv))
def zfy:T :=
 .lets [.bin .lss 4 (zI 1)] [] (.ite 6 (.ret [.c (.nil 6),.c (.nil 6),zI 3]) zvw)
attribute [local irreducible] z5s z66 z1h z56 z9h z8p z7s
theorem zn4:Meets Tryz.prog z4a 55 ⟨[.one,.agg 3,.one,.one],[(false,[.pure]),(true,[.pure]),(false,[.scal])],false⟩:=by
 refine z5r (sp:=(z07 [(9,z5s),(25,z1h),(44,z9h),(49,z8p),(50,z7s),(51,z56),(52,z66)])) (sigs:=z0pw) (cut:=[]) (hints:=[⟨10,[.n 13 0 360 101 6,.c 13 0 360,.r 8 101 6,.t 10,.r 14 101 6,.t 63,.z 59]⟩,⟨26,[.r 8 101 6,.t 10,.r 14 101 6,.t 142]⟩]) (fns:=[z6s 106 Tryz.f106 [] []]) (dep:=1) (pool:=300) (fn:=Tryz.f55) (t:=zfy) (by kernel_rfl) (by kernel_rfl) (by kernel_rfl) ?_ ?_ ?_
 ·exact (z1x (fn:=Tryz.f106) (by kernel_rfl) (by kernel_rfl) (by kernel_rfl) (by kernel_rfl) (by kernel_rfl) z6t)
 ·exact (z01 (L:=[(9,z5s),(25,z1h),(44,z9h),(49,z8p),(50,z7s),(51,z56),(52,z66)]) ⟨za rfl zy4,za rfl zb6,za rfl z0h0,za rfl (z0cq z0jo),za rfl z0gw,za rfl z05b,za rfl z02z,trivial⟩)
 ·rintro ds rs - h
  obtain ⟨⟨l,t,nm,ht⟩,⟨hlc,htc⟩,rfl,rfl⟩:=zi h;clear h;simp only at hlc htc;have ok:CoinsOK l:=(z1r l).1 hlc;have okt:TxOK t:=z7j htc;have hkey:=z0gx okt.insOk;have hl:=ok.len;have hti:=okt.ins;have hto:=okt.outs;refine ⟨⟨t.ins.length+t.outs.length+1,?_⟩,zmf⟩
  show den _ _ zfy [.l 6 (l.map zd),I t.height,.l 3 (t.ins.map eIn),.l 2 (t.outs.map z17),I nm,I ht] []=ret (z4m l t nm ht)
  unfold zfy z4m
  repeat' (first|refine dq1 ?_|refine dqk rfl (z8z l (by omega)) ?_|exact z5 rfl rfl|refine tR (fun h=>?_) fun h=>?_|fail)
  ·(refine zw (fun (st:List Coin × List Coin) k=>[.l 6 (st.2.map zd),.l 6 (([]:List Coin).map zd),I 0,.l 6 (st.1.map zd),I k]) (fun (st:List Coin × List Coin) _ (xs:List In)=>z67 ht z1d (fun r s=>z54 nm ht (decide ((t.ins.length:Int)=0)) z1d (fun r=>z4p s (z0o r)) r 0 t.outs) st.1 st.2 xs) (fun st k=>SpJ l st k) (l,[]) t.ins ?_ ?_ ?_ ?_ ?_;rfl;exact ⟨zaf ok.sorted,zY0m _,ok.good,rfl,fun c hc=>by cases hc⟩;omega)
   ·rintro ⟨r,s⟩ k x xs hx hd hk hI again hag
    omega
   ·rintro ⟨r,s⟩ hI again
    rw [z67]
    repeat' (first|refine dq1 ?_|refine dqF ?_|fail)
    (refine zw (fun (r:List Coin) k=>[.l 6 (([]:List Coin).map zd),I 0,.l 6 (r.map zd),I k]) (fun (r:List Coin) k (os:List Out)=>z54 nm ht (decide ((t.ins.length:Int)=0)) z1d (fun r=>z4p s (z0o r)) r k os) (fun r k=>z24 r∧r.length≤l.length+k) r t.outs ?_ ?_ ?_ ?_ ?_;rfl;exact ⟨hI.dist,hI.len⟩;omega)
    ·rintro r k o os hx hd hk ⟨hs,hrl⟩ again' hag
     rw [z54];have hp:=zcw r ⟨nm,k⟩;rcases z88 r ⟨nm,k⟩ with ⟨h1,h2⟩|⟨j,hj,h1,h2⟩
     ·rw [h1] at hp ⊢
      have hn0:¬ (-1:Int) ≥ 0:=by omega
      rw [if_neg hn0];have hag:=hag (r++[⟨⟨nm,k⟩,o,ht,decide ((t.ins.length:Int)=0)⟩]) ⟨zkn hs h2,by rw [zY06,zY1o];omega⟩
      repeat' (first|refine dq1 ?_|refine dqc ?_|refine dqm ?_|refine dqk rfl (hp) ?_|refine dqk rfl (z8z r (by omega)) ?_|refine z4 (z28 (r:=[(⟨⟨nm,k⟩,o,ht,decide ((t.ins.length:Int)=0)⟩:Coin)].map zd) rfl rfl (by simp)) ?_|exact z6 rfl rfl hag|refine dqT ?_|refine dqF ?_|fail)
     ·rw [h1] at hp ⊢
      have hn0:(j:Int) ≥ 0:=by omega
      rw [if_pos hn0]
      repeat' (first|refine dq1 ?_|refine dqc ?_|refine dqm ?_|refine dqk rfl (hp) ?_|exact z5 rfl rfl|refine dqT ?_|fail)
    ·rintro r ⟨hs,hrl⟩ again'
     rw [z54];unfold z4p
     repeat' (first|refine dq1 ?_|refine dqk rfl (zgb r ⟨by omega,hs⟩) ?_|refine dqk rfl (z5e (z0o r)) ?_|exact z5 rfl rfl|refine tR (fun h=>?_) fun h=>?_|refine dqF ?_|fail)
  ·(refine zw (fun (st:List Coin × List Coin) k=>[.l 6 (st.2.map zd),.l 6 (([]:List Coin).map zd),I 0,.l 6 (st.1.map zd),I k]) (fun (st:List Coin × List Coin) _ (xs:List In)=>z67 ht z1d (fun r s=>if z16 t s<0 then z1d 9 else z54 nm ht (decide ((t.ins.length:Int)=0)) z1d (fun r=>z4p s (z0o r)) r 0 t.outs) st.1 st.2 xs) (fun st k=>SpJ l st k) (l,[]) t.ins ?_ ?_ ?_ ?_ ?_;rfl;exact ⟨zaf ok.sorted,zY0m _,ok.good,rfl,fun c hc=>by cases hc⟩;omega)
   ·rintro ⟨r,s⟩ k x xs hx hd hk hI again hag
    rw [z67];simp only;have hrl:=hI.len;simp only at hrl;have hkx:=hkey x (zY0f hx);have hp:=zcw r x.p;rcases z88 r x.p with ⟨h1,h2⟩|⟨j,hj,h1,h2⟩
    ·rw [h1] at hp ⊢
     have hn0:(-1:Int)<0:=by omega
     rw [if_pos hn0]
     repeat' (first|refine dq1 ?_|refine dqc ?_|refine dqm ?_|refine dqk rfl (hp) ?_|exact z5 rfl rfl|refine dqT ?_|fail)
    ·rw [h1] at hp ⊢
     have hc:r[j]? = some r[j]:=zY03 hj;have hca:z25 r (j:Int)=r[j]:=by unfold z25;rw [zY2x,hc];rfl
     have e1:((j:Int)).toNat=j:=by omega
     have e2:((j:Int)+1).toNat=j+1:=by omega
     rw [hca,e1,e2];generalize r[j]=c at *;have hn0:¬ (j:Int)<0:=by omega
     rw [if_neg hn0];have hcb:=z3m (hI.good c (zY0f hc));have e0:((r.take ((j:Int)).toNat).drop ((0:Int)).toNat)=r.take j:=by rw [e1];rfl
     have e3:r.take ((r.length:Int)).toNat=r:=by rw [zY2x,zY1a]
     have hxo:=hx;have hx:=hc;have hop:=zv8 c.o.lock x.key ht hcb.2.2.2.2.2.2.2.2 hkx ⟨by omega,by omega⟩
     repeat' (first|refine dq1 ?_|refine dqc ?_|refine dqm ?_|refine dqk rfl (hp) ?_|refine dqk rfl (hop) ?_|exact z5 rfl rfl|((first|refine tR ?_ ?_|refine tB ?_ ?_|refine tN ?_ ?_) <;> intro h)|refine dqT ?_|refine dqF ?_|fail)
     all_goals (refine z4 (z28 (r:=[c].map zd) rfl rfl (by simp)) ?_;refine z4 (zam (l:=s) (l':=[c]) rfl rfl (by have:=hI.cnt;simp only at this ⊢;simp only [zY1o];omega)) ?_;refine z4 (zxq (l:=r) (m:=0) (n:=(j:Int)) rfl rfl rfl (by omega) (by omega) (by omega)) ?_;refine z4 (z7f rfl rfl (by omega)) ?_;refine z4 (zxq (l:=r) (m:=(j:Int)+1) (n:=(r.length:Int)) rfl rfl rfl (by omega) (by omega) (by omega)) ?_;rw [e0,e2,e3];refine z4 (z28 (r:=[[.l 6 ((r.take j).map zd)],[.l 6 ((r.drop (j+1)).map zd)]]) rfl rfl (by simp)) ?_;refine z4 (z35 rfl (zkg _ _ (by simp only [zY0b,zY0y];omega)) rfl) ?_;refine z4 (z7f rfl rfl (by omega)) ?_;exact z6 rfl rfl (hag (r.take j++r.drop (j+1),s++[c]) (hI.cut hc)))
   ·rintro ⟨r,s⟩ hI again
    rw [z67]
    repeat' (first|refine dq1 ?_|refine dqk rfl (zi9 t s (hI.fee okt)) ?_|exact z5 rfl rfl|refine tR (fun h=>?_) fun h=>?_|refine dqF ?_|fail)
    (refine zw (fun (r:List Coin) k=>[.l 6 (([]:List Coin).map zd),I 0,.l 6 (r.map zd),I k]) (fun (r:List Coin) k (os:List Out)=>z54 nm ht (decide ((t.ins.length:Int)=0)) z1d (fun r=>z4p s (z0o r)) r k os) (fun r k=>z24 r∧r.length≤l.length+k) r t.outs ?_ ?_ ?_ ?_ ?_;rfl;exact ⟨hI.dist,hI.len⟩;omega)
    ·rintro r k o os hx hd hk ⟨hs,hrl⟩ again' hag
     rw [z54];have hp:=zcw r ⟨nm,k⟩;rcases z88 r ⟨nm,k⟩ with ⟨h1,h2⟩|⟨j,hj,h1,h2⟩
     ·rw [h1] at hp ⊢
      have hn0:¬ (-1:Int) ≥ 0:=by omega
      rw [if_neg hn0];have hag:=hag (r++[⟨⟨nm,k⟩,o,ht,decide ((t.ins.length:Int)=0)⟩]) ⟨zkn hs h2,by rw [zY06,zY1o];omega⟩
      repeat' (first|refine dq1 ?_|refine dqc ?_|refine dqm ?_|refine dqk rfl (hp) ?_|refine dqk rfl (z8z r (by omega)) ?_|refine z4 (z28 (r:=[(⟨⟨nm,k⟩,o,ht,decide ((t.ins.length:Int)=0)⟩:Coin)].map zd) rfl rfl (by simp)) ?_|exact z6 rfl rfl hag|refine dqT ?_|refine dqF ?_|fail)
     ·rw [h1] at hp ⊢
      have hn0:(j:Int) ≥ 0:=by omega
      rw [if_pos hn0]
      repeat' (first|refine dq1 ?_|refine dqc ?_|refine dqm ?_|refine dqk rfl (hp) ?_|exact z5 rfl rfl|refine dqT ?_|fail)
    ·rintro r ⟨hs,hrl⟩ again'
     rw [z54];unfold z4p
     repeat' (first|refine dq1 ?_|refine dqk rfl (zgb r ⟨by omega,hs⟩) ?_|refine dqk rfl (z5e (z0o r)) ?_|exact z5 rfl rfl|refine tR (fun h=>?_) fun h=>?_|refine dqF ?_|fail)
end
section
open Go.RowKit
open Go.Lib (itoa)
set_option maxRecDepth 100000
set_option maxHeartbeats 4000000
section
variable {α:Type} {f:α→List Dt} {sp:Nat→z9} {E:Env}
end
attribute [local irreducible] z00 spD zb zf zq ze z02x z4m zrt zp z5y z16 z0u z3d zct z0cd idxL z0kt
attribute [local irreducible] den denX z0f z0k
noncomputable def z0d4:z9:=spD (fun _:List Undo × List Undo=>True) fun x=>decide (x.1=x.2)
attribute [local irreducible] z4u
attribute [local irreducible] z0d4
attribute [local irreducible] z4a z02y z56 z5l
attribute [local irreducible] z038
end
section
open Go.RowKit
open Go.Lib (itoa)
set_option maxRecDepth 100000
set_option maxHeartbeats 4000000
theorem z0h1 {x:List (List UInt8)} {s:List UInt8} (h:ze ⟨x⟩=0):z1s x s=z1y ⟨x⟩ s∧z38 x s=z2c ⟨x⟩ s∧z10 x s=z14 ⟨x⟩ s:=by
 unfold z1s z38 z10 z1y z2c z14;have hn:¬ ze ⟨x⟩≠0:=fun k=>k h
 exact ⟨by rw [if_neg hn],by rw [if_neg hn],by rw [if_neg hn]⟩
theorem z0aj {x:List (List UInt8)} {l:List Coin} {t:Tx} {h:Int} (hx:ze ⟨x⟩=0) (hc:zf t=0) (hi:(t.ins.length:Int)≠0) :
  z0e x l t h=if z1s x (z0d t)≠0 then (x,[],0,z1s x (z0d t)) else
   if (zp l t (z10 x (z0d t)) h).2.2≠0 then (x,[],0,(zp l t (z10 x (z0d t)) h).2.2) else
   (z38 x (z0d t),(zp l t (z10 x (z0d t)) h).1,z16 t (zp l t (z10 x (z0d t)) h).2.1,0):=by
 obtain ⟨e1,e2,e3⟩:=z0h1 (s:=z0d t) hx;unfold z0e;rw [zfh hc,if_neg (fun k=>k rfl),if_neg hi,e1,e2,e3]
theorem z05m {x:List (List UInt8)} {l:List Coin} {t:Tx} {h:Int} (hc:zf t≠0):z0e x l t h=(x,[],0,zf t):=by
 unfold z0e;have e:z0a t=([],zf t):=by unfold z0a;exact if_pos hc
 rw [e,if_pos hc]
theorem z05n {x:List (List UInt8)} {l:List Coin} {t:Tx} {h:Int} (hc:zf t=0) (hi:(t.ins.length:Int)=0):z0e x l t h=(x,[],0,4):=by
 unfold z0e;rw [zfh hc,if_neg (fun k=>k rfl),if_pos hi]
theorem zru {x:List (List UInt8)} {l:List Coin} {t:Tx} {h:Int} (hx:ze ⟨x⟩=0) (h0:(z0e x l t h).2.2.2=0):ze ⟨(z0e x l t h).1⟩=0∧zb (z0e x l t h).2.1=0:=by
 obtain ⟨-,-,h3,h4,h5⟩:=zmh h0;rw [h5];exact ⟨(zb3 _).2 (z0jl ((zb3 _).1 hx) h3).2.1,z098 h4⟩
theorem zb7 {h:Int}:∀ (r:List Tx) (a:Sw),ze ⟨a.x⟩=0→zb a.m=0→ze ⟨(z0q h a r).1⟩=0∧zb (z0q h a r).2.2.1=0∧(z0q h a r).2.2.2.2=0
 | [],a,h1,h2=>by rw [z0q];exact ⟨h1,h2,rfl⟩
 | t::r,a,h1,h2=>by
  rw [z0q]
  by_cases he:(z0e a.x a.m t h).2.2.2=0
  ·rw [if_neg (fun k=>k he)]
   obtain ⟨g1,g2⟩:=zru h1 he;exact zb7 r _ g1 g2
  ·rw [if_pos he]
   exact zb7 r a h1 h2
def z03 (k:Book) (l:List Coin) (p:List Tx) (h:Int):Int :=
 if ze k≠0 then ze k else if zb l≠0 then zb l else if h<1 then 3 else if h > 1000 then 3 else if (p.length:Int) > 8 then 2 else 0
theorem zag {k:Book} {l:List Coin} {p:List Tx} {h:Int} (hb:z03 k l p h≠0):zt k l p h=([],[],[],0,z03 k l p h):=by
 unfold z03 at hb ⊢;unfold zt
 by_cases h1:ze k≠0
 ·rw [if_pos h1,if_pos h1]
 rw [if_neg h1] at hb;rw [if_neg h1,if_neg h1]
 by_cases h2:zb l≠0
 ·rw [if_pos h2,if_pos h2]
 rw [if_neg h2] at hb;rw [if_neg h2,if_neg h2]
 by_cases h3:h<1
 ·rw [if_pos h3,if_pos h3]
 rw [if_neg h3] at hb;rw [if_neg h3,if_neg h3]
 by_cases h4:h > 1000
 ·rw [if_pos h4,if_pos h4]
 rw [if_neg h4] at hb;rw [if_neg h4,if_neg h4]
 by_cases h5:(p.length:Int) > 8
 ·rw [if_pos h5,if_pos h5]
 rw [if_neg h5] at hb;exact absurd rfl hb
theorem z40 {k:Book} {l:List Coin} {p:List Tx} {h:Int} (hb:z03 k l p h=0):ze k=0∧zb l=0∧1≤h∧h≤1000∧p.length≤8∧zt k l p h=z0q h ⟨k.texts,[],l,0⟩ p:=by
 unfold z03 at hb;unfold zt
 by_cases h1:ze k≠0
 ·rw [if_pos h1] at hb;exact absurd hb h1
 rw [if_neg h1] at hb ⊢
 by_cases h2:zb l≠0
 ·rw [if_pos h2] at hb;exact absurd hb h2
 rw [if_neg h2] at hb ⊢
 by_cases h3:h<1
 ·rw [if_pos h3] at hb;cases hb
 rw [if_neg h3] at hb ⊢
 by_cases h4:h > 1000
 ·rw [if_pos h4] at hb;cases hb
 rw [if_neg h4] at hb ⊢
 by_cases h5:(p.length:Int) > 8
 ·rw [if_pos h5] at hb;cases hb
 rw [if_neg h5];exact ⟨zY0s.1 h1,zY0s.1 h2,by omega,by omega,by omega,rfl⟩
theorem z05o {k:Book} {l:List Coin} {p:List Tx} {t:Tx} {h:Int} (hb:z03 k l p h≠0):z11 k l p t h=([],[],z03 k l p h):=by
 unfold z11;rw [zag hb,if_pos hb]
end
section
open Go.RowKit
open Go.Lib (itoa)
set_option maxRecDepth 100000
set_option maxHeartbeats 4000000
def z1m (h:Int) (a:Sw) (r:List Tx):List (List UInt8) × List Tx × List Coin × Int:=((z0q h a r).1,(z0q h a r).2.1,(z0q h a r).2.2.1,(z0q h a r).2.2.2.1)
theorem z0d5 (h:Int) (a:Sw):z1m h a []=(a.x,a.s,a.m,a.f):=rfl
theorem zdv {h:Int} {a:Sw} {t:Tx} (r:List Tx) (he:(z0e a.x a.m t h).2.2.2≠0):z1m h a (t::r)=z1m h a r:=by
 unfold z1m;rw [z0q,if_pos he]
theorem z0d6 {h:Int} {a:Sw} {t:Tx} (r:List Tx) {x:List (List UInt8)} {m:List Coin} {f:Int} (he:z0e a.x a.m t h=(x,m,f,0)):z1m h a (t::r)=z1m h ⟨x,a.s++[t],m,a.f+f⟩ r:=by
 unfold z1m;rw [z0q,he,if_neg (fun k=>k rfl)]
theorem zdw (h:Int):∀ (r:List Tx) (a:Sw),∃ s,(z0q h a r).2.1=a.s++s∧∀ n,(z0q h a (s.take n)).2.1=a.s++s.take n
 | [],a=>⟨[],by rw [z0q];simp,fun n=>by rw [List.take_nil,z0q];simp⟩
 | t::r,a=>by
  by_cases he:(z0e a.x a.m t h).2.2.2=0
  ·have hn:¬ (z0e a.x a.m t h).2.2.2≠0:=fun k=>k he
   obtain ⟨s,h1,h2⟩:=zdw h r ⟨(z0e a.x a.m t h).1,a.s++[t],(z0e a.x a.m t h).2.1,a.f+(z0e a.x a.m t h).2.2.1⟩;refine ⟨t::s,by rw [z0q,if_neg hn,h1];simp,fun n=>?_⟩
   cases n with
   | zero=>rw [List.take_zero,z0q];simp
   | succ n=>rw [zY3b,z0q,if_neg hn,h2 n];simp
  ·obtain ⟨s,h1,h2⟩:=zdw h r a
   exact ⟨s,by rw [z0q,if_pos he,h1],h2⟩
theorem zvx {k:Book} {l:List Coin} {p:List Tx} {h:Int} (hb:z03 k l p h=0) (n:Nat):z03 k l ((zt k l p h).2.1.take n) h=0∧(zt k l ((zt k l p h).2.1.take n) h).2.1=(zt k l p h).2.1.take n:=by
 obtain ⟨h1,h2,h3,h4,h5,h6⟩:=z40 hb;have hl:=(z46 k l p h).1;have hb2:z03 k l ((zt k l p h).2.1.take n) h=0:=by
  unfold z03;rw [if_neg (fun k=>k h1),if_neg (fun k=>k h2),if_neg (show ¬ h<1 by omega),if_neg (show ¬ h > 1000 by omega),if_neg];rw [zY0b];omega
 refine ⟨hb2,?_⟩;obtain ⟨-,-,-,-,-,g6⟩:=z40 hb2;rw [g6,h6];obtain ⟨s,s1,s2⟩:=zdw h p ⟨k.texts,[],l,0⟩;rw [s1];simpa using s2 n
attribute [local irreducible] z00 spD z0e z0a z0d zf zp z4m z16 z1s z38 z10 ze zb zq z0u z2b z0q z1m zt z03
attribute [local irreducible] den denX z0f z0k
noncomputable def z5m:z9:=spD (fun _:List (List UInt8) × List Coin × List Tx × Int=>True) fun x=>z03 ⟨x.1⟩ x.2.1 x.2.2.1 x.2.2.2
theorem ziw (ts:List (List UInt8)) (l:List Coin) (p:List Tx) (h:Int):z5m [.l 1 (ts.map z0g),.l 6 (l.map zd),.l 3 (p.map eTx),I h]=some [I (z03 ⟨ts⟩ l p h)]:=zg (f:=fun x:List (List UInt8) × List Coin × List Tx × Int=>z03 ⟨x.1⟩ x.2.1 x.2.2.1 x.2.2.2) (ts,l,p,h) trivial
theorem zba (ts:List (List UInt8)):z2u [.l 1 (ts.map z0g)]=some [I (ze ⟨ts⟩)]:=zkf ⟨ts⟩
def zn5:T :=
 .ite 9 (.ret [zI 3]) (.lets [.len 2] [] (.lets [.bin .gtr 10 (zI 8)] [] (.ite 11 (.ret [zI 2]) (.ret [zI 0]))))
def zn6:T :=
 .ite 7 (.ret [6]) (.lets [.bin .lss 3 (zI 1)] [] (.ite 8 (.ret [zI 3]) (.lets [.bin .gtr 3 (zI 1000)] [] zn5)))
def zn7:T :=
 .lets [.bin .neq 4 (zI 0)] [] (.ite 5 (.ret [4]) (.lets [.call 25 [1] 0] [] (.lets [.bin .neq 6 (zI 0)] [] zn6)))
def zb8:T :=
 .lets [.call 111 [0] 0] [] zn7
attribute [local irreducible] z2u z1h
theorem zvy:Meets Tryz.prog z5m 10 ⟨[.agg 1,.one,.one,.one],[(false,[.scal])],true⟩:=by
 refine zj (sp:=(z07 [(25,z1h),(111,z2u)])) (sigs:=z0i) (cut:=[]) (hints:=[]) (fn:=Tryz.f10) (t:=zb8) (by kernel_rfl) (by kernel_rfl) (by kernel_rfl) ?_ ?_
 ·exact (z01 (L:=[(25,z1h),(111,z2u)]) ⟨za rfl zb6,za rfl zht,trivial⟩)
 ·rintro ds rs - h
  obtain ⟨⟨ts,l,p,hh⟩,-,rfl,rfl⟩:=zi h;clear h;refine ⟨⟨1,?_⟩,zy rfl⟩
  show den _ _ zb8 [.l 1 (ts.map z0g),.l 6 (l.map zd),.l 3 (p.map eTx),I hh] []=ret (z03 ⟨ts⟩ l p hh)
  have a1:=zba ts;have a2:=z5e l;unfold zb8
  with_unfolding_all unfold z03
  generalize ze ⟨ts⟩=e at *;generalize zb l=f at *
  repeat' (first|refine dq1 ?_|refine dqk rfl (a1) ?_|refine dqk rfl (a2) ?_|exact z5 rfl rfl|refine tR (fun h=>?_) fun h=>?_|fail)
abbrev z05p (ts:List (List UInt8)) (l:List Coin) (p:List Tx):Prop:=ze ⟨ts⟩=0∧zb l=0∧p.length≤8
noncomputable def z57:z9:=spD (fun x:List (List UInt8) × List Coin × List Tx × Int=>z05p x.1 x.2.1 x.2.2.1) fun x=>z1m x.2.2.2 ⟨x.1,[],x.2.1,0⟩ x.2.2.1
theorem z9i (ts:List (List UInt8)) (l:List Coin) (p:List Tx) (h:Int) (hd:z05p ts l p):z57 [.l 1 (ts.map z0g),.l 6 (l.map zd),.l 3 (p.map eTx),I h]=some [.l 1 ((z1m h ⟨ts,[],l,0⟩ p).1.map z0g),.l 3 ((z1m h ⟨ts,[],l,0⟩ p).2.1.map eTx),.l 6 ((z1m h ⟨ts,[],l,0⟩ p).2.2.1.map zd),I (z1m h ⟨ts,[],l,0⟩ p).2.2.2]:=zg (p:=fun x:List (List UInt8) × List Coin × List Tx × Int=>z05p x.1 x.2.1 x.2.2.1) (f:=fun x:List (List UInt8) × List Coin × List Tx × Int=>z1m x.2.2.2 ⟨x.1,[],x.2.1,0⟩ x.2.2.1) (ts,l,p,h) hd
def z0d7:T :=
 .lets [.mk 3 [[11,12,13]]] [] (.lets [.app 3 8 29] [] (.lets [.bin .add 9 (zI 1)] [] (.again 0 [19,23,28,30,31])))
def z0d8:T :=
 .ite 26 (.lets [.bin .add 9 (zI 1)] [] (.again 0 [5,6,7,8,27])) (.lets [.call 51 [11,12,13,24] 0] [] (.lets [.bin .add 7
 27] [] z0d7))
def z0d9:T :=
 .lets [.call 54 [6,11,12,13,20,3] 0,.call 54 [6,11,12,13,20,3] 1,.call 54 [6,11,12,13,20,3] 2] [] (.lets [.bin
 .neq 25 (zI 0)] [] z0d8)
def z0da:T :=
 .lets [.bin .neq 21 (zI 0)] [] (.ite 22 (.lets [.bin .add 9 (zI 1)] [] (.again 0 [5,6,7,8,23])) z0d9)
def z0db:T :=
 .ite 17 (.lets [.bin .add 9 (zI 1)] [] (.again 0 [5,6,7,8,18])) (.lets [.call 71 [11,12,13] 0] [] (.lets [.call 112 [5,18]
 0,.call 112 [5,18] 1,.call 112 [5,18] 2] [] z0da))
def z0dc:T :=
 .ite 15 (.lets [.bin .add 9 (zI 1)] [] (.again 0 [5,6,7,8,16])) (.lets [.len 12] [] (.lets [.bin .eql 16 (zI 0)] []
 z0db))
def z0dd:T :=
 .lets [.idx 2 9 0,.idx 2 9 1,.idx 2 9 2] [] (.lets [.call 53 [11,12,13] 0] [] (.lets [.bin .neq 14 (zI 0)] [] z0dc))
def z0de:T :=
 .loop [0,1,zI 0,.c (.nil 3),zI 0] (.lets [.bin .lss 9 4] [] (.ite 10 (.lets [] [.inr 3 2 9] z0dd) (.ret [5,8,.v
 6,7])))
def zkp:T :=
 .lets [.len 2] [] z0de
attribute [local irreducible] z4a z5d z56 z76 z47
theorem zkq:Meets Tryz.prog z57 12 ⟨[.one,.one,.one,.one],[(false,[.pure]),(false,[.pure]),(false,[.pure]),(false,[.scal])],false⟩:=by
 refine zj (sp:=(z07 [(51,z56),(53,z5d),(54,z4a),(71,z47),(112,z76)])) (sigs:=z0i) (cut:=[]) (hints:=[⟨3,[.t 8,.t 10,.t 11,.r 9 30 3,.t 23]⟩]) (fn:=Tryz.f12) (t:=zkp) (by kernel_rfl) (by kernel_rfl) (by kernel_rfl) ?_ ?_
 ·exact (z01 (L:=[(51,z56),(53,z5d),(54,z4a),(71,z47),(112,z76)]) ⟨za rfl z05b,za rfl zmv,za rfl zn4,za rfl zrr,za rfl z02t,trivial⟩)
 ·rintro ds rs - h
  obtain ⟨⟨ts,l,p,hh⟩,⟨hb,hl,hp⟩,rfl,rfl⟩:=zi h;clear h;simp only at hb hl hp;refine ⟨⟨20,?_⟩,z52 ⟨rfl,trivial⟩⟩
  show den _ _ zkp [.l 1 (ts.map z0g),.l 6 (l.map zd),.l 3 (p.map eTx),I hh] []=ret (z1m hh ⟨ts,[],l,0⟩ p)
  unfold zkp
  repeat' (first|refine dq1 ?_|fail)
  (refine zw (fun (a:Sw) k=>[.l 1 (a.x.map z0g),.l 6 (a.m.map zd),I a.f,.l 3 (a.s.map eTx),I k]) (fun (a:Sw) _ (r:List Tx)=>z1m hh a r) (fun a k=>ze ⟨a.x⟩=0∧zb a.m=0∧a.s.length≤k ∧ -(10000000000 * (k:Int))≤a.f∧a.f≤10000000000 * (k:Int)) ⟨ts,[],l,0⟩ p ?_ ?_ ?_ ?_ ?_;rfl;exact ⟨hb,hl,by simp,by simp,by simp⟩;omega)
  ·rintro ⟨x,s,m,f⟩ k t r hx hd hk ⟨i1,i2,i3,i4,i5⟩ again hag
   simp only at i1 i2 i3 i4 i5;have hskip:=hag ⟨x,s,m,f⟩ ⟨i1,i2,by simp only;omega,by simp only;omega,by simp only;omega⟩;have a1:=zep t
   by_cases hc:zf t=0
   rotate_left
   ·rw [zdv r (by rw [z05m hc];exact hc)]
    simp only at hskip;generalize zf t=e at *
    repeat' (first|refine dq1 ?_|refine dqc ?_|refine dqm ?_|refine dqk rfl (a1) ?_|refine dqT ?_|fail)
    exact z6 rfl rfl hskip
   rw [hc] at a1
   by_cases hi:(t.ins.length:Int)=0
   ·rw [zdv r (by rw [z05n hc hi];show (4:Int)≠0;decide)]
    simp only at hskip
    repeat' (first|refine dq1 ?_|refine dqc ?_|refine dqm ?_|refine dqk rfl (a1) ?_|refine dqT ?_|refine dqF ?_|fail)
    exact z6 rfl rfl hskip
   have a2:=zga t hc;have a3:=zhu x (z0d t) (z64 (bk:=⟨x⟩) i1);have a4:=zeq m t (z10 x (z0d t)) hh i2 hc;rw [zn3 i2 hc] at a4;have hput:=z0aj (l:=m) (h:=hh) i1 hc hi;have hright:=zru (l:=m) (t:=t) (h:=hh) i1;have hfee:=zhl (l:=m) (t:=t) (nm:=z10 x (z0d t)) (h:=hh);have hsk:=fun e=>zdv (h:=hh) (a:=⟨x,s,m,f⟩) (t:=t) r e
   have hok:=fun x' m' f' e=>z0d6 (h:=hh) (a:=⟨x,s,m,f⟩) (t:=t) r (x:=x') (m:=m') (f:=f') e
   simp only at hsk hok;generalize z0e x m t hh=w at *;generalize z0d t=tt at *;generalize z1s x tt=ne at *;generalize z10 x tt=nn at *;generalize z38 x tt=nl at *;generalize zp m t nn hh=q at *;obtain ⟨m2,sp,g⟩:=q;simp only at a3 a4 hput hfee
   by_cases hne:ne=0
   rotate_left
   ·rw [if_pos hne] at hput
    subst hput;rw [hsk hne]
    repeat' (first|refine dq1 ?_|refine dqc ?_|refine dqm ?_|refine dqk rfl (a1) ?_|refine dqk rfl (a2) ?_|refine dqK rfl (a3) ?_|refine dqT ?_|refine dqF ?_|fail)
    exact z6 rfl rfl hskip
   rw [if_neg (fun k=>k hne)] at hput
   by_cases hg:g=0
   rotate_left
   ·rw [if_pos hg] at hput
    subst hput;rw [hsk hg]
    repeat' (first|refine dq1 ?_|refine dqc ?_|refine dqm ?_|refine dqk rfl (a1) ?_|refine dqk rfl (a2) ?_|refine dqK rfl (a3) ?_|refine dqK rfl (a4) ?_|refine dqT ?_|refine dqF ?_|fail)
    exact z6 rfl rfl hskip
   rw [if_neg (fun k=>k hg)] at hput;obtain ⟨hd1,hd2,hd3⟩:=hfee hg;have a5:=zi9 t sp hd1;generalize z16 t sp=fe at *;subst hput;obtain ⟨r1,r2⟩:=hright rfl;rw [hok _ _ _ rfl];have hag':=hag ⟨nl,s++[t],m2,f+fe⟩ ⟨r1,r2,by simp only [zY06,zY1o];omega,by simp only;omega,by simp only;omega⟩;clear hag hskip;simp only at hag'
   repeat' (first|refine dq1 ?_|refine dqc ?_|refine dqm ?_|refine dqk rfl (a1) ?_|refine dqk rfl (a2) ?_|refine dqK rfl (a3) ?_|refine dqK rfl (a4) ?_|refine dqk rfl (a5) ?_|refine z4 (z28 (r:=([t].map eTx)) rfl rfl (by simp)) ?_|refine dqT ?_|refine dqF ?_|fail)
   exact z6 rfl rfl hag'
  ·rintro ⟨x,s,m,f⟩ ⟨i1,i2,i3,i4,i5⟩ again
   rw [z0d5];simp only
   repeat' (first|refine dq1 ?_|exact z5 rfl rfl|refine dqF ?_|fail)
theorem zp3 (x y:Tx):z3a [I x.height,.l 3 (x.ins.map eIn),.l 2 (x.outs.map z17),I y.height,.l 3 (y.ins.map eIn),.l 2 (y.outs.map z17)]=some [.b (decide (x=y))]:=zb4 x y
abbrev zit (ts:List (List UInt8)) (l:List Coin) (p:List Tx) (h:Int):Prop:=z03 ⟨ts⟩ l p h=0
noncomputable def z77:z9:=spD (fun x:List (List UInt8) × List Coin × List Tx × Tx × Int=>zit x.1 x.2.1 x.2.2.1 x.2.2.2.2) fun x=>z11 ⟨x.1⟩ x.2.1 x.2.2.1 x.2.2.2.1 x.2.2.2.2
theorem zn8 (ts:List (List UInt8)) (l:List Coin) (p:List Tx) (t:Tx) (h:Int) (hd:z03 ⟨ts⟩ l p h=0):z77 [.l 1 (ts.map z0g),.l 6 (l.map zd),.l 3 (p.map eTx),I t.height,.l 3 (t.ins.map eIn),.l 2 (t.outs.map z17),I h]=some [.l 1 ((z11 ⟨ts⟩ l p t h).1.map z0g),.l 3 ((z11 ⟨ts⟩ l p t h).2.1.map eTx),I (z11 ⟨ts⟩ l p t h).2.2]:=zg (p:=fun x:List (List UInt8) × List Coin × List Tx × Tx × Int=>zit x.1 x.2.1 x.2.2.1 x.2.2.2.2) (f:=fun x:List (List UInt8) × List Coin × List Tx × Tx × Int=>z11 ⟨x.1⟩ x.2.1 x.2.2.1 x.2.2.2.1 x.2.2.2.2) (ts,l,p,t,h) hd
theorem zdh {k:Book} {l:List Coin} {p:List Tx} {h:Int} (hb:z03 k l p h=0):zt k l p h=((z1m h ⟨k.texts,[],l,0⟩ p).1,(z1m h ⟨k.texts,[],l,0⟩ p).2.1,(z1m h ⟨k.texts,[],l,0⟩ p).2.2.1,(z1m h ⟨k.texts,[],l,0⟩ p).2.2.2,0)∧ze ⟨(z1m h ⟨k.texts,[],l,0⟩ p).1⟩=0∧zb (z1m h ⟨k.texts,[],l,0⟩ p).2.2.1=0:=by
 obtain ⟨h1,h2,-,-,-,h6⟩:=z40 hb;obtain ⟨g1,g2,g3⟩:=zb7 (h:=h) p ⟨k.texts,[],l,0⟩ h1 h2;rw [h6]
 with_unfolding_all unfold z1m
 refine ⟨?_,g1,g2⟩;generalize z0q h ⟨k.texts,[],l,0⟩ p=q at *;obtain ⟨a,b,c,d,e⟩:=q;simp only at g3 ⊢;rw [g3]
def zvz:T :=
 .lets [.call 72 [17,18,19,3,4,5] 0] [] (.ite 20 (.ret [.c (.nil 1),.c (.nil 3),zI 6]) (.lets [.bin .add 15 (zI 1)] [] (.again
 0 [12,13,14,21])))
def zw0:T :=
 .ite 31 (.ret [.c (.nil 1),.c (.nil 3),zI 12]) (.lets [.call 100 [8] 0] [] (.lets [.mk 3 [[3,4,5]]] [] (.lets [.app 3 32 33] [] (.ret [.v
 22,34,zI 0]))))
def zw1:T :=
 .lets [.bin .neq 28 (zI 0)] [] (.ite 29 (.ret [.c (.nil 1),.c (.nil 3),28]) (.lets [.len 8] [] (.lets [.bin .geq 30 (zI 8)] []
 zw0)))
def zw2:T :=
 .lets [.call 54 [9,3,4,5,23,6] 0,.call 54 [9,3,4,5,23,6] 1,.call 54 [9,3,4,5,23,6] 2] [] zw1
def zw3:T :=
 .lets [.call 112 [7,21] 0,.call 112 [7,21] 1,.call 112 [7,21] 2] [] (.lets [.bin .neq 24 (zI 0)] [] (.ite 25 (.ret [.c (.nil 1),.c (.nil
 3),24]) zw2))
def zw4:T :=
 .lets [.bin .eql 19 (zI 0)] [] (.ite 20 (.ret [.c (.nil 1),.c (.nil 3),zI 4]) (.lets [.call 71 [3,4,5] 0] [] zw3))
def zw5:T :=
 .lets [.call 53 [3,4,5] 0] [] (.lets [.bin .neq 17 (zI 0)] [] (.ite 18 (.ret [.c (.nil 1),.c (.nil 3),17]) (.lets [.len 4] []
 zw4)))
def zw6:T :=
 .lets [.bin .lss 15 11] [] (.ite 16 (.lets [] [.inr 3 8 15] (.lets [.idx 8 15 0,.idx 8 15 1,.idx 8 15 2] [] zvz))
 zw5)
def zdx:T :=
 .lets [.call 129 [0,1,2,6] 0,.call 129 [0,1,2,6] 1,.call 129 [0,1,2,6] 2,.call 129 [0,1,2,6] 3] [] (.lets [.len (.v
 8)] [] (.loop [.c (.nil 1),.c (.nil 3),zI 0,zI 0] zw6))
attribute [local irreducible] z9u z3a
theorem z09h:Meets Tryz.prog z77 17 ⟨[.one,.one,.one,.agg 3,.one],[(false,[.pure]),(false,[.pure]),(false,[.scal])],false⟩:=by
 refine zj (sp:=(z07 [(53,z5d),(54,z4a),(71,z47),(72,z3a),(100,z9u),(112,z76),(129,z57)])) (sigs:=z0i) (cut:=[]) (hints:=[⟨3,[.r 10 9 1,.r 11 30 3,.t 12,.t 37]⟩]) (fn:=Tryz.f17) (t:=zdx) (by kernel_rfl) (by kernel_rfl) (by kernel_rfl) ?_ ?_
 ·exact (z01 (L:=[(53,z5d),(54,z4a),(71,z47),(72,z3a),(100,z9u),(112,z76),(129,z57)]) ⟨za rfl zmv,za rfl zn4,za rfl zrr,za rfl zhr,za rfl z0p5,za rfl z02t,za rfl zkq,trivial⟩)
 ·rintro ds rs - h
  obtain ⟨⟨ts,l,p,t,hh⟩,hb,rfl,rfl⟩:=zi h;clear h;simp only at hb;refine ⟨⟨10,?_⟩,z52 ⟨rfl,trivial⟩⟩
  show den _ _ zdx [.l 1 (ts.map z0g),.l 6 (l.map zd),.l 3 (p.map eTx),I t.height,.l 3 (t.ins.map eIn),.l 2 (t.outs.map z17),I hh] []=ret (z11 ⟨ts⟩ l p t hh)
  obtain ⟨h1,h2,-,-,h5,-⟩:=z40 hb;have a1:=z9i ts l p hh ⟨h1,h2,h5⟩;have hs:=(z46 ⟨ts⟩ l p hh).1;obtain ⟨e1,e2,e3⟩:=zdh hb;unfold zdx z11;simp only at e1 e2 e3;rw [e1] at hs ⊢;clear e1;generalize z1m hh ⟨ts,[],l,0⟩ p=q at *;obtain ⟨qx,qs,qm,qf⟩:=q;simp only at *;rw [if_neg (fun k=>k rfl)]
  repeat' (first|refine dq1 ?_|refine dqK rfl (a1) ?_|fail)
  (refine zw (fun (_:Unit) k=>[.l 1 [],.l 3 [],I 0,I k]) (fun (_:Unit) _ (r:List Tx)=>if t ∈ r then ([],[],6) else zar qx qs qm t hh) (fun _ _=>True) () qs ?_ ?_ ?_ ?_ ?_;rfl;exact trivial;omega)
  ·rintro _ i y r hx hd hk - again hag
   rw [zmj];have b1:=zp3 y t;have hag':=hag () trivial
   by_cases hy:y=t
   ·rw [decide_eq_true hy,if_pos rfl]
    rw [decide_eq_true hy] at b1
    repeat' (first|refine dq1 ?_|refine dqc ?_|refine dqm ?_|refine dqk rfl (b1) ?_|exact z5 rfl rfl|refine dqT ?_|refine z0h rfl ?_|fail)
   ·rw [decide_eq_false hy,if_neg (by decide)]
    rw [decide_eq_false hy] at b1
    repeat' (first|refine dq1 ?_|refine dqc ?_|refine dqm ?_|refine dqk rfl (b1) ?_|refine dqT ?_|refine z0m rfl ?_|fail)
    exact z6 rfl rfl hag'
  ·rintro _ - again
   rw [if_neg (by simp)];unfold zar;have b1:=zep t
   by_cases hc:zf t=0
   rotate_left
   ·rw [z05m hc]
    simp only;rw [if_pos hc];generalize zf t=e at *
    repeat' (first|refine dq1 ?_|refine dqk rfl (b1) ?_|exact z5 rfl rfl|refine dqT ?_|refine dqF ?_|fail)
   rw [hc] at b1
   by_cases hi:(t.ins.length:Int)=0
   ·rw [z05n hc hi]
    simp only;rw [if_pos (show ¬ (4:Int)=0 by decide)]
    repeat' (first|refine dq1 ?_|refine dqk rfl (b1) ?_|exact z5 rfl rfl|refine dqT ?_|refine dqF ?_|fail)
   have b2:=zga t hc;have b3:=zhu qx (z0d t) (z64 (bk:=⟨qx⟩) e2);have b4:=zeq qm t (z10 qx (z0d t)) hh e3 hc;rw [zn3 e3 hc] at b4;rw [z0aj e2 hc hi];have b5:=z0c8 qs (by omega);generalize z0d t=tt at *;generalize z1s qx tt=ne at *;generalize z10 qx tt=nn at *;generalize z38 qx tt=nl at *;generalize zp qm t nn hh=w at *;obtain ⟨m2,sp,g⟩:=w;simp only at b3 b4 ⊢
   by_cases hne:ne=0
   rotate_left
   ·rw [if_pos hne]
    simp only;rw [if_pos hne]
    repeat' (first|refine dq1 ?_|refine dqk rfl (b1) ?_|refine dqk rfl (b2) ?_|refine dqK rfl (b3) ?_|exact z5 rfl rfl|refine dqT ?_|refine dqF ?_|fail)
   rw [if_neg (show ¬ ne≠0 from fun k=>k hne)]
   by_cases hg:g=0
   rotate_left
   ·rw [if_pos hg]
    simp only;rw [if_pos hg]
    repeat' (first|refine dq1 ?_|refine dqk rfl (b1) ?_|refine dqk rfl (b2) ?_|refine dqK rfl (b3) ?_|refine dqK rfl (b4) ?_|exact z5 rfl rfl|refine dqT ?_|refine dqF ?_|fail)
   rw [if_neg (show ¬ g≠0 from fun k=>k hg)];simp only;rw [if_neg (show ¬ (0:Int)≠0 by decide)]
   by_cases h8:(qs.length:Int)=8
   ·rw [if_pos h8]
    repeat' (first|refine dq1 ?_|refine dqk rfl (b1) ?_|refine dqk rfl (b2) ?_|refine dqK rfl (b3) ?_|refine dqK rfl (b4) ?_|exact z5 rfl rfl|refine dqT ?_|refine dqF ?_|fail)
   ·rw [if_neg h8]
    repeat' (first|refine dq1 ?_|refine dqk rfl (b1) ?_|refine dqk rfl (b2) ?_|refine dqK rfl (b3) ?_|refine dqK rfl (b4) ?_|refine dqk rfl (b5) ?_|refine z4 (z28 (r:=([t].map eTx)) rfl rfl (by simp)) ?_|exact z5 rfl rfl|refine dqF ?_|fail)
noncomputable def zd0:z9:=spD (fun x:List (List UInt8) × List Coin × List Tx × Int × Int × Int × Int × List Op=>zit x.1 x.2.1 x.2.2.1 (x.2.2.2.2.1+1)) fun x=>z0l ⟨x.1⟩ x.2.1 x.2.2.1 x.2.2.2.1 x.2.2.2.2.1 x.2.2.2.2.2.1 x.2.2.2.2.2.2.1 x.2.2.2.2.2.2.2
theorem z09i (ts:List (List UInt8)) (l:List Coin) (p:List Tx) (a b c d:Int) (o:List Op) (h:z03 ⟨ts⟩ l p (b+1)=0):zd0 [.l 1 (ts.map z0g),.l 6 (l.map zd),.l 3 (p.map eTx),I a,I b,I c,I d,.l 2 (o.map eOp)]=some [I (z0l ⟨ts⟩ l p a b c d o).1.parent,I (z0l ⟨ts⟩ l p a b c d o).1.height,I (z0l ⟨ts⟩ l p a b c d o).1.work,I (z0l ⟨ts⟩ l p a b c d o).1.nonce,.l 3 ((z0l ⟨ts⟩ l p a b c d o).1.txs.map eTx),I (z0l ⟨ts⟩ l p a b c d o).2] :=
 zg (p:=fun x:List (List UInt8) × List Coin × List Tx × Int × Int × Int × Int × List Op=>zit x.1 x.2.1 x.2.2.1 (x.2.2.2.2.1+1)) (f:=fun x:List (List UInt8) × List Coin × List Tx × Int × Int × Int × Int × List Op=>z0l ⟨x.1⟩ x.2.1 x.2.2.1 x.2.2.2.1 x.2.2.2.2.1 x.2.2.2.2.2.1 x.2.2.2.2.2.2.1 x.2.2.2.2.2.2.2) (ts,l,p,a,b,c,d,o) h
theorem zkr (a b c d:Int) (l:List Tx):z4j [I a,I b,I c,I d,.l 3 (l.map eTx)]=some [I (zq ⟨a,b,c,d,l⟩)]:=zmw ⟨a,b,c,d,l⟩
def z0h2:T :=
 .lets [.bin .neq 30 (zI 0)] [] (.ite 31 (.ret [zI 0,zI 0,zI 0,zI 0,.c (.nil 3),30]) (.ret [3,25,5,.v
 6,29,zI 0]))
def z0h3:T :=
 .lets [.mk 2 [[23,7]]] [] (.lets [.mk 3 [[26,.c (.nil 3),27]]] [] (.lets [.app 3 28 15] [] (.lets [.call 96 [3,25,5,6,29] 0] []
 z0h2)))
def z0h4:T :=
 .ite 24 (.ret [zI 0,zI 0,zI 0,zI 0,.c (.nil 3),zI 9]) (.lets [.bin .add 4 (zI 1)] [] (.lets [.bin .add (.v
 4) (zI 1)] [] z0h3))
def z0h5:T :=
 .lets [.bin .add 4 (zI 1)] [] (.lets [.call 114 [21] 0] [] (.lets [.bin .add 22 20] [] (.lets [.bin .eql 23 (zI 0)] [] z0h4)))
def z0h6:T :=
 .lets [.call 129 [0,1,15,16] 0,.call 129 [0,1,15,16] 1,.call 129 [0,1,15,16] 2,.call 129 [0,1,15,16] 3] [] z0h5
def z0h7:T :=
 .lets [.len 10] [] (.lets [.mn (zI 3) 13] [] (.lets [.sub 3 10 none (some 14)] [] (.lets [.bin .add 4 (zI 1)] [] z0h6)))
def z0h8:T :=
 .lets [.call 129 [0,1,2,8] 0,.call 129 [0,1,2,8] 1,.call 129 [0,1,2,8] 2,.call 129 [0,1,2,8] 3] [] z0h7
def zp4:T :=
 .lets [.bin .add 4 (zI 1)] [] z0h8
attribute [local irreducible] z4j z5l
theorem z0n9:Meets Tryz.prog zd0 22 ⟨[.one,.one,.one,.one,.one,.one,.one,.one],[(true,[.scal,.scal,.scal,.scal,.pure]),(false,[.scal])],false⟩:=by
 refine zj (sp:=(z07 [(96,z4j),(114,z5l),(129,z57)])) (sigs:=z0i) (cut:=[]) (hints:=[]) (fn:=Tryz.f22) (t:=zp4) (by kernel_rfl) (by kernel_rfl) (by kernel_rfl) ?_ ?_
 ·exact (z01 (L:=[(96,z4j),(114,z5l),(129,z57)]) ⟨za rfl z090,za rfl z092,za rfl zkq,trivial⟩)
 ·rintro ds rs - h
  obtain ⟨⟨ts,l,p,a,b,c,d,o⟩,hb,rfl,rfl⟩:=zi h;clear h;simp only at hb;refine ⟨⟨1,?_⟩,z52 ⟨rfl,rfl,rfl,rfl,rfl,trivial⟩⟩
  show den _ _ zp4 [.l 1 (ts.map z0g),.l 6 (l.map zd),.l 3 (p.map eTx),I a,I b,I c,I d,.l 2 (o.map eOp)] []=ret (z0l ⟨ts⟩ l p a b c d o)
  obtain ⟨h1,h2,h3,h4,h5,-⟩:=z40 hb;obtain ⟨g1,g2⟩:=zvx hb 3;have a1:=z9i ts l p (b+1) ⟨h1,h2,h5⟩;have hs:=(z46 ⟨ts⟩ l p (b+1)).1;obtain ⟨e1,-,-⟩:=zdh hb;simp only at e1;unfold zp4 z0l;rw [e1] at hs g1 g2 ⊢;clear e1;generalize z1m (b+1) ⟨ts,[],l,0⟩ p=q at *;obtain ⟨qx,qs,qm,qf⟩:=q;simp only at *;have a2:=z9i ts l (qs.take 3) (b+1) ⟨h1,h2,by rw [zY0b];omega⟩;have hz:=z46 ⟨ts⟩ l (qs.take 3) (b+1);obtain ⟨e2,-,-⟩:=zdh g1;simp only at e2;rw [e2] at hz g2 ⊢;clear e2;generalize z1m (b+1) ⟨ts,[],l,0⟩ (qs.take 3)=w at *;obtain ⟨wx,ws,wm,wf⟩:=w;simp only at *;subst g2;rw [if_neg (fun k=>k rfl),if_neg (fun k=>k rfl)];unfold zis;have a3:=zmx (b+1) h3 h4;have hr:=zho (b+1);have hre:z2b (b+1)=0:=by
   with_unfolding_all unfold z2b
   rw [if_neg (by omega)]
  rw [hre,if_neg (show ¬ (0:Int)≠0 by decide)];generalize z0u (b+1)=rn at *;have a5:=zkr a (b+1) c d (⟨b+1,[],[⟨rn+wf,o⟩]⟩::qs.take 3);generalize zq ⟨a,b+1,c,d,⟨b+1,[],[⟨rn+wf,o⟩]⟩::qs.take 3⟩=be at *;have ht:qs.take (if (qs.length:Int)<3 then (qs.length:Int) else 3).toNat=qs.take 3:=by
   by_cases h3:(qs.length:Int)<3
   ·rw [if_pos h3,zY2x,zY1a,zY0p (by omega)]
   ·rw [if_neg h3];rfl
  have hcl : -9223372036854775808≤b+1∧b+1≤9223372036854775807:=by omega
  have htl:(qs.take 3).length≤3:=by rw [zY0b];omega
  repeat' (first|refine dq1 ?_|refine dqK rfl (a1) ?_|refine dqK rfl (a2) ?_|refine dqk rfl (a3) ?_|refine dqk rfl (a5) ?_|refine z4 (z28 rfl rfl (by simp)) ?_|refine z4 (zam (l:=[⟨b+1,[],[⟨rn+wf,o⟩]⟩]) (l':=qs.take 3) rfl rfl (by simp;omega)) ?_|exact z5 rfl rfl|refine tR (fun h=>?_) fun h=>?_|fail)
end
section
open Go.RowKit
open Go.Lib (itoa)
set_option maxRecDepth 100000
set_option maxHeartbeats 4000000
theorem zw7 {k:Book} {l:List Coin} {p:List Tx}:z03 k l p 9223372036854775808=z03 k l p (-9223372036854775808)∧z03 k l p (-9223372036854775808)≠0:=by
 unfold z03
 by_cases h1:ze k≠0
 ·rw [if_pos h1,if_pos h1];exact ⟨rfl,h1⟩
 rw [if_neg h1,if_neg h1]
 by_cases h2:zb l≠0
 ·rw [if_pos h2,if_pos h2];exact ⟨rfl,h2⟩
 rw [if_neg h2,if_neg h2,if_neg (show ¬ (9223372036854775808:Int)<1 by decide),if_pos (show (9223372036854775808:Int) > 1000 by decide),if_pos (show (-9223372036854775808:Int)<1 by decide)];exact ⟨rfl,by decide⟩
theorem zn9 {k:Book} {l:List Coin} {p:List Tx} {a b c d:Int} {o:List Op} (hb:z03 k l p (b+1)≠0):z0l k l p a b c d o=(z97,z03 k l p (b+1)):=by
 unfold z0l;rw [zag hb,if_pos hb]
theorem z0k7 {sp:Nat→z9} {E:Env} {a b:Atom} {m n w:Int} (ha:a.val E=some (I m)) (hb:b.val E=some (I n)) (h:IntKind.i64.wrap (m+n)=w):denX sp E (.bin .add a b)=some (I w):=by
 subst h;simp only [denX,ha,hb,zY08,zY05];rfl
attribute [local irreducible] z00 spD zt z0e z0a zp z16 ze zb zq z0u z2b z03
attribute [local irreducible] den denX z0f z0k
abbrev z0ku (b:Int) (o:List Op):Prop:=I64 b∧o.length≤8796093022208
noncomputable def z78:z9:=spD (fun x:List (List UInt8) × List Coin × List Tx × Int × Int × Int × Int × List Op=>z0ku x.2.2.2.2.1 x.2.2.2.2.2.2.2) fun x=>z0l ⟨x.1⟩ x.2.1 x.2.2.1 x.2.2.2.1 x.2.2.2.2.1 x.2.2.2.2.2.1 x.2.2.2.2.2.2.1 x.2.2.2.2.2.2.2
theorem zna (x:List (List UInt8)) (l:List Coin) (p:List Tx) (a b c d:Int) (o:List Op) (h:I64 b) (h2:o.length≤8796093022208):z78 [.l 1 (x.map z0g),.l 6 (l.map zd),.l 3 (p.map eTx),I a,I b,I c,I d,.l 2 (o.map eOp)]=some [I (z0l ⟨x⟩ l p a b c d o).1.parent,I (z0l ⟨x⟩ l p a b c d o).1.height,I (z0l ⟨x⟩ l p a b c d o).1.work,I (z0l ⟨x⟩ l p a b c d o).1.nonce,.l 3 ((z0l ⟨x⟩ l p a b c d o).1.txs.map eTx),I (z0l ⟨x⟩ l p a b c d o).2] :=
 zg (p:=fun x:List (List UInt8) × List Coin × List Tx × Int × Int × Int × Int × List Op=>z0ku x.2.2.2.2.1 x.2.2.2.2.2.2.2) (f:=fun x:List (List UInt8) × List Coin × List Tx × Int × Int × Int × Int × List Op=>z0l ⟨x.1⟩ x.2.1 x.2.2.1 x.2.2.2.1 x.2.2.2.2.1 x.2.2.2.2.2.1 x.2.2.2.2.2.2.1 x.2.2.2.2.2.2.2) (x,l,p,a,b,c,d,o) ⟨h,h2⟩
attribute [local irreducible] z32 z3c z2t z1t
theorem z09j:Meets Tryz.prog z78 18 ⟨[.agg 1,.one,.one,.one,.one,.one,.one,.one],[(true,[.scal,.scal,.scal,.scal,.pure]),(false,[.scal])],false⟩:=by
 refine zj (sp:=(z07 [(10,z3c),(64,z32),(66,z2t),(90,z1t)])) (sigs:=z0i) (cut:=[]) (hints:=[]) (fn:=Tryz.f18) (t:=z60) (by kernel_rfl) (by kernel_rfl) (by kernel_rfl) ?_ ?_
 ·exact (z01 (L:=[(10,z3c),(64,z32),(66,z2t),(90,z1t)]) ⟨za rfl zh3,za rfl zmc,za rfl zhh,za rfl zad,trivial⟩)
 ·rintro ds rs - h
  obtain ⟨⟨x,l,p,a,b,c,d,o⟩,⟨hb0,ho⟩,rfl,rfl⟩:=zi h;clear h;simp only at hb0 ho;have hb1:=hb0.1;have hb2:=hb0.2;refine ⟨⟨1,?_⟩,z52 ⟨rfl,rfl,rfl,rfl,rfl,trivial⟩⟩
  show den _ _ z60 [.l 1 (x.map z0g),.l 6 (l.map zd),.l 3 (p.map eTx),I a,I b,I c,I d,.l 2 (o.map eOp)] []=ret (z0l ⟨x⟩ l p a b c d o)
  by_cases hmax:b=9223372036854775807
  ·subst hmax
   obtain ⟨e1,e2⟩:=zw7 (k:=⟨x⟩) (l:=l) (p:=p);have a1:=z39 x l p (-9223372036854775808);rw [zag e2] at a1;rw [zn9 (b:=9223372036854775807) (by rw [show (9223372036854775807:Int)+1=9223372036854775808 from rfl,e1];exact e2),show (9223372036854775807:Int)+1=9223372036854775808 from rfl,e1];unfold z60;generalize z03 ⟨x⟩ l p (-9223372036854775808)=e at *;refine z4 (z0k7 (w:=-9223372036854775808) rfl rfl (by decide)) ?_
   repeat' (first|refine dq1 ?_|refine dqK rfl (a1) ?_|exact z5 rfl rfl|refine dqT ?_|fail)
  have a1:=z39 x l p (b+1);have hs:=(z46 ⟨x⟩ l p (b+1)).1;unfold z60 z0l;generalize zt ⟨x⟩ l p (b+1)=q at *;obtain ⟨qx,qs,qm,qf,qe⟩:=q;simp only at *;have a2:=z39 x l (qs.take 3) (b+1);have hz:=z46 ⟨x⟩ l (qs.take 3) (b+1);generalize zt ⟨x⟩ l (qs.take 3) (b+1)=w at *;obtain ⟨wx,ws,wm,wf,we⟩:=w;simp only at *;unfold zis;have a3:=zcp (b+1);have a4:=z5v o ho;have hr:=zho (b+1);generalize z0u (b+1)=rn at *;generalize z2b (b+1)=re at *;have a5:=zdd a (b+1) c d (⟨b+1,[],[⟨rn+wf,o⟩]⟩::ws);generalize zq ⟨a,b+1,c,d,⟨b+1,[],[⟨rn+wf,o⟩]⟩::ws⟩=be at *;have ht:qs.take (if 3<(qs.length:Int) then 3 else (qs.length:Int)).toNat=qs.take 3:=by
   by_cases h3:3<(qs.length:Int)
   ·rw [if_pos h3];rfl
   ·rw [if_neg h3,zY2x,zY1a,zY0p (by omega)]
  repeat' (first|refine dq1 ?_|refine dqK rfl (a1) ?_|refine dqK rfl (a2) ?_|refine dqK rfl (a3) ?_|refine dqk rfl (a4) ?_|refine dqk rfl (a5) ?_|refine z4 (z28 rfl rfl (by simp)) ?_|refine z4 (zam (l:=[⟨b+1,[],[⟨rn+wf,o⟩]⟩]) (l':=ws) rfl rfl (by simp;omega)) ?_|exact z5 rfl rfl|refine tR (fun h=>?_) fun h=>?_|fail)
end
section
open Go.RowKit
set_option maxRecDepth 100000
set_option maxHeartbeats 4000000
attribute [local irreducible] den denX z0f z0k
noncomputable def zav:z9:=spD (fun _:List (List UInt8) × List (List UInt8)=>True) fun x=>decide (x.1=x.2)
theorem zia (l m:List (List UInt8)):zav [.l 1 (l.map z0g),.l 1 (m.map z0g)]=some [.b (decide (l=m))]:=zg (f:=fun x:List (List UInt8) × List (List UInt8)=>decide (x.1=x.2)) (l,m) trivial
attribute [local irreducible] z00 spD
def z0df:T :=
 .lets [.idx 1 7 0] [] (.lets [.bin .neq 9 10] [] (.ite 11 (.ret [.c (.b false)]) (.lets [.bin .add 7 (zI 1)] [] (.again 0 [6,12]))))
def z0dg:T :=
 .lets [.bin .lss 7 5] [] (.ite 8 (.lets [] [.inr 1 0 7] (.lets [.idx 0 7 0] [] (.lets [] [.inr 1 1 7] z0df))) (.ret [.c (.b
 true)]))
def z0dh:T :=
 .lets [.len 1] [] (.lets [.bin .neq 2 3] [] (.ite 4 (.ret [.c (.b false)]) (.lets [.len 0] [] (.loop [.c (.b false),zI 0] z0dg))))
def zks:T :=
 .lets [.len 0] [] z0dh
theorem z0k8:Meets Tryz.prog zav 13 ⟨[.one,.one],[(false,[.scal])],true⟩:=by
 refine zj (sp:=(z07 [])) (sigs:=z0i) (cut:=[]) (hints:=[⟨4,[.t 4,.t 13]⟩]) (fn:=Tryz.f13) (t:=zks) (by kernel_rfl) (by kernel_rfl) (by kernel_rfl) ?_ ?_
 ·exact (z01 (L:=[]) trivial)
 ·rintro ds rs hok h
  obtain ⟨⟨l,m⟩,-,rfl,rfl⟩:=zi h;clear h;have hll:=zfl (hok (.l 1 (l.map z0g)) (zY0h ..));refine ⟨⟨l.length+1,?_⟩,zy rfl⟩
  show den _ _ zks [.l 1 (l.map z0g),.l 1 (m.map z0g)] []=ret (decide (l=m))
  rw [z74];unfold zks
  repeat' (first|refine dq1 ?_|exact z5 rfl rfl|refine tR (fun h=>?_) fun h=>?_|fail)
  have hlm:l.length=m.length:=by omega
  (refine zw (fun (_:Unit) k=>[.b false,I k]) (fun (_:Unit) k (r:List (List UInt8))=>decide (r=m.drop k)) (fun _ _=>True) () l ?_ ?_ ?_ ?_ ?_;rfl;exact trivial;exact zY1z _)
  ·rintro _ k x r hx hd hk - again hag
   have hy:m[k]? = some (m[k]'(by omega)):=zY03 (by omega);have hdy:m.drop k=m[k]'(by omega)::m.drop (k+1):=zY14 (by omega);rw [hdy];generalize m[k]'(by omega)=y at *;have e:decide (x::r=y::m.drop (k+1))=if decide (x≠y)=true then false else decide (r=m.drop (k+1)):=by
    by_cases h:x=y
    ·simp [h]
    ·simp [h]
   rw [e];have hkm:k<m.length:=by omega
   repeat' (first|refine dq1 ?_|refine dqc ?_|exact z5 rfl rfl|exact z6 rfl rfl (hag () trivial)|refine tB (fun h=>?_) fun h=>?_|refine dqT ?_|fail)
  ·rintro _ - again
   rw [hlm,zY21]
   repeat' (first|refine dq1 ?_|exact z5 rfl rfl|refine dqF ?_|fail)
end
section
open Go.RowKit
set_option maxRecDepth 100000
set_option maxHeartbeats 4000000
attribute [local irreducible] z00 spD
attribute [local irreducible] den denX z0f z0k
noncomputable def zd1:z9:=spD (fun _:List Tx × List Tx=>True) fun x=>decide (x.1=x.2)
theorem zjh (l m:List Tx):zd1 [.l 3 (l.map eTx),.l 3 (m.map eTx)]=some [.b (decide (l=m))]:=zg (f:=fun x:List Tx × List Tx=>decide (x.1=x.2)) (l,m) trivial
def z0h9:T :=
 .lets [.call 72 [9,10,11,12,13,14] 0] [] (.lets [.not 15] [] (.ite 16 (.ret [.c (.b false)]) (.lets [.bin .add 7 (zI 1)] [] (.again 0
 [6,17]))))
def z0ha:T :=
 .lets [.idx 0 7 0,.idx 0 7 1,.idx 0 7 2] [] (.lets [] [.inr 3 1 7] (.lets [.idx 1 7 0,.idx 1 7 1,.idx 1 7
 2] [] z0h9))
def z0hb:T :=
 .lets [.len 0] [] (.loop [.c (.b false),zI 0] (.lets [.bin .lss 7 5] [] (.ite 8 (.lets [] [.inr 3 0 7] z0ha) (.ret [.c (.b true)]))))
def zp5:T :=
 .lets [.len 0] [] (.lets [.len 1] [] (.lets [.bin .neq 2 3] [] (.ite 4 (.ret [.c (.b false)]) z0hb)))
attribute [local irreducible] z3a
theorem z0na:Meets Tryz.prog zd1 14 ⟨[.one,.one,.clos 15 []],[(false,[.scal])],true⟩:=by
 refine zj (sp:=(z07 [(72,z3a)])) (sigs:=z0i) (cut:=[]) (hints:=[⟨4,[.t 6,.t 17]⟩]) (fn:=Tryz.f14) (t:=zp5) (by kernel_rfl) (by kernel_rfl) (by kernel_rfl) ?_ ?_
 ·exact (z01 (L:=[(72,z3a)]) ⟨za rfl zhr,trivial⟩)
 ·rintro ds rs hok h
  obtain ⟨⟨l,m⟩,-,rfl,rfl⟩:=zi h;clear h;have hll:=zfl (hok (.l 3 (l.map eTx)) (zY0h ..));refine ⟨⟨l.length+1,?_⟩,zy rfl⟩
  show den _ _ zp5 [.l 3 (l.map eTx),.l 3 (m.map eTx)] []=ret (decide (l=m))
  rw [z74];unfold zp5
  repeat' (first|refine dq1 ?_|exact z5 rfl rfl|refine tR (fun h=>?_) fun h=>?_|fail)
  have hlm:l.length=m.length:=by omega
  (refine zw (fun (_:Unit) k=>[.b false,I k]) (fun (_:Unit) k (r:List Tx)=>decide (r=m.drop k)) (fun _ _=>True) () l ?_ ?_ ?_ ?_ ?_;rfl;exact trivial;exact zY1z _)
  ·rintro _ k x r hx hd hk - again hag
   have hy:m[k]? = some (m[k]'(by omega)):=zY03 (by omega);have hdy:m.drop k=m[k]'(by omega)::m.drop (k+1):=zY14 (by omega);rw [hdy];generalize m[k]'(by omega)=y at *;have e:decide (x::r=y::m.drop (k+1))=if decide (x=y)=true then decide (r=m.drop (k+1)) else false:=by
    by_cases h:x=y
    ·simp [h]
    ·simp [h]
   rw [e];have hkm:k<m.length:=by omega
   have hag:=hag () trivial
   repeat' (first|refine dq1 ?_|refine dqc ?_|refine dqm ?_|refine dqk rfl (zb4 x y) ?_|exact z6 rfl rfl hag|exact z5 rfl rfl|refine tN (fun h=>?_) fun h=>?_|refine dqT ?_|fail)
  ·rintro _ - again
   rw [hlm,zY21]
   repeat' (first|refine dq1 ?_|exact z5 rfl rfl|refine dqF ?_|fail)
end
section
open Go.RowKit
open Go.Lib (itoa)
set_option maxRecDepth 100000
set_option maxHeartbeats 8000000
attribute [local irreducible] z00 spD zt z11 z0l z03 z1m ze zb
attribute [local irreducible] den denX z0f z0k
noncomputable def zw8:z9:=spD (fun _:Book × List Coin × List Tx × Tx × Int=>True) fun _=>true
def zp6:T :=
 .lets [.bin .add 26 27] [] (.lets [.len 13] [] (.lets [.bin .add 28 29] [] (.lets [.bin .eql 30 (zI 0)] [] (.ret [31]))))
def zp7:T :=
 .lets [.bin .add 21 22] [] (.lets [.len 9] [] (.lets [.bin .add 23 24] [] (.lets [.bin .add 25 10] [] (.lets [.len 12] [] zp6))))
def zp8:T :=
 .ite 19 (.lets [.bin .eql 14 15] [] (.ite 20 (.lets [.len 7] [] (.lets [.len 8] [] zp7)) (.ret [.c (.b false)]))) (.ret [.c (.b false)])
def zp9:T :=
 .lets [.bin .add 27 28] [] (.lets [.len 13] [] (.lets [.bin .add 29 30] [] (.lets [.bin .eql 31 (zI 0)] [] (.ret [32]))))
def zpa:T :=
 .lets [.bin .add 22 23] [] (.lets [.len 9] [] (.lets [.bin .add 24 25] [] (.lets [.bin .add 26 10] [] (.lets [.len 12] [] zp9))))
def zpb:T :=
 .ite 20 (.lets [.bin .eql 14 15] [] (.ite 21 (.lets [.len 7] [] (.lets [.len 8] [] zpa)) (.ret [.c (.b false)]))) (.ret [.c (.b false)])
def zpc:T :=
 .ite 34 (.lets [.call 69 [12,31] 0] [] (.ite 35 (.lets [.call 109 [13,32] 0] [] (.ret [36])) (.ret [.c (.b false)]))) (.ret [.c (.b false)])
def zpd:T :=
 .lets [.call 130 [0,1,2,3,4,5,6] 0,.call 130 [0,1,2,3,4,5,6] 1,.call 130 [0,1,2,3,4,5,6] 2] []
 (.lets [.bin .eql 14 33] [] zpc)
def zpe:T :=
 .lets [.call 26 [9,21] 0] [] (.lets [.not 28] [] (.ite 29 (.ret [.c (.b false)]) (.lets [.bin .neq 10 22] [] (.ite 30 (.ret [.c (.b false)])
 zpd))))
def zpf:T :=
 .lets [.not 24] [] (.ite 25 (.ret [.c (.b false)]) (.lets [.call 109 [8,20] 0] [] (.lets [.not 26] [] (.ite 27 (.ret [.c (.b false)]) zpe))))
def znb:T :=
 .lets [.call 129 [0,1,2,6] 0,.call 129 [0,1,2,6] 1,.call 129 [0,1,2,6] 2,.call 129 [0,1,2,6] 3] [] (.lets [.bin .neq
 11 (zI 0)] [] (.ite 23 (.ret [.c (.b false)]) (.lets [.call 69 [7,19] 0] [] zpf)))
def znc:T :=
 .lets [.bin .neq 15 (zI 0)] [] (.ite 18 (.lets [.call 95 [] 0] [] (.ite 19 (.lets [.bin .eql 11 15] [] zpb) (.ret [.c (.b false)])))
 znb)
def znd:T :=
 .lets [.not 16] [] (.ite 17 (.lets [.call 95 [] 0] [] (.ite 18 (.lets [.bin .eql 11 15] [] zp8) (.ret [.c (.b false)]))) znc)
def zne:T :=
 .lets [.call 91 [0,1,2,3,4,5,6] 0,.call 91 [0,1,2,3,4,5,6] 1,.call 91 [0,1,2,3,4,5,6] 2] [] (.lets
 [.call 128 [0,1,2,6] 0] [] (.lets [.call 95 [] 0] [] znd))
def zd2:T :=
 .lets [.call 90 [0,1,2,6] 0,.call 90 [0,1,2,6] 1,.call 90 [0,1,2,6] 2,.call 90 [0,1,2,6] 3,.call 90 [0,1,.v
 2,6] 4] [] zne
attribute [local irreducible] zd1 zav z61 z3e z1t z77 z5m z4u z57
theorem z05q:Meets Tryz.prog zw8 3 ⟨[.agg 1,.one,.one,.agg 3,.one],[(false,[.scal])],true⟩:=by
 refine zj (sp:=(z07 [(26,z4u),(69,zav),(90,z1t),(91,z3e),(95,z61),(109,zd1),(128,z5m),(129,z57),(130,z77)])) (sigs:=z0i) (cut:=[]) (hints:=[]) (fn:=Tryz.f3) (t:=zd2) (by kernel_rfl) (by kernel_rfl) (by kernel_rfl) ?_ ?_
 ·exact (z01 (L:=[(26,z4u),(69,zav),(90,z1t),(91,z3e),(95,z61),(109,zd1),(128,z5m),(129,z57),(130,z77)]) ⟨za rfl z015,za rfl z0k8,za rfl zad,za rfl zhn,za rfl zro,za rfl z0na,za rfl zvy,za rfl zkq,za rfl z09h,trivial⟩)
 ·rintro ds rs - h
  obtain ⟨⟨⟨x⟩,l,p,t,hh⟩,-,rfl,rfl⟩:=zi h;clear h;refine ⟨⟨1,?_⟩,zy rfl⟩
  show den _ _ zd2 [.l 1 (x.map z0g),.l 6 (l.map zd),.l 3 (p.map eTx),I t.height,.l 3 (t.ins.map eIn),.l 2 (t.outs.map z17),I hh] []=ret true
  have a1:=z39 x l p hh;have a2:=z8e x l p t hh;have a3:=ziw x l p hh;have a4:=zg7;have z1:([]:List (List UInt8)).length=0:=rfl;have z2:([]:List Tx).length=0:=rfl;have z3:([]:List Coin).length=0:=rfl;unfold zd2
  by_cases hb:z03 ⟨x⟩ l p hh=0
  rotate_left
  ·rw [zag hb] at a1
   rw [z05o hb] at a2;generalize z03 ⟨x⟩ l p hh=e at *
   repeat' (first|refine dq1 ?_|refine dqK rfl (a1) ?_|refine dqK rfl (a2) ?_|refine dqk rfl (a3) ?_|refine dqk rfl (a4) ?_|exact z5 rfl rfl|refine dqT ?_|refine z0h rfl ?_|refine z0m rfl ?_|fail)
  obtain ⟨h1,h2,-,-,h5,-⟩:=z40 hb;have b1:=z9i x l p hh ⟨h1,h2,h5⟩;have b2:=zn8 x l p t hh hb;obtain ⟨e1,-,-⟩:=zdh hb;simp only at e1;rw [e1] at a1;clear e1;rw [hb] at a3;generalize z1m hh ⟨x,[],l,0⟩ p=q at *;obtain ⟨qx,qs,qm,qf⟩:=q;generalize z11 ⟨x⟩ l p t hh=w at *;obtain ⟨wx,ws,we⟩:=w;simp only at a1 a2 b1 b2;have c1:=zia qx qx;have c2:=zjh qs qs;have c3:=zk7 qm qm;have c4:=zia wx wx;have c5:=zjh ws ws;rw [decide_eq_true rfl] at c1 c2 c3 c4 c5
  repeat' (first|refine dq1 ?_|refine dqK rfl (a1) ?_|refine dqK rfl (a2) ?_|refine dqk rfl (a3) ?_|refine dqk rfl (a4) ?_|refine dqK rfl (b1) ?_|refine dqK rfl (b2) ?_|refine dqk rfl (c1) ?_|refine dqk rfl (c2) ?_|refine dqk rfl (c3) ?_|refine dqk rfl (c4) ?_|refine dqk rfl (c5) ?_|exact z5 rfl rfl|refine dqF ?_|refine z0h rfl ?_|refine z0m rfl ?_|fail)
theorem poolSweep_walk (k:Book) (c_k:List Value) (coins:List (Coin)) (A_coins:Option Addr) (n_coins c_coins:Nat) (l:List (Tx)) (A_l:Option Addr) (n_l c_l:Nat) (t:Tx) (c_t:List Value) (height:Int) (w:World) (h_k:shBook.rep w (Lt w.heap.size) k c_k) (h_coins:Rds shCoin w (Lt w.heap.size) coins A_coins n_coins c_coins) (h_l:Rds shTx w (Lt w.heap.size) l A_l n_l c_l) (h_t:shTx.rep w (Lt w.heap.size) t c_t) (height_0 : -9223372036854775808≤height) (height_1:height≤9223372036854775807) (hG:Glob w) :
  Calls Tryz.prog 3 #[.agg c_k.toArray,.slice A_coins n_coins c_coins,.slice A_l n_l c_l,.agg c_t.toArray,.int .i64 height] w fun e w'=>e = .returned (.bool true)∧Below w.heap.size w w' :=
 zdl (F:=Lt w.heap.size) (us:=[.agg c_k.toArray,.slice A_coins n_coins c_coins,.slice A_l n_l c_l,.agg c_t.toArray,.int .i64 height]) rfl (z23 (fn:=Tryz.f3) (by kernel_rfl) (by kernel_rfl) (by kernel_rfl)) z05q ⟨fun _ h=>h,hG⟩ (zg (f:=fun _=>true) (k,coins,l,t,height) trivial)
  (zf5 (d1:=za3 k) (she_book.to h_k) rfl (z34 (z7d she_coin h_coins) (z34 (z7d she_tx h_l) (zf5 (d1:=eTx t) (she_tx.to h_t) rfl (z34 (.i _ _ (wrap_i64 ⟨height_0,height_1⟩)) zf4)))))
theorem zdi (x y:Block):z6d [I x.parent,I x.height,I x.work,I x.nonce,.l 3 (x.txs.map eTx),I y.parent,I y.height,I y.work,I y.nonce,.l 3 (y.txs.map eTx)]=some [.b (decide (x=y))]:=zoz x y
theorem z05r {k:Book} {l:List Coin} {p:List Tx} {b:Int}:z03 k l p (b+1)=if ze k≠0 then ze k else if zb l≠0 then zb l else if b<0 then 3 else if b > 999 then 3 else if (p.length:Int) > 8 then 2 else 0:=by
 with_unfolding_all unfold z03
 by_cases h1:ze k≠0
 ·rw [if_pos h1,if_pos h1]
 rw [if_neg h1,if_neg h1]
 by_cases h2:zb l≠0
 ·rw [if_pos h2,if_pos h2]
 rw [if_neg h2,if_neg h2]
 by_cases h3:b<0
 ·rw [if_pos h3,if_pos (show b+1<1 by omega)]
 rw [if_neg h3,if_neg (show ¬ b+1<1 by omega)]
 by_cases h4:b > 999
 ·rw [if_pos h4,if_pos (show b+1 > 1000 by omega)]
 rw [if_neg h4,if_neg (show ¬ b+1 > 1000 by omega)]
noncomputable def z05s:z9:=spD (fun x:Book × List Coin × List Tx × Int × Int × Int × Int × List Op=>I64 x.2.2.2.2.1∧x.2.2.2.2.2.2.2.length≤8796093022208) fun _=>true
def z89:T :=
 .ite 22 (.lets [.call 97 [8,9,10,11,12,zI 0,zI 0,zI 0,zI 0,.c (.nil 3)] 0] [] (.ret [23])) (.ret [.c (.b
 false)])
def zge:T :=
 .ite 20 (.lets [.call 95 [] 0] [] (.ite 21 (.lets [.bin .eql 13 (zI 3)] [] z89) (.ret [.c (.b false)]))) (.lets [.call 95 [] 0] [] (.ite 21
 (.lets [.bin .eql 13 (zI 3)] [] z89) (.ret [.c (.b false)])))
def z4w:T :=
 .ite 23 (.lets [.call 97 [8,9,10,11,12,zI 0,zI 0,zI 0,zI 0,.c (.nil 3)] 0] [] (.ret [24])) (.ret [.c (.b
 false)])
def zw9:T :=
 .ite 21 (.lets [.call 95 [] 0] [] (.ite 22 (.lets [.bin .eql 13 (zI 3)] [] z4w) (.ret [.c (.b false)]))) (.lets [.call 95 [] 0] [] (.ite 22
 (.lets [.bin .eql 13 (zI 3)] [] z4w) (.ret [.c (.b false)])))
def z8a:T :=
 .ite 26 (.lets [.call 97 [8,9,10,11,12,zI 0,zI 0,zI 0,zI 0,.c (.nil 3)] 0] [] (.ret [27])) (.ret [.c (.b
 false)])
def zwa:T :=
 .ite 24 (.lets [.call 95 [] 0] [] (.ite 25 (.lets [.bin .eql 13 (zI 2)] [] z8a) (.ret [.c (.b false)]))) (.lets [.call 95 [] 0] [] (.ite 25
 (.lets [.bin .eql 13 (zI 2)] [] z8a) (.ret [.c (.b false)])))
def zwb:T :=
 .ite 27 (.lets [.call 97 [8,9,10,11,12,zI 0,zI 0,zI 0,zI 0,.c (.nil 3)] 0] [] (.ret [28])) (.ret [.c (.b
 false)])
def zwc:T :=
 .lets [.bin .eql 13 31] [] (.ite 32 (.lets [.call 97 [8,9,10,11,12,26,27,28,29,30] 0] [] (.ret [33])) (.ret [.c (.b
 false)]))
def zwd:T :=
 .lets [.call 131 [0,1,2,3,4,5,6,7] 0,.call 131 [0,1,2,3,4,5,6,7] 1,.call 131 [0,1,2,3,4,5,.v
 6,7] 2,.call 131 [0,1,2,3,4,5,6,7] 3,.call 131 [0,1,2,3,4,5,6,7] 4,.call 131 [0,1,2,3,4,.v
 5,6,7] 5] [] zwc
def zwe:T :=
 .lets [.bin .neq 16 (zI 0)] [] (.ite 25 (.lets [.call 95 [] 0] [] (.ite 26 (.lets [.bin .eql 13 16] [] zwb) (.ret [.c (.b false)])))
 zwd)
def zpg:T :=
 .lets [.not 23] [] (.ite 24 (.lets [.call 95 [] 0] [] (.ite 25 (.lets [.bin .eql 13 16] [] z8a) (.ret [.c (.b false)]))) zwe)
def zph:T :=
 .lets [.bin .gtr 21 (zI 8)] [] (.ite 22 (.lets [.call 95 [] 0] [] (.lets [.not 23] [] zwa)) (.lets [.call 95 [] 0] [] zpg))
def z7t:T :=
 .ite 24 (.lets [.call 97 [8,9,10,11,12,zI 0,zI 0,zI 0,zI 0,.c (.nil 3)] 0] [] (.ret [25])) (.ret [.c (.b
 false)])
def z7u:T :=
 .ite 25 (.lets [.call 97 [8,9,10,11,12,zI 0,zI 0,zI 0,zI 0,.c (.nil 3)] 0] [] (.ret [26])) (.ret [.c (.b
 false)])
def zpi:T :=
 .lets [.bin .eql 13 29] [] (.ite 30 (.lets [.call 97 [8,9,10,11,12,24,25,26,27,28] 0] [] (.ret [31])) (.ret [.c (.b
 false)]))
def zpj:T :=
 .lets [.call 131 [0,1,2,3,4,5,6,7] 0,.call 131 [0,1,2,3,4,5,6,7] 1,.call 131 [0,1,2,3,4,5,.v
 6,7] 2,.call 131 [0,1,2,3,4,5,6,7] 3,.call 131 [0,1,2,3,4,5,6,7] 4,.call 131 [0,1,2,3,4,.v
 5,6,7] 5] [] zpi
def zpk:T :=
 .lets [.bin .neq 16 (zI 0)] [] (.ite 23 (.lets [.call 95 [] 0] [] (.ite 24 (.lets [.bin .eql 13 16] [] z7u) (.ret [.c (.b false)])))
 zpj)
def zer:T :=
 .lets [.not 21] [] (.ite 22 (.lets [.call 95 [] 0] [] (.ite 23 (.lets [.bin .eql 13 16] [] z7t) (.ret [.c (.b false)]))) zpk)
def zpl:T :=
 .ite 19 (.lets [.call 95 [] 0] [] (.lets [.not 20] [] zw9)) (.lets [.bin .eql 16 (zI 0)] [] (.ite 20 (.lets [.len 2] [] zph)
 (.lets [.call 95 [] 0] [] zer)))
def zpm:T :=
 .lets [.bin .lss 4 (zI 0)] [] (.ite 18 (.lets [.call 95 [] 0] [] (.lets [.not 19] [] zge)) (.lets [.bin .gtr 4 (zI 999)] []
 zpl))
def zpn:T :=
 .ite 22 (.lets [.call 95 [] 0] [] (.ite 23 (.lets [.bin .eql 13 (zI 2)] [] z7t) (.ret [.c (.b false)]))) (.lets [.call 95 [] 0] [] (.ite 23
 (.lets [.bin .eql 13 (zI 2)] [] z7t) (.ret [.c (.b false)])))
def zpo:T :=
 .lets [.bin .gtr 19 (zI 8)] [] (.ite 20 (.lets [.call 95 [] 0] [] (.lets [.not 21] [] zpn)) (.lets [.call 95 [] 0] [] zer))
def zpp:T :=
 .lets [.bin .eql 13 27] [] (.ite 28 (.lets [.call 97 [8,9,10,11,12,22,23,24,25,26] 0] [] (.ret [29])) (.ret [.c (.b
 false)]))
def zpq:T :=
 .lets [.call 131 [0,1,2,3,4,5,6,7] 0,.call 131 [0,1,2,3,4,5,6,7] 1,.call 131 [0,1,2,3,4,5,.v
 6,7] 2,.call 131 [0,1,2,3,4,5,6,7] 3,.call 131 [0,1,2,3,4,5,6,7] 4,.call 131 [0,1,2,3,4,.v
 5,6,7] 5] [] zpp
def zpr:T :=
 .lets [.bin .neq 16 (zI 0)] [] (.ite 21 (.lets [.call 95 [] 0] [] (.ite 22 (.lets [.bin .eql 13 16] [] z4w) (.ret [.c (.b false)])))
 zpq)
def zps:T :=
 .lets [.not 19] [] (.ite 20 (.lets [.call 95 [] 0] [] (.ite 21 (.lets [.bin .eql 13 16] [] z89) (.ret [.c (.b false)]))) zpr)
def zpt:T :=
 .ite 17 zpm (.lets [.bin .eql 16 (zI 0)] [] (.ite 18 (.lets [.len 2] [] zpo) (.lets [.call 95 [] 0] [] zps)))
def z9y:T :=
 .ite 21 (.lets [.call 97 [8,9,10,11,12,zI 0,zI 0,zI 0,zI 0,.c (.nil 3)] 0] [] (.ret [22])) (.ret [.c (.b
 false)])
def zpu:T :=
 .ite 19 (.lets [.call 95 [] 0] [] (.ite 20 (.lets [.bin .eql 13 (zI 3)] [] z9y) (.ret [.c (.b false)]))) (.lets [.call 95 [] 0] [] (.ite 20
 (.lets [.bin .eql 13 (zI 3)] [] z9y) (.ret [.c (.b false)])))
def zpv:T :=
 .ite 23 (.lets [.call 95 [] 0] [] (.ite 24 (.lets [.bin .eql 13 (zI 2)] [] z7u) (.ret [.c (.b false)]))) (.lets [.call 95 [] 0] [] (.ite 24
 (.lets [.bin .eql 13 (zI 2)] [] z7u) (.ret [.c (.b false)])))
def zpw:T :=
 .lets [.bin .eql 13 30] [] (.ite 31 (.lets [.call 97 [8,9,10,11,12,25,26,27,28,29] 0] [] (.ret [32])) (.ret [.c (.b
 false)]))
def zpx:T :=
 .lets [.call 131 [0,1,2,3,4,5,6,7] 0,.call 131 [0,1,2,3,4,5,6,7] 1,.call 131 [0,1,2,3,4,5,.v
 6,7] 2,.call 131 [0,1,2,3,4,5,6,7] 3,.call 131 [0,1,2,3,4,5,6,7] 4,.call 131 [0,1,2,3,4,.v
 5,6,7] 5] [] zpw
def zpy:T :=
 .lets [.bin .neq 14 (zI 0)] [] (.ite 24 (.lets [.call 95 [] 0] [] (.ite 25 (.lets [.bin .eql 13 14] [] z8a) (.ret [.c (.b false)])))
 zpx)
def zpz:T :=
 .lets [.not 22] [] (.ite 23 (.lets [.call 95 [] 0] [] (.ite 24 (.lets [.bin .eql 13 14] [] z7u) (.ret [.c (.b false)]))) zpy)
def zq0:T :=
 .lets [.bin .gtr 20 (zI 8)] [] (.ite 21 (.lets [.call 95 [] 0] [] (.lets [.not 22] [] zpv)) (.lets [.call 95 [] 0] [] zpz))
def zq1:T :=
 .lets [.bin .eql 13 28] [] (.ite 29 (.lets [.call 97 [8,9,10,11,12,23,24,25,26,27] 0] [] (.ret [30])) (.ret [.c (.b
 false)]))
def zq2:T :=
 .lets [.call 131 [0,1,2,3,4,5,6,7] 0,.call 131 [0,1,2,3,4,5,6,7] 1,.call 131 [0,1,2,3,4,5,.v
 6,7] 2,.call 131 [0,1,2,3,4,5,6,7] 3,.call 131 [0,1,2,3,4,5,6,7] 4,.call 131 [0,1,2,3,4,.v
 5,6,7] 5] [] zq1
def zq3:T :=
 .lets [.bin .neq 14 (zI 0)] [] (.ite 22 (.lets [.call 95 [] 0] [] (.ite 23 (.lets [.bin .eql 13 14] [] z7t) (.ret [.c (.b false)])))
 zq2)
def zes:T :=
 .lets [.not 20] [] (.ite 21 (.lets [.call 95 [] 0] [] (.ite 22 (.lets [.bin .eql 13 14] [] z4w) (.ret [.c (.b false)]))) zq3)
def zq4:T :=
 .ite 18 (.lets [.call 95 [] 0] [] (.lets [.not 19] [] zge)) (.lets [.bin .eql 14 (zI 0)] [] (.ite 19 (.lets [.len 2] [] zq0)
 (.lets [.call 95 [] 0] [] zes)))
def zq5:T :=
 .lets [.bin .lss 4 (zI 0)] [] (.ite 17 (.lets [.call 95 [] 0] [] (.lets [.not 18] [] zpu)) (.lets [.bin .gtr 4 (zI 999)] []
 zq4))
def zq6:T :=
 .ite 21 (.lets [.call 95 [] 0] [] (.ite 22 (.lets [.bin .eql 13 (zI 2)] [] z4w) (.ret [.c (.b false)]))) (.lets [.call 95 [] 0] [] (.ite 22
 (.lets [.bin .eql 13 (zI 2)] [] z4w) (.ret [.c (.b false)])))
def zq7:T :=
 .lets [.bin .gtr 18 (zI 8)] [] (.ite 19 (.lets [.call 95 [] 0] [] (.lets [.not 20] [] zq6)) (.lets [.call 95 [] 0] [] zes))
def zq8:T :=
 .lets [.bin .eql 13 26] [] (.ite 27 (.lets [.call 97 [8,9,10,11,12,21,22,23,24,25] 0] [] (.ret [28])) (.ret [.c (.b
 false)]))
def zq9:T :=
 .lets [.call 131 [0,1,2,3,4,5,6,7] 0,.call 131 [0,1,2,3,4,5,6,7] 1,.call 131 [0,1,2,3,4,5,.v
 6,7] 2,.call 131 [0,1,2,3,4,5,6,7] 3,.call 131 [0,1,2,3,4,5,6,7] 4,.call 131 [0,1,2,3,4,.v
 5,6,7] 5] [] zq8
def zqa:T :=
 .lets [.bin .neq 14 (zI 0)] [] (.ite 20 (.lets [.call 95 [] 0] [] (.ite 21 (.lets [.bin .eql 13 14] [] z89) (.ret [.c (.b false)])))
 zq9)
def zqb:T :=
 .lets [.not 18] [] (.ite 19 (.lets [.call 95 [] 0] [] (.ite 20 (.lets [.bin .eql 13 14] [] z9y) (.ret [.c (.b false)]))) zqa)
def zqc:T :=
 .ite 16 zq5 (.lets [.bin .eql 14 (zI 0)] [] (.ite 17 (.lets [.len 2] [] zq7) (.lets [.call 95 [] 0] [] zqb)))
def zqd:T :=
 .ite 15 (.lets [.call 25 [1] 0] [] (.lets [.bin .eql 16 (zI 0)] [] zpt)) (.lets [.bin .eql 14 (zI 0)] [] zqc)
def zdy:T :=
 .lets [.call 92 [0,1,2,3,4,5,6,7] 0,.call 92 [0,1,2,3,4,5,6,7] 1,.call 92 [0,1,2,3,4,5,6,
 .v 7] 2,.call 92 [0,1,2,3,4,5,6,7] 3,.call 92 [0,1,2,3,4,5,6,7] 4,.call 92 [0,1,2,3,4,5,.v
 6,7] 5] [] (.lets [.call 111 [0] 0] [] (.lets [.bin .eql 14 (zI 0)] [] zqd))
attribute [local irreducible] z78 z2u z1h zd0 z6d
theorem z09k:Meets Tryz.prog z05s 4 ⟨[.agg 1,.one,.one,.one,.one,.one,.one,.one],[(false,[.scal])],true⟩:=by
 refine zj (sp:=(z07 [(25,z1h),(92,z78),(95,z61),(97,z6d),(111,z2u),(131,zd0)])) (sigs:=z0i) (cut:=[]) (hints:=[]) (fn:=Tryz.f4) (t:=zdy) (by kernel_rfl) (by kernel_rfl) (by kernel_rfl) ?_ ?_
 ·exact (z01 (L:=[(25,z1h),(92,z78),(95,z61),(97,z6d),(111,z2u),(131,zd0)]) ⟨za rfl zb6,za rfl z09j,za rfl zro,za rfl z0ck,za rfl zht,za rfl z0n9,trivial⟩)
 ·rintro ds rs - h
  obtain ⟨⟨⟨x⟩,l,p,a,b,c,d,o⟩,⟨hbi,ho⟩,rfl,rfl⟩:=zi h;clear h;simp only at hbi ho;refine ⟨⟨1,?_⟩,zy rfl⟩
  show den _ _ zdy [.l 1 (x.map z0g),.l 6 (l.map zd),.l 3 (p.map eTx),I a,I b,I c,I d,.l 2 (o.map eOp)] []=ret true
  have a1:=zna x l p a b c d o hbi ho;have a2:=zba x;have a3:=z5e l;have a4:=zg7;have e0:=z05r (k:=⟨x⟩) (l:=l) (p:=p) (b:=b);have c1:=zdi z97 z97;rw [decide_eq_true rfl] at c1;unfold zdy
  by_cases hb:z03 ⟨x⟩ l p (b+1)=0
  rotate_left
  ·rw [zn9 hb] at a1
   generalize z03 ⟨x⟩ l p (b+1)=e at *;generalize ze ⟨x⟩=f at *;generalize zb l=g at *;simp only at a1
   by_cases k1:f=0
   rotate_left
   ·rw [if_pos k1] at e0
    subst e0
    repeat' (first|refine dq1 ?_|refine dqK rfl (a1) ?_|refine dqk rfl (a2) ?_|refine dqk rfl (a4) ?_|refine dqk rfl (c1) ?_|exact z5 rfl rfl|refine dqT ?_|refine dqF ?_|refine z0h rfl ?_|refine z0m rfl ?_|fail)
   rw [if_neg (fun x=>x k1)] at e0
   by_cases k2:g=0
   rotate_left
   ·rw [if_pos k2] at e0
    subst e0
    repeat' (first|refine dq1 ?_|refine dqK rfl (a1) ?_|refine dqk rfl (a2) ?_|refine dqk rfl (a3) ?_|refine dqk rfl (a4) ?_|refine dqk rfl (c1) ?_|exact z5 rfl rfl|refine dqT ?_|refine dqF ?_|refine z0h rfl ?_|refine z0m rfl ?_|fail)
   rw [if_neg (fun x=>x k2)] at e0
   by_cases k3:b<0
   ·rw [if_pos k3] at e0
    subst e0
    repeat' (first|refine dq1 ?_|refine dqK rfl (a1) ?_|refine dqk rfl (a2) ?_|refine dqk rfl (a3) ?_|refine dqk rfl (a4) ?_|refine dqk rfl (c1) ?_|exact z5 rfl rfl|refine dqT ?_|refine z0h rfl ?_|refine z0m rfl ?_|fail)
   rw [if_neg k3] at e0
   by_cases k4:b > 999
   ·rw [if_pos k4] at e0
    subst e0
    repeat' (first|refine dq1 ?_|refine dqK rfl (a1) ?_|refine dqk rfl (a2) ?_|refine dqk rfl (a3) ?_|refine dqk rfl (a4) ?_|refine dqk rfl (c1) ?_|exact z5 rfl rfl|refine dqT ?_|refine dqF ?_|refine z0h rfl ?_|refine z0m rfl ?_|fail)
   rw [if_neg k4] at e0
   by_cases k5:(p.length:Int) > 8
   ·rw [if_pos k5] at e0
    subst e0
    repeat' (first|refine dq1 ?_|refine dqK rfl (a1) ?_|refine dqk rfl (a2) ?_|refine dqk rfl (a3) ?_|refine dqk rfl (a4) ?_|refine dqk rfl (c1) ?_|exact z5 rfl rfl|refine dqT ?_|refine dqF ?_|refine z0h rfl ?_|refine z0m rfl ?_|fail)
   ·rw [if_neg k5] at e0
    exact absurd e0 hb
  obtain ⟨h1,h2,h3,h4,h5,-⟩:=z40 hb;have b1:=z09i x l p a b c d o hb;rw [h1] at a2;rw [h2] at a3;clear e0;generalize z0l ⟨x⟩ l p a b c d o=w at *;obtain ⟨wb,we⟩:=w;simp only at a1 b1;have c2:=zdi wb wb;rw [decide_eq_true rfl] at c2
  repeat' (first|refine dq1 ?_|refine dqK rfl (a1) ?_|refine dqk rfl (a2) ?_|refine dqk rfl (a3) ?_|refine dqk rfl (a4) ?_|refine dqK rfl (b1) ?_|refine dqk rfl (c2) ?_|exact z5 rfl rfl|refine dqF ?_|refine z0h rfl ?_|refine z0m rfl ?_|fail)
theorem poolMake_walk (k:Book) (c_k:List Value) (coins:List (Coin)) (A_coins:Option Addr) (n_coins c_coins:Nat) (l:List (Tx)) (A_l:Option Addr) (n_l c_l:Nat) (parent:Int) (height:Int) (work:Int) (nonce:Int) (lk:List (Op)) (A_lk:Option Addr) (n_lk c_lk:Nat) (w:World) (h_k:shBook.rep w (Lt w.heap.size) k c_k) (h_coins:Rds shCoin w (Lt w.heap.size) coins A_coins n_coins c_coins) (h_l:Rds shTx w (Lt w.heap.size) l A_l n_l c_l) (parent_0 : -9223372036854775808≤parent) (parent_1:parent≤9223372036854775807) (height_0 : -9223372036854775808≤height) (height_1:height≤9223372036854775807) (work_0 : -9223372036854775808≤work) (work_1:work≤9223372036854775807) (nonce_0 : -9223372036854775808≤nonce) (nonce_1:nonce≤9223372036854775807) (h_lk:Rds shOp w (Lt w.heap.size) lk A_lk n_lk c_lk) (z_lk:n_lk * 16≤140737488351232) (hG:Glob w) :
  Calls Tryz.prog 4 #[.agg c_k.toArray,.slice A_coins n_coins c_coins,.slice A_l n_l c_l,.int .i64 parent,.int .i64 height,.int .i64 work,.int .i64 nonce,.slice A_lk n_lk c_lk] w fun e w'=>e = .returned (.bool true)∧Below w.heap.size w w' :=
 zdl (F:=Lt w.heap.size) (us:=[.agg c_k.toArray,.slice A_coins n_coins c_coins,.slice A_l n_l c_l,.int .i64 parent,.int .i64 height,.int .i64 work,.int .i64 nonce,.slice A_lk n_lk c_lk]) rfl (z23 (fn:=Tryz.f4) (by kernel_rfl) (by kernel_rfl) (by kernel_rfl)) z09k ⟨fun _ h=>h,hG⟩ (zg (f:=fun _=>true) (k,coins,l,parent,height,work,nonce,lk) (⟨⟨height_0,height_1⟩,by have q:=h_lk.1;simp only;omega⟩))
  (zf5 (d1:=za3 k) (she_book.to h_k) rfl (z34 (z7d she_coin h_coins) (z34 (z7d she_tx h_l) (z34 (.i _ _ (wrap_i64 ⟨parent_0,parent_1⟩)) (z34 (.i _ _ (wrap_i64 ⟨height_0,height_1⟩)) (z34 (.i _ _ (wrap_i64 ⟨work_0,work_1⟩)) (z34 (.i _ _ (wrap_i64 ⟨nonce_0,nonce_1⟩)) (z34 (z7d z7z h_lk) zf4))))))))
end
end Go.Proofs.YtaddehddalnliaaGreatDoor
