/- Own texts, put together by wip/bundle.py: VUC, VE3, VE4, VE8, VC6, VW27. -/
import Derived.Test.YtmjelcjgllkapaaGreatDoorCMOwnB
import Derived.Test.YtmjelcjgllkapaaGreatDoorCMOwnC
import Derived.Test.YtmjelcjgllkapaaGreatDoorCMOwnR
import Derived.Test.YtmjelcjgllkapaaGreatDoorCMOwnS
import Derived.Test.YtmjelcjgllkapaaGreatDoorCMOwnT
import Derived.Test.YtmjelcjgllkapaaGreatDoorCMOwnV2
import Derived.Test.YtmjelcjgllkapaaGreatDoorCMOwnZ4
set_option linter.unusedVariables false
set_option linter.unusedSimpArgs false
set_option maxRecDepth 100000
set_option maxHeartbeats 8000000
namespace Go.Proofs.YtmjelcjgllkapaaGreatDoor
open Go.RowKit
section
attribute [local irreducible] z09 spD z1w z9 zo z2e zb z0v z4p den denX z0s z0w
noncomputable def z77:zd:=spD z9l λx=>z16 x.1 x.2
theorem zl3(t:Tx)(l:List Coin)(h:z9l (t,l)):z77 [I t.height,.l 3 (t.ins.map eIn),.l 2 (t.outs.map z30),.l 6 (l.map za)]=some [I (z16 t l)]:=zi (p:=z9l) (f:=λx:Tx×List Coin=>z16 x.1 x.2) (t,l) h
def zo7:T:=zL 3 zUi
theorem zyr:Meets Tryz.prog z77 55 zW0h:=by
 refine zg (sp:=(zx [])) (sigs:=z02) (cut:=[]) (hints:=[⟨3,[.t 5,.t 12]⟩,⟨8,[.t 5,.t 25]⟩]) (fn:=Tryz.f55) (t:=zo7) ?_ ?_
 ·exact(zq (L:=[]) trivial)
 ·rintro ds rs-h;obtain⟨⟨t,l⟩,⟨h1,h2,h3,h4⟩,rfl,rfl⟩:=zh h;clear h;simp only at h1 h2 h3 h4;refine⟨⟨l.length+t.outs.length+1,?_⟩,z0b rfl⟩;show den _ _ zo7 [I t.height,.l 3 (t.ins.map eIn),.l 2 (t.outs.map z30),.l 6 (l.map za)] []=ret (z16 t l);unfold zo7 z16;repeat'(first|refine dq1 ?_|fail)
  (refine zj (λ(s:Int) k=>[I s,I k]) (λ(s:Int) _ (r:List Coin)=>t.outs.foldl (λs o=>s-o.coin) (r.foldl (λs c=>s+c.o.coin) s)) (λs k=>0<=s/\s<=k*1000000000) (0:Int) l ?_ ?_ ?_ ?_ ?_;rfl;exact⟨by omega,by omega⟩;omega)
  ·rintro s k c r hx hd hkl ⟨h0,h5⟩ again hag;have hc:=h2 c (zY06 hx);repeat'(first|refine dq1 ?_|refine dqc ?_|refine dqm ?_|refine dqT ?_|fail)
   exact z6 rfl rfl (hag (s+c.o.coin) ⟨by omega,by omega⟩)
  ·rintro s ⟨h0,h5⟩ again;repeat'(first|refine dq1 ?_|refine dqF ?_|fail)
   (refine zj (λ(s:Int) k=>[I s,I k]) (λ(s:Int) _ (r:List Out)=>r.foldl (λs o=>s-o.coin) s) (λs k => - (k*1000000000)<=s/\s<=l.length*1000000000) s t.outs ?_ ?_ ?_ ?_ ?_;rfl;exact⟨by omega,by omega⟩;omega)
   ·rintro s k c r hx hd hkl ⟨h0,h5⟩ again' hag;have hc:=h4 c (zY06 hx);repeat'(first|refine dq1 ?_|refine dqc ?_|refine dqm ?_|refine dqT ?_|fail)
    exact z6 rfl rfl (hag (s-c.coin) ⟨by omega,by omega⟩)
   ·rintro s ⟨h0,h5⟩ again';repeat'(first|refine dq1 ?_|exact z5 rfl rfl|refine dqF ?_|fail)
attribute [local irreducible] z16
structure SpJ(l:List Coin)(st:List Coin×List Coin)(k:Nat):Prop where
 dist:z1s st.1
 len:st.1.length<=l.length
 good:∀c∈st.1,z5d c=0
 cnt:st.2.length=k
 spent:∀c∈st.2,z5d c=0
theorem SpJ.cut{l:List Coin}{r s:List Coin}{k:Nat}{c:Coin}{j:Nat}(h:SpJ l (r,s) k)(hc:r[j]?=some c):SpJ l (r.take j++r.drop (j+1),s++[c]) (k+1):=by
 refine⟨zo6 h.dist j,?_,λd hd=>?_,?_,λd hd=>?_⟩
 ·have:=h.len;simp only[zY04,zY0d,zY0w]at this⊢;omega
 ·rcases zY13.1 hd with hd|hd
  ·exact h.good d (zY2f hd)
  ·exact h.good d (zY2g hd)
 ·have:=h.cnt;simp only[zY04,zY1c]at this⊢;omega
 ·rcases zY13.1 hd with hd|hd
  ·exact h.spent d hd
  ·rw[zY12.1 hd];exact h.good c (zY06 hc)
theorem SpJ.fee{l:List Coin}{r s:List Coin}{t:Tx}(h:SpJ l (r,s) t.ins.length)(ht:TxOK t):z9l (t,s):=by
 have h1:=h.cnt;have h2:=ht.ins;have h3:=ht.outs;simp only at h1;refine⟨by simp only;omega,λc hc=>?_,by simp only;omega,λo ho=>?_⟩
 ·have:=z49 (h.spent c hc);exact⟨by omega,by omega⟩
 ·have:=ht.good o ho;exact⟨by omega,by omega⟩
noncomputable def z9q:zd:=spD (λx:List Coin×Tx×Int×Int=>z9 x.1=0/\zo x.2.1=0) λx=>z3i x.1 x.2.1 x.2.2.1 x.2.2.2
theorem zs7(l:List Coin)(t:Tx)(nm h:Int)(hl:z9 l=0)(ht:zo t=0):z9q [.l 6 (l.map za),I t.height,.l 3 (t.ins.map eIn),.l 2 (t.outs.map z30),I nm,I h]=some [.l 6 ((z3i l t nm h).1.map za),.l 6 ((z3i l t nm h).2.1.map za),I (z3i l t nm h).2.2]:=zi (f:=λx:List Coin×Tx×Int×Int=>z3i x.1 x.2.1 x.2.2.1 x.2.2.2) (l,t,nm,h) ⟨hl,ht⟩
def zU1m(a b:Nat):T:=zS (.sub 6 (.v (a+3)) none (some (.v (a+9)))) (zB .add (.v (a+9)) (zI 1) (zS (.sub 6 (.v (a+3)) (some (.v (b+5))) none) (zS (.mk 1 [[.v (b+4)],[.v (b+6)]]) (zC 51 [.v (b+7)] (zB .add (.v (a+4)) (zI 1) (.again 0 [.v (b+3),.v (a+1),.v (a+2),.v (b+8),.v (b+9)]))))))
def zU7(a b:Nat):T:=zC 44 [.v (a+14),.v (a+8),5] (zS (.not (.v b)) (.ite (.v (b+1)) (.ret [.c (.nil 6),.c (.nil 6),zI 8]) (zS (.mk 6 [[.v (a+11),.v (a+12),.v (a+13),.v (a+14),.v (a+15),.v (a+16)]]) (zS (.app 6 (.v a) (.v (b+2))) (zU1m a b)))))
def zU1n(a:Nat):T:=zQ .lss (.v (a+9)) (zI 0) (.v (a+10)) (.ret [.c (.nil 6),.c (.nil 6),zI 7]) (zE 6 (.v (a+3)) (.v (a+9)) (.ite (.v (a+16)) (zB .add (.v (a+15)) (zI 2) (zQ .gtr (.v (a+17)) 5 (.v (a+18)) (.ret [.c (.nil 6),.c (.nil 6),zI 10]) (zU7 a (a+19)))) (zU7 a (a+17))))
def zUp(a:Nat):T:=.W (zD 2 (.v (a+4)) 3) [] (zC 48 [.v (a+3),.v (a+6),.v (a+7)] (zU1n a))
def zU1o(b:Nat):T:=zC 48 [.v (b+3),4,.v (b+4)] (zQ .geq (.v (b+8)) (zI 0) (.v (b+9)) (.ret [.c (.nil 6),.c (.nil 6),zI 6]) (zC 9 [.v (b+3)] (zS (.mk 6 [[4,.v (b+4),.v (b+6),.v (b+7),5,11]]) (zS (.app 6 (.v (b+10)) (.v (b+11))) (zUe (b+2) (.v (b+1)) (.v (b+12)) (.v (b+13)))))))
def zUw(a b:Nat):T:=zL 3 (.loop [.v (a+1),.v (a+2),.v (a+3),zI 0] (zQ .lss (.v (b+4)) (.v b) (.v (b+5)) (zE 2 3 (.v (b+4)) (zU1o b)) (zC 49 [.v (b+3)] (zC 25 [.v (b+6)] (zUl (.v (b+7)) (.v (b+8)) (.c (.nil 6)) (.v (b+6)) (.v a))))))
def zys:T:=.ite 11 (zQ .neq 1 5 12 (.ret [.c (.nil 6),.c (.nil 6),zI 4]) (zC 9 [0] (zL 2 (.loop [.c (.nil 6),.c (.nil 6),zI 0,13,zI 0] (zQ .lss 19 14 20 (.W [] [.inr 3 2 19] (zUp 15)) (zUw 15 21)))))) (zC 9 [0] (zL 2 (.loop [.c (.nil 6),.c (.nil 6),zI 0,12,zI 0] (zQ .lss 18 13 19 (.W [] [.inr 3 2 18] (zUp 14)) (zC 50 [1,2,3,14] (zQ .lss 20 (zI 0) 21 (.ret [.c (.nil 6),.c (.nil 6),zI 9]) (zUw 14 22)))))))
def zyt:T:=.ite 6 (.ret [.c (.nil 6),.c (.nil 6),zI 3]) (zQ .gtr 4 (zI 120) 7 (.ret [.c (.nil 6),.c (.nil 6),zI 3]) (zQ .lss 5 (zI 1) 8 (.ret [.c (.nil 6),.c (.nil 6),zI 3]) (zQ .gtr 5 (zI 1000) 9 (.ret [.c (.nil 6),.c (.nil 6),zI 3]) (zL 2 (zB .eql 10 (zI 0) zys)))))
def zij:T:=zB .lss 4 (zI 1) zyt
attribute [local irreducible] z5b z7p z29 z77 zbk z76 z6d
theorem z050:Meets Tryz.prog z9q 54 zW04:=by
 refine z73 (sp:=(zx [(9,z5b),(25,z29),(44,zbk),(48,z76),(49,z6d),(50,z77),(51,z7p)])) (sigs:=z0gx) (cut:=[]) (hints:=[⟨10,[.n 13 0 360 84 6,.c 13 0 360,.r 8 84 6,.t 10,.r 14 84 6,.t 63,.z 59]⟩,⟨26,[.r 8 84 6,.t 10,.r 14 84 6,.t 142]⟩]) (fns:=[za0 85 Tryz.f85 [] []]) (dep:=1) (pool:=300) (fn:=Tryz.f54) (t:=zij) ?_ ?_ ?_
 ·exact(z2q (fn:=Tryz.f85) zX1 zX1 zX1 zX1 zX1 z8e)
 ·exact(zq (L:=[(9,z5b),(25,z29),(44,zbk),(48,z76),(49,z6d),(50,z77),(51,z7p)]) ⟨z7 rfl zni,z7 rfl zdb,z7 rfl z08p,z7 rfl (z04q zyg),z7 rfl zu6,z7 rfl zyr,z7 rfl zyf,trivial⟩)
 ·rintro ds rs-h;obtain⟨⟨l,t,nm,ht⟩,⟨hlc,htc⟩,rfl,rfl⟩:=zh h;clear h;simp only at hlc htc;have ok:CoinsOK l:=(z0m l).1 hlc;have okt:TxOK t:=z3t htc;have hkey:=z08l okt.insOk;have hl:=ok.len;have hti:=okt.ins;have hto:=okt.outs;refine⟨⟨t.ins.length+t.outs.length+1,?_⟩,zq4⟩;show den _ _ zij [.l 6 (l.map za),I t.height,.l 3 (t.ins.map eIn),.l 2 (t.outs.map z30),I nm,I ht] []=ret (z3i l t nm ht);unfold zij z3i;repeat'(first|refine dq1 ?_|refine dqk rfl (z8i l zX0) ?_|exact z5 rfl rfl|refine tR (λh=>?_) λh=>?_|fail)
  ·(refine zj (λ(st:List Coin×List Coin) k=>[.l 6 (st.2.map za),.l 6 (([]:List Coin).map za),I 0,.l 6 (st.1.map za),I k]) (λ(st:List Coin×List Coin) _ (xs:List In)=>z7q ht z1v (λr s=>z6e nm ht (decide ((t.ins.length:Int)=0)) z1v (λr=>z5w s (z0v r)) r 0 t.outs) st.1 st.2 xs) (λst k=>SpJ l st k) (l,[]) t.ins ?_ ?_ ?_ ?_ ?_;rfl;exact⟨z80 ok.sorted,zY0k _,ok.good,rfl,λc hc=>by cases hc⟩;omega)
   ·rintro⟨r,s⟩ k x xs hx hd hk hI again hag;omega
   ·rintro⟨r,s⟩ hI again;rw[z7q];repeat'(first|refine dq1 ?_|refine dqF ?_|fail)
    (refine zj (λ(r:List Coin) k=>[.l 6 (([]:List Coin).map za),I 0,.l 6 (r.map za),I k]) (λ(r:List Coin) k (os:List Out)=>z6e nm ht (decide ((t.ins.length:Int)=0)) z1v (λr=>z5w s (z0v r)) r k os) (λr k=>z1s r/\r.length<=l.length+k) r t.outs ?_ ?_ ?_ ?_ ?_;rfl;exact⟨hI.dist,hI.len⟩;omega)
    ·rintro r k o os hx hd hk ⟨hs,hrl⟩ again' hag;rw[z6e];have hp:=z8s r ⟨nm,k⟩;rcases z64 r ⟨nm,k⟩with⟨h1,h2⟩|⟨j,hj,h1,h2⟩
     ·rw[h1]at hp⊢;have hn0:¬(-1:Int)>=0:=zX0;rw[zN hn0];have hag:=hag (r++[⟨⟨nm,k⟩,o,ht,decide ((t.ins.length:Int)=0)⟩]) ⟨zig hs h2,by rw[zY04,zY1c];omega⟩;repeat'(first|refine dq1 ?_|refine dqc ?_|refine dqm ?_|refine dqk rfl (hp) ?_|refine dqk rfl (z8i r zX0) ?_|refine z4 (z1p (r:=[(⟨⟨nm,k⟩,o,ht,decide ((t.ins.length:Int)=0)⟩:Coin)].map za) rfl rfl zX4) ?_|exact z6 rfl rfl hag|refine dqT ?_|refine dqF ?_|fail)
     ·rw[h1]at hp⊢;have hn0:(j:Int)>=0:=zX0;rw[zP hn0];repeat'(first|refine dq1 ?_|refine dqc ?_|refine dqm ?_|refine dqk rfl (hp) ?_|exact z5 rfl rfl|refine dqT ?_|fail)
    ·rintro r ⟨hs,hrl⟩ again';rw[z6e];unfold z5w;repeat'(first|refine dq1 ?_|refine dqk rfl (zdc r ⟨by omega,hs⟩) ?_|refine dqk rfl (z3w (z0v r)) ?_|exact z5 rfl rfl|refine tR (λh=>?_) λh=>?_|refine dqF ?_|fail)
  ·(refine zj (λ(st:List Coin×List Coin) k=>[.l 6 (st.2.map za),.l 6 (([]:List Coin).map za),I 0,.l 6 (st.1.map za),I k]) (λ(st:List Coin×List Coin) _ (xs:List In)=>z7q ht z1v (λr s=>if z16 t s<0 then z1v 9 else z6e nm ht (decide ((t.ins.length:Int)=0)) z1v (λr=>z5w s (z0v r)) r 0 t.outs) st.1 st.2 xs) (λst k=>SpJ l st k) (l,[]) t.ins ?_ ?_ ?_ ?_ ?_;rfl;exact⟨z80 ok.sorted,zY0k _,ok.good,rfl,λc hc=>by cases hc⟩;omega)
   ·rintro⟨r,s⟩ k x xs hx hd hk hI again hag;rw[z7q];simp only;have hrl:=hI.len;simp only at hrl;have hkx:=hkey x (zY06 hx);have hp:=z8s r x.p;rcases z64 r x.p with⟨h1,h2⟩|⟨j,hj,h1,h2⟩
    ·rw[h1]at hp⊢;have hn0:(-1:Int)<0:=zX0;rw[zP hn0];repeat'(first|refine dq1 ?_|refine dqc ?_|refine dqm ?_|refine dqk rfl (hp) ?_|exact z5 rfl rfl|refine dqT ?_|fail)
    ·rw[h1]at hp⊢;have hc:r[j]?=some r[j]:=zY03 hj;have hca:z2a r (j:Int)=r[j]:=by unfold z2a;rw[zY1d,hc];rfl
     have e1:((j:Int)).toNat=j:=zX0;have e2:((j:Int)+1).toNat=j+1:=zX0;rw[hca,e1,e2];generalize r[j]=c at *;have hn0:¬(j:Int)<0:=zX0;rw[zN hn0];have hcb:=z49 (hI.good c (zY06 hc));have e0:((r.take ((j:Int)).toNat).drop ((0:Int)).toNat)=r.take j:=by rw[e1];rfl
     have e3:r.take ((r.length:Int)).toNat=r:=by rw[zY1d,zY1l]
     have hxo:=hx;have hx:=hc;have hop:=zv9 c.o.lock x.key ht hcb.2.2.2.2.2.2.2.2 hkx ⟨by omega,by omega⟩;repeat'(first|refine dq1 ?_|refine dqc ?_|refine dqm ?_|refine dqk rfl (hp) ?_|refine dqk rfl (hop) ?_|exact z5 rfl rfl|((first|refine tR ?_ ?_|refine tB ?_ ?_|refine tN ?_ ?_)<;>intro h)|refine dqT ?_|refine dqF ?_|fail)
     all_goals(refine z4 (z1p (r:=[c].map za) rfl rfl zX4) ?_;refine z4 (zjt (l:=s) (l':=[c]) rfl rfl zX12) ?_;refine z4 (zei (l:=r) (m:=0) (n:=(j:Int)) rfl rfl rfl zX0 zX0 zX0) ?_;refine z4 (z7t rfl rfl zX0) ?_;refine z4 (zei (l:=r) (m:=(j:Int)+1) (n:=(r.length:Int)) rfl rfl rfl zX0 zX0 zX0) ?_;rw[e0,e2,e3];refine z4 (z1p (r:=[[.l 6 ((r.take j).map za)],[.l 6 ((r.drop (j+1)).map za)]]) rfl rfl zX4) ?_;refine z4 (z3h rfl (znz _ _ (by simp only[zY0d,zY0w];omega)) rfl) ?_;refine z4 (z7t rfl rfl zX0) ?_;exact z6 rfl rfl (hag (r.take j++r.drop (j+1),s++[c]) (hI.cut hc)))
   ·rintro⟨r,s⟩ hI again;rw[z7q];repeat'(first|refine dq1 ?_|refine dqk rfl (zl3 t s (hI.fee okt)) ?_|exact z5 rfl rfl|refine tR (λh=>?_) λh=>?_|refine dqF ?_|fail)
    (refine zj (λ(r:List Coin) k=>[.l 6 (([]:List Coin).map za),I 0,.l 6 (r.map za),I k]) (λ(r:List Coin) k (os:List Out)=>z6e nm ht (decide ((t.ins.length:Int)=0)) z1v (λr=>z5w s (z0v r)) r k os) (λr k=>z1s r/\r.length<=l.length+k) r t.outs ?_ ?_ ?_ ?_ ?_;rfl;exact⟨hI.dist,hI.len⟩;omega)
    ·rintro r k o os hx hd hk ⟨hs,hrl⟩ again' hag;rw[z6e];have hp:=z8s r ⟨nm,k⟩;rcases z64 r ⟨nm,k⟩with⟨h1,h2⟩|⟨j,hj,h1,h2⟩
     ·rw[h1]at hp⊢;have hn0:¬(-1:Int)>=0:=zX0;rw[zN hn0];have hag:=hag (r++[⟨⟨nm,k⟩,o,ht,decide ((t.ins.length:Int)=0)⟩]) ⟨zig hs h2,by rw[zY04,zY1c];omega⟩;repeat'(first|refine dq1 ?_|refine dqc ?_|refine dqm ?_|refine dqk rfl (hp) ?_|refine dqk rfl (z8i r zX0) ?_|refine z4 (z1p (r:=[(⟨⟨nm,k⟩,o,ht,decide ((t.ins.length:Int)=0)⟩:Coin)].map za) rfl rfl zX4) ?_|exact z6 rfl rfl hag|refine dqT ?_|refine dqF ?_|fail)
     ·rw[h1]at hp⊢;have hn0:(j:Int)>=0:=zX0;rw[zP hn0];repeat'(first|refine dq1 ?_|refine dqc ?_|refine dqm ?_|refine dqk rfl (hp) ?_|exact z5 rfl rfl|refine dqT ?_|fail)
    ·rintro r ⟨hs,hrl⟩ again';rw[z6e];unfold z5w;repeat'(first|refine dq1 ?_|refine dqk rfl (zdc r ⟨by omega,hs⟩) ?_|refine dqk rfl (z3w (z0v r)) ?_|exact z5 rfl rfl|refine tR (λh=>?_) λh=>?_|refine dqF ?_|fail)
end
section
open Go.Lib (itoa)
theorem z0bj(o:List Int)(i n:Nat)(x:Int)(hx:x=(i:Int)):o++zdd i (n+1)++[0]=(o++[x])++zdd (i+1) n++[0]:=by subst hx;rw[zua];simp
theorem z0bk(o:List Int)(i:Nat):o++z88 (i+1)=(o++[(i:Int)+1])++z88 i:=by rw[z88];simp
theorem z08q{E:Env}{as0:List Atom}{d:Dt}{n m:Int}(h:vals E as0=some [d,I n])(e:n=m):vals E as0=some [d,I m]:=e▸h
section
variable {α:Type} {f:α->List Dt} {sp:Nat->zd} {E:Env}
theorem z0eh{sz n:Nat}{a lo:Atom}{l:List α}{m:Int}(ha:a.val E=some (.l sz (l.map f)))(hl:lo.val E=some (I m))(hm:m=(n:Int))(h:n<=l.length):denX sp E (.sub sz a (some lo) none)=some (.l sz ((l.drop n).map f)):=by
 subst hm;have hb:bndI E 0 (some lo)=some (n:Int):=by show asI (lo.val E)=some (n:Int);rw[hl];rfl
 rw[zei (lo:=some lo) (hi:=none) (m:=(n:Int)) (n:=(l.length:Int)) ha hb rfl zX0 zX0 zX0];simp
end
theorem zs8(o:Out)(r:List Out):z12 (o::r)=o.coin+z12 r:=by simp[z12]
attribute [local irreducible] z09 spD z9 zo zf zk z1x z3i z40 zy z1i z16 z0z z12 z03 z1o zdd z88 den denX z0s z0w
abbrev zqm(ts:List (List UInt8))(l:List Coin):Prop:=zk ⟨ts⟩=0/\z9 l=0
noncomputable def z41:zd:=spD (λx:List (List UInt8)×List Coin×Block=>zqm x.1 x.2.1) λx=>z03 ⟨x.1⟩ x.2.1 x.2.2
theorem z7f(ts:List (List UInt8))(l:List Coin)(b:Block)(h:zk ⟨ts⟩=0)(hl:z9 l=0):z41 [.l 1 (ts.map z0a),.l 6 (l.map za),I b.parent,I b.height,I b.work,I b.nonce,.l 3 (b.txs.map eTx)]=some [.l 6 ((z03 ⟨ts⟩ l b).1.map za),.l 1 ((z03 ⟨ts⟩ l b).2.1.map z6q),I (z03 ⟨ts⟩ l b).2.2]:=zi (p:=λx:List (List UInt8)×List Coin×Block=>zqm x.1 x.2.1) (f:=λx:List (List UInt8)×List Coin×Block=>z03 ⟨x.1⟩ x.2.1 x.2.2) (ts,l,b) ⟨h,hl⟩
def zUs(a:Nat)(b:Atom)(c:Nat):T:=.W [] [.inr 1 29 31] (zS (.set 29 31 0 [.v (a+1)]) (zB .add 28 (zI 1) (.again 1 [23,24,25,b,.v a,.v (c+1),.v c])))
def zU1p(a:Nat):T:=.W (zK 53 [27,.v a,.v (a+1),.v (a+2),.v (a+3),3] 3) [] (zQ .neq (.v (a+6)) (zI 0) (.v (a+7)) (.ret [.c (.nil 6),.c (.nil 1),.v (a+6)]) (zQ .gtr 31 (zI 0) (.v (a+8)) (zE 3 6 31 (zC 50 [.v (a+9),.v (a+10),.v (a+11),.v (a+5)] (zB .add 26 (.v (a+12)) (zUs (a+4) (.v (a+13)) (a+14))))) (zUs (a+4) 26 (a+9))))
def zUg(a:Nat):T:=.W (zD 6 31 3) [] (zE 1 9 31 (zU1p a))
def zs9:T:=zS (.idx 6 (zI 0) 2) (zL 33 (.loop [zI 0,zI 0] (zQ .lss 36 34 37 (zE 2 33 36 (zB .add 35 38 (zB .add 36 (zI 1) (.again 2 [40,41])))) (zC 97 [3] (zB .add 38 26 (zQ .gtr 35 39 40 (.ret [.c (.nil 6),.c (.nil 1),zI 9]) (.W [] [.inr 3 6 31] (zUg 41))))))))
def zsa:T:=.ite 19 (zB .add 18 (zI 1) (zUq 20 17 21)) (zS (.mk 1 [[zI 0]]) (zS (.app 1 17 20) (zL 21 (.loop [.c (.nil 6),.c (.nil 1),zI 0,zI 0,1,zI 0,13] (zQ .lss 28 22 30 (zE 1 21 28 (zQ .eql 31 (zI 0) 32 (.W [] [.inr 3 6 (zI 0)] zs9) (.W [] [.inr 3 6 31] (zUg 33)))) (.ret [27,29,zI 0]))))))
def zf2:T:=.W (zK 98 [0,2,3,4,5,6] 4) [] (zQ .neq 10 (zI 0) 11 (.ret [.c (.nil 6),.c (.nil 1),10]) (zL 6 (zS (.mkz 1 [.nil 6] 12) (zS (.mk 1 []) (zS (.sub 3 6 (some (zI 1)) none) (zL 15 (.loop [14,zI 0] (zB .lss 18 16 zsa))))))))
attribute [local irreducible] z9q z5p z77 z8r
theorem zl4:Meets Tryz.prog z41 29 zW0k:=by
 refine zg (sp:=(zx [(50,z77),(53,z9q),(97,z8r),(98,z5p)])) (sigs:=z02) (cut:=[]) (hints:=[⟨8,[.r 15 3 1,.t 45,.z 40]⟩,⟨18,[.t 19,.t 70]⟩,⟨13,[.r 6 84 6,.r 7 99 1,.t 8,.t 14,.t 1,.t 58,.o 39]⟩]) (fn:=Tryz.f29) (t:=zf2) ?_ ?_
 ·exact(zq (L:=[(50,z77),(53,z9q),(97,z8r),(98,z5p)]) ⟨z7 rfl zyr,z7 rfl z050,z7 rfl z013,z7 rfl zmn,trivial⟩)
 ·rintro ds rs hok h;obtain⟨⟨ts,l,b⟩,⟨hk,hl⟩,rfl,rfl⟩:=zh h;clear h;simp only at hk hl;refine⟨⟨100,?_⟩,z11 ⟨rfl,trivial⟩⟩;show den _ _ zf2 [.l 1 (ts.map z0a),.l 6 (l.map za),I b.parent,I b.height,I b.work,I b.nonce,.l 3 (b.txs.map eTx)] []=ret (z03 ⟨ts⟩ l b);have hsame:=z08m (b:=b) hk hl;rw[<- hsame];clear hsame;have a1:=zfr ts b (zd3 hk);have hnm:=zky (ts:=ts) (b:=b);unfold zf2 zs5;generalize z1x ts b=nm at *;obtain⟨tx,n0,ns,e⟩:=nm;simp only at *;by_cases he:e=0
  rotate_left
  ·repeat'(first|refine dq1 ?_|refine dqK rfl (a1) ?_|exact z5 rfl rfl|refine tR (λh=>?_) λh=>?_|fail)
   all_goals(exfalso;omega)
  obtain⟨hb,hnl⟩:=hnm he;have ok:=z1b hb;have hl4:=ok.len;have hl1:=ok.some;have hrg:=ok.range;unfold z31 at hrg;subst he;repeat'(first|refine dq1 ?_|refine dqK rfl (a1) ?_|refine z4 (zy3 rfl zX0) ?_|refine z4 (z1p (r:=(([]:List Int).map zl)) rfl rfl zX4) ?_|refine z4 (z0eh (n:=1) rfl rfl rfl zX0) ?_|exact z5 rfl rfl|refine tR (λh=>?_) λh=>?_|fail)
  have hdl:(b.txs.drop 1).length=b.txs.length-1:=zX4;rw[show zdd 1 (b.txs.length-1)=[]++zdd (0+1) (b.txs.drop 1).length by rw[hdl];rfl]
  (refine zj (λ(o:List Int) k=>[.l 1 (o.map zl),I k]) (λ(o:List Int) k (r:List Tx)=>z4k b ns l (List.replicate b.txs.length ⟨[]⟩) 0 (o++zdd (k+1) r.length++[0])) (λo k=>o.length=k/\∀x∈o,1<=x/\x<=(k:Int)) [] (b.txs.drop 1) ?_ ?_ ?_ ?_ ?_;rfl;exact⟨rfl,λx hx=>by cases hx⟩;omega)
  ·rintro o k x r hx hd hk2 ⟨ho,hoe⟩ again hag;rw[zY08,z0bj o (k+1) r.length ((k:Int)+1) zX0];have hag':=hag (o++[(k:Int)+1]) ⟨by simp;omega,λy hy=>by
    rcases zY13.1 hy with hy|hy
    ·have:=hoe y hy;omega
    ·rw[zY12.1 hy];omega⟩
   clear hag;repeat'(first|refine dq1 ?_|refine dqT ?_|fail)
   exact z6 rfl rfl hag'
  ·rintro o ⟨ho,hoe⟩ again;have hoe2:∀x∈o++[(0:Int)],0<=x/\x<(b.txs.length:Int):=λy hy=>by
    rcases zY13.1 hy with hy|hy
    ·have:=hoe y hy;omega
    ·rw[zY12.1 hy];omega
   rw[zY0p,zu9,zY1b];have hol:(o++[(0:Int)]).length<=5:=by simp;omega
   repeat'(first|refine dq1 ?_|refine dqF ?_|fail)
   generalize o++[(0:Int)]=ord at *;clear hoe ho
   (refine zj (λ(a:List Coin×List Undo×Int) k=>[.l 6 [],.l 1 [],I 0,I a.2.2,.l 6 (a.1.map za),I k,.l 1 (a.2.1.map z6q)]) (λ(a:List Coin×List Undo×Int) k (r:List Int)=>z4k b ns a.1 a.2.1 a.2.2 r) (λa k=>a.2.1.length=b.txs.length/\z9 a.1=0 /\ -(10000000000*(k:Int))<=a.2.2/\a.2.2<=10000000000*(k:Int)) (l,List.replicate b.txs.length ⟨[]⟩,0) ord ?_ ?_ ?_ ?_ ?_;rfl;exact⟨by simp,hl,by simp,by simp⟩;omega)
   ·rintro⟨l,us,fees⟩ k i r hx hd hk2 ⟨hu,hcl,m1,m2⟩ again2 hag;simp only at hu hcl m1 m2 hag⊢;have hi:=hoe2 i (zY06 hx);have hx':b.txs[i.toNat]?=some (b.txs.getD i.toNat zTx):=z1r _ zX0;have hn':ns[i.toNat]?=some (ns.getD i.toNat 0):=z1r 0 zX0;have hu':us[i.toNat]?=some (us.getD i.toNat ⟨[]⟩):=z1r _ zX0;have hct:=ok.each _ (zY06 hx');have a4:=zs7 l (b.txs.getD i.toNat zTx) (ns.getD i.toNat 0) b.height hcl hct;rw[z4k,zdv hcl hct];rw[zdv hcl hct]at a4;have hfee:=ztv (l:=l) (t:=b.txs.getD i.toNat zTx) (nm:=ns.getD i.toNat 0) (h:=b.height);have hrt:=zmq (l:=l) (t:=b.txs.getD i.toNat zTx) (nm:=ns.getD i.toNat 0) (h:=b.height);have hxk:=hx;clear hx;by_cases hi0:i=0
    ·have hx0:b.txs[(0:Int).toNat]?=some (b.txs.getD 0 zTx):=z1r _ hl1;have hct0:=ok.each _ (zY06 hx0);have okt:=z3t hct0;have hol:=okt.outs;generalize b.txs.getD 0 zTx=t0 at *;generalize b.txs.getD i.toNat zTx=t at *;generalize ns.getD i.toNat 0=nm at *;generalize us.getD i.toNat ⟨[]⟩=u0 at *;generalize zy l t nm b.height=q at *;obtain⟨l2,sp,f⟩:=q;simp only at a4 hfee hrt⊢;have hni:¬i>0:=zX0;rw[zN hni];repeat'(first|refine dq1 ?_|refine dqc ?_|refine dqm ?_|refine tA (λh=>?_) λh=>?_|refine dqT ?_|fail)
     all_goals(try exact absurd hi0 zXn)
     rw[<- Int.zero_add (z12 t0.outs)]
     (refine zj (λ(s:Int) k=>[I s,I k]) (λ(s:Int) _ (ro:List Out)=>if s+z12 ro>z0z b.height+fees then([],[],9)else if f≠0 then([],[],f)else z4k b ns l2 (us.set i.toNat ⟨sp⟩) fees r) (λs k=>0<=s/\s<=1000000000*(k:Int)) 0 t0.outs ?_ ?_ ?_ ?_ ?_;rfl;exact⟨by omega,by omega⟩;omega)
     ·rintro s j z ro hz hdz hjz ⟨s1,s2⟩ again3 hag3;have hzc:=okt.good z (zY06 hz);have hag3':=hag3 (s+z.coin) ⟨by omega,by omega⟩;rw[zs8,<- Int.add_assoc];repeat'(first|refine dq1 ?_|refine dqc ?_|refine dqm ?_|refine dqT ?_|fail)
      exact z6 rfl rfl hag3'
     ·rintro s ⟨s1,s2⟩ again3;have e0:z12 []=0:=by with_unfolding_all rfl
      rw[e0,Int.add_zero];have a6:=zqe b.height zX0 zX0;have hrw:=zfj b.height;generalize z0z b.height=rw0 at *;by_cases hbig:s>rw0+fees
      ·rw[zP hbig];repeat'(first|refine dq1 ?_|refine dqk rfl (a6) ?_|exact z5 rfl rfl|refine dqT ?_|refine dqF ?_|fail)
      ·rw[zN hbig];by_cases hf:f=0
       ·have hrt:=hrt hf;have hsl:(us.set i.toNat (⟨sp⟩:Undo)).length=us.length:=zY2q ..;repeat'(first|refine dq1 ?_|refine dqc ?_|refine dqm ?_|refine dqk rfl (a6) ?_|refine dqK rfl (a4) ?_|refine z4 (zh8 (n:=i.toNat) (x:=u0) (y:=⟨sp⟩) rfl rfl rfl rfl zX0 (zY0k _) hu' rfl) ?_|exact z5 rfl rfl|refine tR (λh=>?_) λh=>?_|refine dqF ?_|fail)
        all_goals exact z6 rfl rfl (hag (l2,us.set i.toNat ⟨sp⟩,fees) ⟨by simpa using hu,hrt,by simp only;omega,by simp only;omega⟩)
       ·rw[zP hf];repeat'(first|refine dq1 ?_|refine dqc ?_|refine dqm ?_|refine dqk rfl (a6) ?_|refine dqK rfl (a4) ?_|exact z5 rfl rfl|refine dqT ?_|refine dqF ?_|fail)
    ·generalize b.txs.getD i.toNat zTx=t at *;generalize ns.getD i.toNat 0=nm at *;generalize us.getD i.toNat ⟨[]⟩=u0 at *;generalize zy l t nm b.height=q at *;obtain⟨l2,sp,f⟩:=q;simp only at a4 hfee hrt⊢;have hni:i>0:=zX0;rw[zP hni,zN (λh=>hi0 h.1)];by_cases hf:f=0
     ·obtain⟨hd1,hd2,hd3⟩:=hfee hf;have hrt:=hrt hf;have a5:=zl3 t sp hd1;have hsl:(us.set i.toNat (⟨sp⟩:Undo)).length=us.length:=zY2q ..;generalize z16 t sp=fe at *;repeat'(first|refine dq1 ?_|refine dqc ?_|refine dqm ?_|refine dqK rfl (a4) ?_|refine dqk rfl (a5) ?_|refine z4 (zh8 (n:=i.toNat) (x:=u0) (y:=⟨sp⟩) rfl rfl rfl rfl zX0 (zY0k _) hu' rfl) ?_|exact z5 rfl rfl|refine tR (λh=>?_) λh=>?_|refine dqT ?_|refine dqF ?_|fail)
      all_goals exact z6 rfl rfl (hag (l2,us.set i.toNat ⟨sp⟩,fees+fe) ⟨by simpa using hu,hrt,by simp only;omega,by simp only;omega⟩)
     ·rw[zP hf];repeat'(first|refine dq1 ?_|refine dqc ?_|refine dqm ?_|refine dqK rfl (a4) ?_|exact z5 rfl rfl|refine dqT ?_|refine dqF ?_|fail)
   ·rintro⟨l,us,fees⟩ ⟨hu,hcl,m1,m2⟩ again2;rw[z4k];repeat'(first|refine dq1 ?_|exact z5 rfl rfl|refine dqF ?_|fail)
noncomputable def z5s:zd:=spD (λx:List (List UInt8)×List Coin×Block×List Undo=>zqm x.1 x.2.1) λx=>z1o ⟨x.1⟩ x.2.1 x.2.2.1 x.2.2.2
theorem zj7(ts:List (List UInt8))(l:List Coin)(b:Block)(us:List Undo)(h:zk ⟨ts⟩=0)(hl:z9 l=0):z5s [.l 1 (ts.map z0a),.l 6 (l.map za),I b.parent,I b.height,I b.work,I b.nonce,.l 3 (b.txs.map eTx),.l 1 (us.map z6q)]=some [.l 6 ((z1o ⟨ts⟩ l b us).1.map za),I (z1o ⟨ts⟩ l b us).2]:=zi (p:=λx:List (List UInt8)×List Coin×Block×List Undo=>zqm x.1 x.2.1) (f:=λx:List (List UInt8)×List Coin×Block×List Undo=>z1o ⟨x.1⟩ x.2.1 x.2.2.1 x.2.2.2) (ts,l,b,us) ⟨h,hl⟩
def zlu:T:=.loop [1,11,.c (.nil 6),zI 0,zI 0] (zQ .lss 27 22 28 (zE 1 19 27 (zE 3 6 29 (zE 1 10 29 (zE 1 7 29 (.W (zK 54 [23,30,31,32,33,34] 2) [] (zQ .neq 36 (zI 0) 37 (.ret [.c (.nil 6),36]) (zB .add 27 (zI 1) (.again 1 [35,36,25,26,38])))))))) (.ret [23,zI 0]))
def zlv:T:=zL 7 (zL 6 (zQ .neq 13 14 15 (.ret [.c (.nil 6),zI 4]) (zS (.mk 1 [[zI 0]]) (zL 7 (zB .sub 17 (zI 1) (.loop [16,18] (zQ .gtr 20 (zI 0) 21 (zS (.mk 1 [[20]]) (zS (.app 1 19 22) (zB .sub 20 (zI 1) (.again 0 [23,24])))) (zL 19 zlu))))))))
def zbl:T:=.W (zK 98 [0,2,3,4,5,6] 4) [] (zQ .neq 11 (zI 0) 12 (.ret [.c (.nil 6),11]) zlv)
attribute [local irreducible] z8t
theorem zqn:Meets Tryz.prog z5s 31 zW0z:=by
 refine zg (sp:=(zx [(54,z8t),(98,z5p)])) (sigs:=z02) (cut:=[]) (hints:=[⟨8,[.r 14 3 1,.t 15,.z 35]⟩,⟨12,[.t 1,.t 13,.r 8 84 6,.t 9,.t 49]⟩]) (fn:=Tryz.f31) (t:=zbl) ?_ ?_
 ·exact(zq (L:=[(54,z8t),(98,z5p)]) ⟨z7 rfl z019,z7 rfl zmn,trivial⟩)
 ·rintro ds rs hok h;obtain⟨⟨ts,l,b,us⟩,⟨hk,hl⟩,rfl,rfl⟩:=zh h;clear h;simp only at hk hl;refine⟨⟨100,?_⟩,z11 ⟨rfl,trivial⟩⟩;show den _ _ zbl [.l 1 (ts.map z0a),.l 6 (l.map za),I b.parent,I b.height,I b.work,I b.nonce,.l 3 (b.txs.map eTx),.l 1 (us.map z6q)] []=ret (z1o ⟨ts⟩ l b us);have hsame:=z0bd (b:=b) (us:=us) hk hl;rw[<- hsame];clear hsame;have a1:=zfr ts b (zd3 hk);have hnm:=zky (ts:=ts) (b:=b);unfold zbl zyq;generalize z1x ts b=nm at *;obtain⟨tx,n0,ns,e⟩:=nm;simp only at *;by_cases he:e=0
  rotate_left
  ·repeat'(first|refine dq1 ?_|refine dqK rfl (a1) ?_|exact z5 rfl rfl|refine tR (λh=>?_) λh=>?_|fail)
   all_goals(exfalso;omega)
  obtain⟨hb,hnl⟩:=hnm he;have ok:=z1b hb;have hl4:=ok.len;have hl1:=ok.some;subst he;by_cases hul:us.length=b.txs.length
  rotate_left
  ·repeat'(first|refine dq1 ?_|refine dqK rfl (a1) ?_|exact z5 rfl rfl|refine tR (λh=>?_) λh=>?_|fail)
   all_goals(exfalso;omega)
  repeat'(first|refine dq1 ?_|refine dqK rfl (a1) ?_|exact z5 rfl rfl|refine tR (λh=>?_) λh=>?_|fail)
  rw[show(0:Int)::z88 (b.txs.length-1)=[0]++z88 (b.txs.length-1)from rfl]
  (refine znt (λ(o:List Int) k=>[.l 1 (o.map zl),I k]) (λ(o:List Int) i=>z6p b ns us l (o++z88 i)) (λo i=>o.length+i=b.txs.length/\∀x∈o,0<=x/\x<(b.txs.length:Int)) [0] (b.txs.length-1) ?_ ?_ ?_ ?_ ?_;exact z08q rfl zX0;exact⟨by simp;omega,λx hx=>by rw[zY12.1 hx];omega⟩;omega)
  ·rintro o i hi ⟨ho,hoe⟩ again hag;rw[z0bk];have hag':=hag (o++[(i:Int)+1]) ⟨by simp;omega,λy hy=>by
    rcases zY13.1 hy with hy|hy
    ·exact hoe y hy
    ·rw[zY12.1 hy];omega⟩
   clear hag;rw[show((i:Nat):Int)=(i:Int)+1-1 by omega]at hag';rw[show(i:Int)+1-1+1=(i:Int)+1 by omega]at hag';repeat'(first|refine dq1 ?_|refine dqT ?_|fail)
   exact z6 rfl rfl hag'
  ·rintro o ⟨ho,hoe⟩ again;have e0:o++z88 0=o:=by
    have e1:z88 0=[]:=by with_unfolding_all rfl
    rw[e1,zY1b]
   rw[e0];repeat'(first|refine dq1 ?_|refine dqF ?_|fail)
   (refine zj (λ(l:List Coin) k=>[.l 6 (l.map za),I 0,.l 6 [],I 0,I k]) (λ(l:List Coin) k (r:List Int)=>z6p b ns us l r) (λl k=>z9 l=0) l o ?_ ?_ ?_ ?_ ?_;rfl;exact hl;omega)
   ·rintro l k i r hx hd hk2 hcl again2 hag;have hi:=hoe i (zY06 hx);have hx':b.txs[i.toNat]?=some (b.txs.getD i.toNat zTx):=z1r _ zX0;have hn':ns[i.toNat]?=some (ns.getD i.toNat 0):=z1r 0 zX0;have hu':us[i.toNat]?=some (us.getD i.toNat ⟨[]⟩):=z1r _ zX0;have hct:=ok.each _ (zY06 hx');have okl:=(z0m l).1 hcl;have okt:=z3t hct;have a4:=zqk l (b.txs.getD i.toNat zTx) (ns.getD i.toNat 0) (us.getD i.toNat ⟨[]⟩).spent ⟨z80 okl.sorted,by have:=okl.len;omega,by have:=okt.ins;omega,by have:=okt.outs;omega⟩;rw[z6p,zck hcl hct];rw[zck hcl hct]at a4;have hrt:=zf1 (l:=l) (t:=b.txs.getD i.toNat zTx) (nm:=ns.getD i.toNat 0) (u:=(us.getD i.toNat ⟨[]⟩).spent);generalize b.txs.getD i.toNat zTx=t at *;generalize ns.getD i.toNat 0=nm at *;generalize us.getD i.toNat ⟨[]⟩=u0 at *;generalize z1i l t nm u0.spent=q at *;obtain⟨l2,f⟩:=q;simp only at a4 hrt⊢;by_cases hf:f=0
    ·have hag':=hag l2 (hrt hf);subst hf;rw[zN (λh=>h rfl)];repeat'(first|refine dq1 ?_|refine dqc ?_|refine dqm ?_|refine dqK rfl (a4) ?_|refine dqT ?_|refine dqF ?_|fail)
     exact z6 rfl rfl hag'
    ·rw[zP hf];repeat'(first|refine dq1 ?_|refine dqc ?_|refine dqm ?_|refine dqK rfl (a4) ?_|exact z5 rfl rfl|refine dqT ?_|fail)
   ·rintro l hcl again2;rw[z6p];repeat'(first|refine dq1 ?_|exact z5 rfl rfl|refine dqF ?_|fail)
end
section
open Go.Lib (itoa)
def z34(t:Tree)(m:Int):List Int×Bool:=if m=0 then([],true)else if idx t.names m<0 then([],false)else(z01 t.names t.blocks m,true)
def z6g(t:Tree)(m:Int):Prop:=m=0\/0<=idx t.names m
theorem z9e{t:Tree}{m:Int}(h:z6g t m):z34 t m=(z01 t.names t.blocks m,true):=by
 unfold z34;by_cases h0:m=0
 ·rw[zP h0,h0,z55]
 ·rw[zN h0];rcases h with h|h
  ·exact absurd h h0
  ·rw[zN zX0]
theorem zmu{t:Tree}{m:Int}(h:¬z6g t m):z34 t m=([],false):=by unfold z34;rw[zN (λe=>h (.inl e)),zP (Int.not_le.1 λe=>h (.inr e))]
theorem zik{t:Tree}{m:Int}(ht:zn t=0)(h:z6g t m):z3e t m=(z01 t.names t.blocks m,0):=by unfold z3e;rw[zN (λk=>k ht)];rw[zN (by rcases h with h|h<;>omega)]
theorem z08t{t:Tree}{m:Int}(ht:zn t=0)(h:¬z6g t m):z3e t m=([],5):=by unfold z3e;rw[zN (λk=>k ht),zP ⟨λe=>h (.inl e),Int.not_le.1 λe=>h (.inr e)⟩]
theorem z08u{t:Tree}{m:Int}(ht:zn t≠0):z3e t m=([],zn t):=by unfold z3e;rw[zP ht]
noncomputable def z7r:zd:=spD (λ_:Tree=>True) λt=>zn t
theorem zo8(t:Tree):z7r [.l 1 (t.names.map zl),.l 5 (t.blocks.map z08)]=some [I (zn t)]:=zi (f:=λt:Tree=>zn t) t trivial
def zil(p:Int×Int):List Dt:=[I p.1,I p.2]
def zl5(n v:Int):List (Int×Int)->List (Int×Int)
 | []=>[(n,v)]
 |(k,u)::l=>if n=k then(n,v)::l else(k,u)::zl5 n v l
theorem zub(n v x:Int):∀l:List (Int×Int),z42 (zl5 n v l) x=if x=n then some v else z42 l x
 | []=>rfl
 |(k,u)::l=>by
  rw[zl5];by_cases h:n=k
  ·subst h;rw[zP rfl,z42,z42];by_cases hx:x=n
   ·rw[zP hx,zP hx]
   ·rw[zN hx,zN hx,zN hx]
  ·rw[zN h,z42,z42,zub n v x l];by_cases hx:x=k
   ·rw[zP hx,zP hx,zN λe=>h (e.symm.trans hx)]
   ·rw[zN hx,zN hx]
theorem zsb(n:Int):∀l:List (Int×Int),z78 n (l.map zil)=(z42 l n).map λv=>[I v]
 | []=>rfl
 |(k,u)::l=>by
  show(if n=k then some [I u]else z78 n (l.map zil))=_;rw[z42,zsb n l];by_cases h:n=k
  ·rw[zP h,zP h];rfl
  ·rw[zN h,zN h]
theorem zyv(n v:Int):∀l:List (Int×Int),zaj n [I v] (l.map zil)=(zl5 n v l).map zil
 | []=>rfl
 |(k,u)::l=>by
  show(if n=k then(I n::[I v])::l.map zil else zil (k,u)::zaj n [I v] (l.map zil))=_;rw[zl5,zyv n v l];by_cases h:n=k
  ·rw[zP h,zP h];rfl
  ·rw[zN h,zN h];rfl
theorem za6{sp:Nat->zd}{E:Env}{a ka:Atom}{l:Nat}{rows:List (List Dt)}{n:Int}{b:Bool}(ha:a.val E=some (.l l rows))(hk:ka.val E=some (I n))(h:(z78 n rows).isSome=b):denX sp E (.mhas a ka)=some (.b b):=by simp only[denX,ha,hk,asI];rw[h]
theorem z02g{ns:List Int}{bs:List Block}:∀ {k:Nat},(∀j,j<k->z22 ns bs j (z17 ns j) (z00 bs j)=0)->∀ {p h:Int},z42 (hts ns bs k) p=some h->0<=h/\h<=1000
 |0,_,p,h,e=>by
  rw[hts,z42,z42]at e;by_cases hp:p=0
  ·rw[zP hp]at e;cases e;omega
  ·rw[zN hp]at e;cases e
 |k+1,ok,p,h,e=>by
  rw[hts,z42]at e;by_cases hp:p=z17 ns k
  ·rw[zP hp]at e;cases e;exact zb7 (z9m (ok k zX0)).2.1
  ·rw[zN hp]at e;exact z02g (λj hj=>ok j zX0) e
section
attribute [local irreducible] z09 spD zf z22 z44 hts z42 zl5 den denX z0s z0w
def zsc:T:=.W [.mget [.i .i64 0] 11 13 0,.mhas 11 13] [] (.ite 24 (.ret [zI 6]) (.W [.mget [.i .i64 0] 11 14 0,.mhas 11 14] [] (zS (.not 26) (.ite 27 (.ret [zI 5]) (zB .add 25 (zI 1) (zQ .neq 28 15 29 (.ret [zI 4]) (zS (.mput 1 11 13 [15]) (zUz 10 9 31 30))))))))
def zsd:T:=zS (.mput 1 (.c (.nil 2)) (zI 0) [zI 0]) (zL 0 (.loop [zI 0,zI 0,7] (zQ .lss 10 8 12 (zE 1 0 10 (zE 5 1 10 (zQ .lss 13 (zI 1) 19 (.ret [zI 3]) (zQ .gtr 13 (zI 120) 20 (.ret [zI 3]) (zC 81 [14,15,16,17,18] (zQ .neq 21 (zI 0) 22 (.ret [21]) zsc)))))) (.ret [zI 0]))))
def zf3:T:=zL 0 (zL 1 (zQ .neq 2 3 4 (.ret [zI 4]) (zL 0 (zQ .gtr 5 (zI 24) 6 (.ret [zI 2]) zsd))))
attribute [local irreducible] z4j
theorem zyw:Meets Tryz.prog z7r 6 zW0p:=by
 refine zg (sp:=(zx [(81,z4j)])) (sigs:=z02) (cut:=[]) (hints:=[⟨7,[.t 2,.t 28,.o 23]⟩]) (fn:=Tryz.f6) (t:=zf3) ?_ ?_
 ·exact(zq (L:=[(81,z4j)]) ⟨z7 rfl zml,trivial⟩)
 ·rintro ds rs-h;obtain⟨⟨ns,bs⟩,-,rfl,rfl⟩:=zh h;clear h;refine⟨⟨30,?_⟩,z0b rfl⟩;show den _ _ zf3 [.l 1 (ns.map zl),.l 5 (bs.map z08)] []=ret (zn ⟨ns,bs⟩);unfold zf3 zn;simp only;by_cases h1:ns.length=bs.length
  rotate_left
  ·rw[zP h1];repeat'(first|refine dq1 ?_|exact z5 rfl rfl|refine dqT ?_|fail)
  rw[zN (λx=>x h1)];by_cases h2:24<ns.length
  ·rw[zP h2];repeat'(first|refine dq1 ?_|exact z5 rfl rfl|refine dqT ?_|refine dqF ?_|fail)
  rw[zN h2];repeat'(first|refine dq1 ?_|refine z4 (z48 (vs:=1) (rows:=([]:List (Int×Int)).map zil) rfl rfl rfl ⟨rfl,rfl⟩ (zyv 0 0 [])) ?_|refine dqF ?_|fail)
  have e0:zl5 0 0 []=[(0,0)]:=by with_unfolding_all rfl
  rw[e0]
  (refine zj (λ(m:List (Int×Int)) k=>[I 0,I k,.l 2 (m.map zil)]) (λ(m:List (Int×Int)) k (r:List Int)=>z44 ns bs k r.length) (λm k=>(∀x,z42 m x=z42 (hts ns bs k) x)/\∀j,j<k->z22 ns bs j (z17 ns j) (z00 bs j)=0) [(0,0)] ns ?_ ?_ ?_ ?_ ?_;rfl;exact⟨λx=>by with_unfolding_all rfl,λj hj=>absurd hj zX0⟩;omega)
  ·rintro m k x r hx hd hk ⟨hm,hok⟩ again hag;have hkb:k<bs.length:=zX0;have hxb:bs[((k:Nat):Int).toNat]?=some (z00 bs (k:Int)):=by rw[zY1d];simp[z00,hkb]
   have hn:z17 ns k=x:=by unfold z17;rw[hx];rfl
   have e1:z44 ns bs k (x::r).length=if z22 ns bs k x (z00 bs k)≠0 then z22 ns bs k x (z00 bs k)else z44 ns bs (k+1) r.length:=by
    rw[zY08,<- hn]
    with_unfolding_all rfl
   rw[e1];have m1:=zsb x m;have m2:=zsb (z00 bs (k:Int)).parent m;rw[hm]at m1 m2;have hth:=λh=>z052 (n:=x) hok zX0 h;have hsl:=z01f hok zX0 (z00 bs (k:Int));have hbd:=λp h=>z02g (p:=p) (h:=h) hok;have b1:=zfp (z00 bs (k:Int));have hS:z22 ns bs k x (z00 bs (k:Int))=if x<1\/120<x then 3 else if zf (z00 bs (k:Int))≠0 then zf (z00 bs (k:Int))else if z15 (ns.take k) x=true then 6 else z23 ns bs (z00 bs (k:Int)) k:=by with_unfolding_all rfl
   have hgo:=λ(hz:z22 ns bs k x (z00 bs (k:Int))=0)=>hag (zl5 x (z00 bs (k:Int)).height m) ⟨λy=>by
    have eh:hts ns bs (k+1)=(z17 ns k,(z00 bs (k:Int)).height)::hts ns bs k:=by with_unfolding_all rfl
    have el:∀(p:Int×Int) (l:List (Int×Int)),z42 (p::l) y=if y=p.1 then some p.2 else z42 l y:=λp l=>by with_unfolding_all rfl
    rw[zub,eh,el,hm,hn],λj hj=>by
    by_cases hjk:j<k
    ·exact hok j hjk
    ·obtain rfl:j=k:=zX0;rw[hn];exact hz⟩
   clear hag e1;generalize z22 ns bs k x (z00 bs (k:Int))=S at *;generalize z00 bs (k:Int)=B at *;generalize z44 ns bs (k+1) r.length=G at *;by_cases c1:x<1
   ·rw[zP (.inl c1)]at hS;subst hS;rw[zP (show(3:Int)≠0 by decide)];repeat'(first|refine dq1 ?_|refine dqc ?_|refine dqm ?_|exact z5 rfl rfl|refine dqT ?_|fail)
   by_cases c2:120<x
   ·rw[zP (.inr c2)]at hS;subst hS;rw[zP (show(3:Int)≠0 by decide)];repeat'(first|refine dq1 ?_|refine dqc ?_|refine dqm ?_|exact z5 rfl rfl|refine dqT ?_|refine dqF ?_|fail)
   rw[zN zX0]at hS;by_cases c3:zf B=0
   rotate_left
   ·rw[zP c3]at hS;subst hS;rw[zP c3];generalize zf B=e at *;repeat'(first|refine dq1 ?_|refine dqc ?_|refine dqm ?_|refine dqk rfl (b1) ?_|exact z5 rfl rfl|refine dqT ?_|refine dqF ?_|fail)
   rw[zN (λz=>z c3)]at hS;rw[c3]at b1;have hth:=hth zX0;cases hlx:z42 (hts ns bs k) x with
   |some v =>rw[hlx]at m1 hth;rw[<- hth]at hS;simp only[Option.isSome_some,if_true]at hS;subst hS;rw[zP (show(6:Int)≠0 by decide)];simp only[zY1i]at m1;repeat'(first|refine dq1 ?_|refine dqc ?_|refine dqm ?_|refine dqk rfl (b1) ?_|refine z3g (z0d (zw (d:=I v) rfl rfl zX1d) (z0d (za6 (b:=true) rfl rfl zX1d) z3y)) ?_ rfl|exact z5 rfl rfl|refine dqT ?_|refine dqF ?_|refine z0h rfl ?_|fail)
   |none =>
    rw[hlx]at m1 hth;rw[<- hth]at hS;simp only[Option.isSome_none,zY0x,if_false]at hS;rw[hsl]at hS;simp only[zY3v]at m1;cases hlp:z42 (hts ns bs k) B.parent with
    |none =>rw[hlp]at m2 hS;simp only[zY3v]at m2 hS;subst hS;rw[zP (show(5:Int)≠0 by decide)];repeat'(first|refine dq1 ?_|refine dqc ?_|refine dqm ?_|refine dqk rfl (b1) ?_|refine z3g (z0d (zw (d:=I 0) rfl rfl zX1d) (z0d (za6 (b:=false) rfl rfl zX1d) z3y)) ?_ rfl|refine z3g (z0d (zw (d:=I 0) rfl rfl zX1m) (z0d (za6 (b:=false) rfl rfl zX1m) z3y)) ?_ rfl|exact z5 rfl rfl|refine dqT ?_|refine dqF ?_|refine z0h rfl ?_|refine z0e rfl ?_|fail)
    |some h =>
     obtain⟨q1,q2⟩:=hbd _ _ hlp;rw[hlp]at m2 hS;simp only[zY1i]at m2 hS;by_cases c5:h+1=B.height
     ·rw[zN (λz=>z c5)]at hS;have hgo2:=hgo hS;clear hgo;subst hS;rw[zN (show ¬(0:Int)≠0 by decide)];repeat'(first|refine dq1 ?_|refine dqc ?_|refine dqm ?_|refine dqk rfl (b1) ?_|refine z3g (z0d (zw (d:=I 0) rfl rfl zX1d) (z0d (za6 (b:=false) rfl rfl zX1d) z3y)) ?_ rfl|refine z3g (z0d (zw (d:=I h) rfl rfl zX1m) (z0d (za6 (b:=true) rfl rfl zX1m) z3y)) ?_ rfl|refine z4 (z48 (vs:=1) rfl rfl rfl ⟨rfl,rfl⟩ (zyv x B.height m)) ?_|exact z6 rfl rfl hgo2|refine dqT ?_|refine dqF ?_|refine z0e rfl ?_|fail)
     ·rw[zP c5]at hS;subst hS;rw[zP (show(4:Int)≠0 by decide)];repeat'(first|refine dq1 ?_|refine dqc ?_|refine dqm ?_|refine dqk rfl (b1) ?_|refine z3g (z0d (zw (d:=I 0) rfl rfl zX1d) (z0d (za6 (b:=false) rfl rfl zX1d) z3y)) ?_ rfl|refine z3g (z0d (zw (d:=I h) rfl rfl zX1m) (z0d (za6 (b:=true) rfl rfl zX1m) z3y)) ?_ rfl|exact z5 rfl rfl|refine dqT ?_|refine dqF ?_|refine z0e rfl ?_|fail)
  ·rintro m-again;have e1:z44 ns bs ns.length ([]:List Int).length=0:=by with_unfolding_all rfl
   rw[e1];repeat'(first|refine dq1 ?_|exact z5 rfl rfl|refine dqF ?_|fail)
end
attribute [local irreducible] z09 spD z01 idx z03 z1o zk z9 zn z0i den denX z0s z0w
abbrev z0c6(n:Nat)(x:Tree×Int):Prop:=zn x.1=0/\z4g x.1.names x.2+1<=n
noncomputable def zl6(n:Nat):zd:=spD (z0c6 n) λx:Tree×Int=>z34 x.1 x.2
theorem zl7(n:Nat)(ns:List Int)(bs:List Block)(m:Int)(h:zn ⟨ns,bs⟩=0)(hr:z4g ns m+1<=n):zl6 n [.l 1 (ns.map zl),.l 5 (bs.map z08),I m]=some [.l 1 ((z34 ⟨ns,bs⟩ m).1.map zl),.b (z34 ⟨ns,bs⟩ m).2]:=zi (p:=z0c6 n) (f:=λx:Tree×Int=>z34 x.1 x.2) (⟨ns,bs⟩,m) ⟨h,hr⟩
def zl8:T:=zQ .eql 2 (zI 0) 3 (.ret [.c (.nil 1),.c (.b true)]) (zC 67 [0,2] (zQ .lss 4 (zI 0) 5 (.ret [.c (.nil 1),.c (.b false)]) (.W [] [.inr 5 1 4] (zS (.idx 1 4 0) (.W (zK 102 [0,1,6] 2) [] (zS (.mk 1 [[2]]) (zS (.app 1 7 9) (.ret [10,8]))))))))
attribute [local irreducible] z1k
theorem zyx(n:Nat){sp_q:zd}(m_q:Meets Tryz.prog sp_q 7 zW0b)(hq:∀(ns:List Int) (bs:List Block) (m:Int),zn ⟨ns,bs⟩=0->z4g ns m+1<=n->sp_q [.l 1 (ns.map zl),.l 5 (bs.map z08),I m]=some [.l 1 ((z34 ⟨ns,bs⟩ m).1.map zl),.b (z34 ⟨ns,bs⟩ m).2]):Meets Tryz.prog ((zl6 (n+1))) 7 zW0b:=by
 refine zg (sp:=(zx [(67,z1k),(102,sp_q)])) (sigs:=z02) (cut:=[]) (hints:=[]) (fn:=Tryz.f7) (t:=zl8) ?_ ?_
 ·exact(zq (L:=[(67,z1k),(102,sp_q)]) ⟨z7 rfl z8m,z7 rfl m_q,trivial⟩)
 ·rintro ds rs-h;obtain⟨⟨⟨ns,bs⟩,m⟩,⟨ht,hr⟩,rfl,rfl⟩:=zh h;clear h;simp only at ht hr;refine⟨⟨1,?_⟩,z11 ⟨rfl,trivial⟩⟩;show den _ _ zl8 [.l 1 (ns.map zl),.l 5 (bs.map z08),I m] []=ret (z34 ⟨ns,bs⟩ m);have ok:=(z2j ns bs).1 ht;have a1:=z3b ns m;unfold zl8 z34;simp only;by_cases h0:m=0
  ·subst h0;rw[zP rfl];repeat'(first|refine dq1 ?_|exact z5 rfl rfl|refine z0h rfl ?_|fail)
  rw[zN h0];by_cases h1:idx ns m<0
  ·rw[zP h1];repeat'(first|refine dq1 ?_|refine dqk rfl (a1) ?_|exact z5 rfl rfl|refine dqT ?_|refine dqF ?_|fail)
  rw[zN h1];obtain⟨s1,s2,s3⟩:=z56 ok (m:=m) zX0;have hx:bs[(idx ns m).toNat]?=some (z00 bs (idx ns m)):=by obtain⟨j,hj,hjs⟩:=zer (by omega:0<=idx ns m);have hjl:=(zY02.1 hjs).1;have hlen:=ok.len;have hjb:j<bs.length:=zX0;rw[hj];simp[z00,hjb]
  have hbl:0<=idx ns m/\idx ns m<(bs.length:Int):=by have:=(zY02.1 hx).1;omega
  have a2:=hq ns bs (z0x ns bs m) ht zX0;have hle:=ok.le;have hpl:=zcu ok s2;rw[z9e (t:=⟨ns,bs⟩) s2]at a2;simp only at a2;unfold z0x at *;generalize z00 bs (idx ns m)=b at *;rw[s1];generalize z01 ns bs b.parent=pl at *;repeat'(first|refine dq1 ?_|refine dqc ?_|refine dqk rfl (a1) ?_|refine dqK rfl (a2) ?_|exact z5 rfl rfl|refine dqF ?_|fail)
theorem zyy:∀n:Nat,Meets Tryz.prog (zl6 (n+1)) 7 zW0b
 |0=>zyx 0 (z14 _ _) λ_ _ _ _ h=>absurd h zX0
 |n+1=>zyx (n+1) (zyy n) λns bs m h hr=>zl7 (n+1) ns bs m h hr
noncomputable def z3u:zd:=spD (λx:Tree×Int=>zn x.1=0) λx=>z34 x.1 x.2
theorem z7s(ns:List Int)(bs:List Block)(m:Int)(h:zn ⟨ns,bs⟩=0):z3u [.l 1 (ns.map zl),.l 5 (bs.map z08),I m]=some [.l 1 ((z34 ⟨ns,bs⟩ m).1.map zl),.b (z34 ⟨ns,bs⟩ m).2]:=zi (p:=λx:Tree×Int=>zn x.1=0) (f:=λx:Tree×Int=>z34 x.1 x.2) (⟨ns,bs⟩,m) h
theorem zl9:Meets Tryz.prog z3u 7 zW0b:=by refine .mk rfl ?_;intro W F ds args rs hF hargs hsp;obtain⟨⟨⟨ns,bs⟩,m⟩,ht,rfl,rfl⟩:=zh hsp;exact(zyy (z4g ns m)).1 rfl W F _ args _ hF hargs (zl7 _ ns bs m ht (zY0k _))
theorem zla{k:Book}{l:List Coin}{b:Block}(h:(z03 k l b).2.2=0):z9 (z03 k l b).1=0:=by
 have h':z03 k l b=((z03 k l b).1,(z03 k l b).2.1,0):=by rw[<- h]
 exact(z0m _).2 (z07z h').2.2.1
theorem zhb:z9 []=0:=by with_unfolding_all rfl
abbrev zyz(ts:List (List UInt8))(t:Tree)(n:Int):Prop:=zk ⟨ts⟩=0/\zn t=0/\z6g t n
noncomputable def z9r:zd:=spD (λx:List (List UInt8)×Tree×Int=>zyz x.1 x.2.1 x.2.2) λx=>z0g ⟨x.1⟩ x.2.1 x.2.2
theorem zse(ts:List (List UInt8))(t:Tree)(n:Int)(h:zyz ts t n):z9r [.l 1 (ts.map z0a),.l 1 (t.names.map zl),.l 5 (t.blocks.map z08),I n]=some [.l 6 ((z0g ⟨ts⟩ t n).1.map za),I (z0g ⟨ts⟩ t n).2]:=zi (p:=λx:List (List UInt8)×Tree×Int=>zyz x.1 x.2.1 x.2.2) (f:=λx:List (List UInt8)×Tree×Int=>z0g ⟨x.1⟩ x.2.1 x.2.2) (ts,t,n) h
def zim:T:=.W (zK 102 [1,2,3] 2) [] (zL 4 (.loop [.c (.nil 6),zI 0,.c (.nil 6),zI 0] (zQ .lss 10 6 11 (zE 1 4 10 (zC 67 [1,12] (zE 5 2 13 (.W (zK 99 [0,9,14,15,16,17,18] 3) [] (zQ .neq 21 (zI 0) 22 (.ret [.c (.nil 6),21]) (zUn 10 7 8 19 23)))))) (.ret [9,zI 0]))))
attribute [local irreducible] z41 z3u
theorem z053:Meets Tryz.prog z9r 28 zW11:=by
 refine zg (sp:=(zx [(67,z1k),(99,z41),(102,z3u)])) (sigs:=z02) (cut:=[]) (hints:=[⟨4,[.t 6,.t 7,.t 8,.t 24]⟩]) (fn:=Tryz.f28) (t:=zim) ?_ ?_
 ·exact(zq (L:=[(67,z1k),(99,z41),(102,z3u)]) ⟨z7 rfl z8m,z7 rfl zl4,z7 rfl zl9,trivial⟩)
 ·rintro ds rs-h;obtain⟨⟨ts,⟨ns,bs⟩,n⟩,⟨hb,ht,hn⟩,rfl,rfl⟩:=zh h;clear h;simp only at hb ht hn;refine⟨⟨100,?_⟩,z11 ⟨rfl,trivial⟩⟩;show den _ _ zim [.l 1 (ts.map z0a),.l 1 (ns.map zl),.l 5 (bs.map z08),I n] []=ret (z0g ⟨ts⟩ ⟨ns,bs⟩ n);have ok:=(z2j ns bs).1 ht;have a1:=z7s ns bs n ht;rw[z9e hn]at a1;have hpl:=zcu ok hn;have hin:=zi1 ok hn;have e:z0g ⟨ts⟩ ⟨ns,bs⟩ n=z1l ⟨ts⟩ ⟨ns,bs⟩ [] (z01 ns bs n):=by unfold z0g z0o;rw[zN (show ¬zk ⟨ts⟩≠0 from λk=>k hb),zik ht hn];exact zN (λk=>k rfl)
  rw[e];simp only at a1;unfold zim;generalize z01 ns bs n=pl at *;repeat'(first|refine dq1 ?_|refine dqK rfl (a1) ?_|fail)
  (refine zj (λ(l:List Coin) k=>[.l 6 [],I 0,.l 6 (l.map za),I k]) (λ(l:List Coin) _ (r:List Int)=>z1l ⟨ts⟩ ⟨ns,bs⟩ l r) (λl k=>z9 l=0) [] pl ?_ ?_ ?_ ?_ ?_;rfl;exact zhb;omega)
  ·rintro l i x r hx hd hk hl again hag;have hxi:=hin x (zY06 hx);obtain⟨-,-,e2⟩:=zj1 (t:=⟨ns,bs⟩) ok hxi;have a2:=z3b ns x;have hxb:bs[(idx ns x).toNat]?=some (z00 bs (idx ns x)):=by obtain⟨j,hj,hjs⟩:=zer hxi;have hjl:=(zY02.1 hjs).1;have hlen:=ok.len;have hjb:j<bs.length:=zX0;rw[hj];simp[z00,hjb]
   have hbl:0<=idx ns x/\idx ns x<(bs.length:Int):=by have:=(zY02.1 hxb).1;omega
   rw[z1l,e2];simp only;generalize z00 bs (idx ns x)=b at *;have a3:=z7f ts l b hb hl;have hcr:=zla (k:=⟨ts⟩) (l:=l) (b:=b);generalize z03 ⟨ts⟩ l b=q at *;obtain⟨q1,q2,q3⟩:=q;simp only at a3 hcr⊢;by_cases hq:q3=0
   ·have hag:=hag q1 (hcr hq);repeat'(first|refine dq1 ?_|refine dqc ?_|refine dqm ?_|refine dqk rfl (a2) ?_|refine dqK rfl (a3) ?_|exact z6 rfl rfl hag|exact z5 rfl rfl|refine tR (λh=>?_) λh=>?_|refine dqT ?_|fail)
   ·rw[zP hq];repeat'(first|refine dq1 ?_|refine dqc ?_|refine dqm ?_|refine dqk rfl (a2) ?_|refine dqK rfl (a3) ?_|exact z5 rfl rfl|refine dqT ?_|fail)
  ·rintro l hl again;rw[z1l];repeat'(first|refine dq1 ?_|exact z5 rfl rfl|refine dqF ?_|fail)
end
section
open Go.Lib (itoa)
theorem zz0:∀(x y:List Int) (n:Nat),x.take n=y.take n->n<=x.length->n<=z0i x y
 |_,_,0,_,_=>Nat.zero_le _
 | [],_,n+1,_,h=>by simp at h
 |a::x,[],n+1,h,_=>by simp at h
 |a::x,b::y,n+1,h,hl=>by rw[zY35,zY35,zY22]at h;rw[z0i,zP h.1];have:=zz0 x y n h.2 zXf;omega
theorem z02h{ns:List Int}{bs:List Block}(ok:TreeOK ns bs){a b:Int}(ha:a=0\/0<=idx ns a)(hb:b=0\/0<=idx ns b){i:Nat}{v:Int}(h:(z01 ns bs a)[i]?=some v):z15 (z01 ns bs b) v=decide (i<z0i (z01 ns bs a) (z01 ns bs b))/\z15 (z01 ns bs b) v=decide (i<z0i (z01 ns bs b) (z01 ns bs a)):=by
 have hi:=(zY02.1 h).1;by_cases hm:v∈z01 ns bs b
 ·obtain⟨j,hj,e⟩:=zY23 hm;have hj':(z01 ns bs b)[j]?=some v:=by rw[zY03 hj,e]
  have t1:=(zi0 ok _ (zY0k _) ha h).1;have t2:=(zi0 ok _ (zY0k _) hb hj').1;have ht:(z01 ns bs a).take (i+1)=(z01 ns bs b).take (j+1):=by rw[t1,t2]
  have hl:=congrArg List.length ht;rw[zY0d,zY0d]at hl;have hij:i=j:=zX0;subst hij;have g1:=zz0 _ _ _ ht zX0;have g2:=zz0 _ _ _ ht.symm zX0;have e:z15 (z01 ns bs b) v=true:=decide_eq_true hm;rw[e,decide_eq_true (show i<z0i (z01 ns bs a) (z01 ns bs b)by omega),decide_eq_true (show i<z0i (z01 ns bs b) (z01 ns bs a)by omega)];exact⟨rfl,rfl⟩
 ·have e:z15 (z01 ns bs b) v=false:=decide_eq_false hm;rw[e];refine⟨(decide_eq_false λhlt=>?_).symm,(decide_eq_false λhlt=>?_).symm⟩
  ·obtain⟨w,w1,w2⟩:=zq7 hlt;rw[h]at w1;cases w1;exact hm (zY06 w2)
  ·obtain⟨w,w1,w2⟩:=zq7 hlt;rw[h]at w2;cases w2;exact hm (zY06 w1)
theorem zmv{k:Book}{t:Tree}:∀(r:List Int) (l:List Coin),z9 l=0->(z1l k t l r).2=0->z9 (z1l k t l r).1=0
 | [],l,hl,h=>by rw[z1l];exact hl
 |n::r,l,hl,h=>by
  rw[z1l]at h⊢;by_cases hq:(z03 k l (ze t n)).2.2=0
  ·have hn:¬(z03 k l (ze t n)).2.2≠0:=λk=>k hq;rw[zN hn]at h⊢;exact zmv r _ (zla hq) h
  ·rw[zP hq]at h;exact absurd h hq
theorem zva{k:Book}{t:Tree}{n:Int}(h:(z0g k t n).2=0):z9 (z0g k t n).1=0:=by
 unfold z0g at h⊢;by_cases hq:(z0o k t n).2=0
 ·have hn:¬(z0o k t n).2≠0:=λk=>k hq;rw[zN hn]at h⊢;exact zmv _ _ zhb h
 ·rw[zP hq]at h;exact absurd h hq
def z4q(k:Book)(t:Tree)(x:List Int):List Coin->List Int->List Coin×Int
 |l,[]=>(l,0)
 |l,n::r=>if z15 x n=true then z4q k t x l r else if z9 l≠0 then([],z9 l)else
  if(z03 k l (ze t n)).2.2≠0 then([],(z03 k l (ze t n)).2.2)else z4q k t x (z03 k l (ze t n)).1 r
theorem z0bl{k:Book}{l:List Coin}{b:Block}(h:z9 l≠0):z03 k l b=([],[],z9 l):=by unfold z03;rw[zP h]
theorem z0ej{k:Book}{l:List Coin}{b:Block}{us:List Undo}(h:z9 l≠0):z1o k l b us=([],z9 l):=by unfold z1o;rw[zP h]
theorem z02i{k:Book}{t:Tree}{x:List Int}:∀(r:List Int) (l:List Coin),(∀n∈r,z15 x n=false)->z4q k t x l r=z1l k t l r
 | [],l,_=>by rw[z4q,z1l]
 |n::r,l,h=>by
  have hn:¬z15 x n=true:=by rw[h n (zY0i ..)];decide
  rw[z4q,z1l,zN hn];by_cases hc:z9 l=0
  ·have hc':¬z9 l≠0:=λk=>k hc;rw[zN hc'];by_cases hq:(z03 k l (ze t n)).2.2=0
   ·have hn:¬(z03 k l (ze t n)).2.2≠0:=λk=>k hq;rw[zN hn,zN hn,z02i r _ λm hm=>h m (zY0h _ hm)]
   ·rw[zP hq,zP hq]
  ·rw[zP hc,z0bl hc,zP hc]
theorem z02j{k:Book}{t:Tree}{x:List Int}:∀(p r:List Int) (l:List Coin),(∀n∈p,z15 x n=true)->z4q k t x l (p++r)=z4q k t x l r
 | [],r,l,_=>rfl
 |n::p,r,l,h=>by rw[zY1g,z4q,zP (h n (zY0i ..)),z02j p r l λm hm=>h m (zY0h _ hm)]
def zcl(k:Book)(t:Tree)(x y:List Int)(F:List Coin->List Coin×Int):List Coin->Nat->List Coin×Int
 |l,0=>F l
 |l,i+1=>if z15 y (x.getD i 0)=true then F l else
  if(z0g k t (ze t (x.getD i 0)).parent).2≠0 then([],(z0g k t (ze t (x.getD i 0)).parent).2)else
  if(z03 k (z0g k t (ze t (x.getD i 0)).parent).1 (ze t (x.getD i 0))).2.2≠0 then([],(z03 k (z0g k t (ze t (x.getD i 0)).parent).1 (ze t (x.getD i 0))).2.2)else
  if z9 l≠0 then([],z9 l)else
  if(z1o k l (ze t (x.getD i 0)) (z03 k (z0g k t (ze t (x.getD i 0)).parent).1 (ze t (x.getD i 0))).2.1).2≠0 then([],(z1o k l (ze t (x.getD i 0)) (z03 k (z0g k t (ze t (x.getD i 0)).parent).1 (ze t (x.getD i 0))).2.1).2)else
  zcl k t x y F (z1o k l (ze t (x.getD i 0)) (z03 k (z0g k t (ze t (x.getD i 0)).parent).1 (ze t (x.getD i 0))).2.1).1 i
theorem zz1{k:Book}{t:Tree}{x y:List Int}{F:List Coin->List Coin×Int}{c:Nat}(hc:∀i,i<x.length->z15 y (x.getD i 0)=decide (i<c)):∀(m:Nat) (l:List Coin),c+m<=x.length->zcl k t x y F l (c+m)=z33 k t F l ((x.take (c+m)).drop c).reverse
 |0,l,h=>by
  have e:((x.take (c+0)).drop c).reverse=[]:=by rw[zY28,zY1m zXv];rfl
  rw[e,z33];cases c with
  |zero=>rw[zcl]
  |succ c =>rw[zY28,zcl,zP];rw[hc c zX0];exact decide_eq_true zX0
 |m+1,l,h=>by
  have hn:¬z15 y (x.getD (c+m) 0)=true:=by rw[hc (c+m) zX0,decide_eq_false zX0];decide
  have e:((x.take (c+(m+1))).drop c).reverse=x.getD (c+m) 0::((x.take (c+m)).drop c).reverse:=by
   have e1:x.take (c+m+1)=x.take (c+m)++[x.getD (c+m) 0]:=by rw[zY37 zX0];congr 1;rw[zY0r,zY03 zX0];rfl
   rw[show c+(m+1)=c+m+1 by omega,e1,List.drop_append_of_le_length zXv,List.reverse_append];rfl
  rw[e,z33,show c+(m+1)=(c+m)+1 by omega,zcl,zN hn];generalize x.getD (c+m) 0=n;unfold z1e;by_cases h1:(z0g k t (ze t n).parent).2=0
  ·have h1':¬(z0g k t (ze t n).parent).2≠0:=λk=>k h1;rw[zN h1',zN h1'];by_cases h2:(z03 k (z0g k t (ze t n).parent).1 (ze t n)).2.2=0
   ·have h2':¬(z03 k (z0g k t (ze t n).parent).1 (ze t n)).2.2≠0:=λk=>k h2;rw[zN h2',zN h2'];by_cases h3:z9 l=0
    ·have h3':¬z9 l≠0:=λk=>k h3;rw[zN h3'];by_cases h4:(z1o k l (ze t n) (z03 k (z0g k t (ze t n).parent).1 (ze t n)).2.1).2=0
     ·have h4':¬(z1o k l (ze t n) (z03 k (z0g k t (ze t n).parent).1 (ze t n)).2.1).2≠0:=λk=>k h4;rw[zN h4',zN h4',zz1 hc m _ zX0]
     ·rw[zP h4,zP h4]
    ·rw[zP h3,z0ej h3,zP h3]
   ·rw[zP h2,zP h2]
  ·rw[zP h1,zP h1];exact(zP h1).symm
def z9f(k:Book)(t:Tree)(l:List Coin)(a b:Int):List Coin×Int :=
 zcl k t (z01 t.names t.blocks a) (z01 t.names t.blocks b) (λl=>z4q k t (z01 t.names t.blocks a) l (z01 t.names t.blocks b)) l (z01 t.names t.blocks a).length
theorem zuc{k:Book}{t:Tree}{l:List Coin}{a b:Int}(hk:zk k=0)(ht:zn t=0)(ha:z6g t a)(hb:z6g t b):z4y k t l a b=zcv k t l (z01 t.names t.blocks a) (z01 t.names t.blocks b):=by
 have ca:z0o k t a=(z01 t.names t.blocks a,0):=by unfold z0o;rw[zN (show ¬zk k≠0 from λx=>x hk),zik ht ha]
 have cb:z0o k t b=(z01 t.names t.blocks b,0):=by unfold z0o;rw[zN (show ¬zk k≠0 from λx=>x hk),zik ht hb]
 unfold z4y;rw[z7m,ca,zN (λk=>k rfl),z7m,cb,zN (λk=>k rfl),z7m];rfl
theorem z08v{k:Book}{t:Tree}{l:List Coin}{a b:Int}(hk:zk k=0)(ht:zn t=0)(ha:z6g t a)(hb:z6g t b):z9f k t l a b=z4y k t l a b:=by
 have ok:=(z2j t.names t.blocks).1 ht;rw[zuc hk ht ha hb];unfold z9f zcv;have hx:=λ(i:Nat) (v:Int) (h:(z01 t.names t.blocks a)[i]?=some v)=>(z02h ok ha hb h).1;have hy:=λ(i:Nat) (v:Int) (h:(z01 t.names t.blocks b)[i]?=some v)=>(z02h ok hb ha h).2;have ce:=zrz (z01 t.names t.blocks a) (z01 t.names t.blocks b);generalize z01 t.names t.blocks a=x at *;generalize z01 t.names t.blocks b=y at *;generalize z0i x y=c at *;obtain⟨c1,c2,-⟩:=ce;have hF:(λl=>z4q k t x l y)=λl=>z1l k t l (y.drop c):=by
  funext l;have e:y=y.take c++y.drop c:=(zY10 c y).symm;have h1:z4q k t x l y=z4q k t x l (y.take c++y.drop c):=by rw[<- e]
  rw[h1,z02j _ _ _ λn hn=>?_,z02i _ _ λn hn=>?_]
  ·obtain⟨i,hi,rfl⟩:=zY23 hn;rw[zY0w]at hi;rw[List.getElem_drop,hy (c+i) _ (zY03 zX0),decide_eq_false zX0]
  ·obtain⟨i,hi,rfl⟩:=zY23 hn;rw[zY0d]at hi;rw[List.getElem_take,hy i _ (zY03 zX0),decide_eq_true zX0]
 rw[hF];have hl:x.length=c+(x.length-c):=zX0;have hc:∀i,i<x.length->z15 y (x.getD i 0)=decide (i<c):=λi hi=>hx i _ (by rw[zY0r,zY03 hi];rfl)
 rw[hl,zz1 hc _ _ zX0,<- hl,zY1l]
attribute [local irreducible] z09 spD z01 idx z03 z1o zk z9 zn z0i z0g ze z15 z4q zcl den denX z0s z0w
theorem zz2{t:Tree}{n:Int}(ok:TreeOK t.names t.blocks)(hn:0<=idx t.names n):t.blocks[(idx t.names n).toNat]?=some (ze t n)/\0<=idx t.names n/\idx t.names n<(t.blocks.length:Int)/\((ze t n).parent=0\/0<=idx t.names (ze t n).parent):=by
 obtain⟨e1,-,e2⟩:=zj1 ok hn;obtain⟨j,hj,hjs⟩:=zer hn;have hjl:=(zY02.1 hjs).1;have hlen:=ok.len;have hjb:j<t.blocks.length:=zX0;refine⟨?_,hn,by omega,?_⟩
 ·rw[e2,hj];simp[z00,hjb]
 ·rw[e1];exact(z56 ok hn).2.1
abbrev z054(ts:List (List UInt8))(t:Tree)(a b:Int):Prop:=zk ⟨ts⟩=0/\zn t=0/\z6g t a/\z6g t b
noncomputable def zd0:zd:=spD (λx:List (List UInt8)×Tree×List Coin×Int×Int=>z054 x.1 x.2.1 x.2.2.2.1 x.2.2.2.2) λx=>z9f ⟨x.1⟩ x.2.1 x.2.2.1 x.2.2.2.1 x.2.2.2.2
theorem zz3(ts:List (List UInt8))(t:Tree)(l:List Coin)(a b:Int)(h:z054 ts t a b):zd0 [.l 1 (ts.map z0a),.l 1 (t.names.map zl),.l 5 (t.blocks.map z08),.l 6 (l.map za),I a,I b]=some [.l 6 ((z9f ⟨ts⟩ t l a b).1.map za),I (z9f ⟨ts⟩ t l a b).2]:=zi (p:=λx:List (List UInt8)×Tree×List Coin×Int×Int=>z054 x.1 x.2.1 x.2.2.2.1 x.2.2.2.2) (f:=λx:List (List UInt8)×Tree×List Coin×Int×Int=>z9f ⟨x.1⟩ x.2.1 x.2.2.1 x.2.2.2.1 x.2.2.2.2) (ts,t,l,a,b) h
def zU1q(a:Nat):T:=.ite (.v (a+9)) (.ret [.c (.nil 6),.v (a+8)]) (zC 67 [1,.v (a+6)] (zE 5 2 (.v (a+10)) (.W (zK 99 [0,.v (a+3),.v (a+11),.v (a+12),.v (a+13),.v (a+14),.v (a+15)] 3) [] (zQ .neq (.v (a+18)) (zI 0) (.v (a+19)) (.ret [.c (.nil 6),.v (a+18)]) (zUe (a+2) (.v (a+1)) (.v (a+16)) (.v (a+20)))))))
def zUt(a:Nat):T:=zL 8 (.loop [13,14,12,zI 0] (zQ .lss (.v (a+4)) (.v a) (.v (a+5)) (zE 1 8 (.v (a+4)) (zC 85 [6,.v (a+6)] (.ite (.v (a+7)) (zUe (a+2) (.v (a+1)) (.v (a+3)) (.v (a+8))) (zC 25 [.v (a+3)] (zB .neq (.v (a+8)) (zI 0) (zU1q a)))))) (.ret [.v (a+3),zI 0])))
def z055:T:=.W (zK 99 [0,26,21,22,23,24,25] 3) [] (zQ .neq 31 (zI 0) 32 (.ret [.c (.nil 6),31]) (zC 25 [12] (zQ .neq 33 (zI 0) 34 (.ret [.c (.nil 6),33]) (.W (zK 100 [0,12,21,22,23,24,25,30] 2) [] (zQ .neq 36 (zI 0) 37 (.ret [.c (.nil 6),36]) (zB .sub 15 (zI 1) (.again 0 [35,13,14,38])))))))
def z056:T:=zB .sub 10 (zI 1) (.loop [3,.c (.nil 6),zI 0,11] (zQ .geq 15 (zI 0) 16 (zE 1 6 15 (zC 85 [8,17] (.ite 18 (zUt 19) (zE 1 6 15 (zC 67 [1,19] (zE 5 2 20 (.W (zK 103 [0,1,2,21] 2) [] (zQ .neq 27 (zI 0) 28 (.ret [.c (.nil 6),27]) z055)))))))) (zUt 17)))
def zo9:T:=.W (zK 102 [1,2,4] 2) [] (.W (zK 102 [1,2,5] 2) [] (zL 6 z056))
attribute [local irreducible] z1k z5l z29 z9r z41 z5s z3u
theorem z0bm:Meets Tryz.prog zd0 9 zW0q:=by
 refine zg (sp:=(zx [(25,z29),(67,z1k),(85,z5l),(99,z41),(100,z5s),(102,z3u),(103,z9r)])) (sigs:=z02) (cut:=[]) (hints:=[⟨4,[.t 2,.r 10 84 6,.t 11,.t 16]⟩,⟨21,[.r 10 84 6,.t 11,.t 2,.t 105]⟩]) (fn:=Tryz.f9) (t:=zo9) ?_ ?_
 ·exact(zq (L:=[(25,z29),(67,z1k),(85,z5l),(99,z41),(100,z5s),(102,z3u),(103,z9r)]) ⟨z7 rfl zdb,z7 rfl z8m,z7 rfl zlq,z7 rfl zl4,z7 rfl zqn,z7 rfl zl9,z7 rfl z053,trivial⟩)
 ·rintro ds rs-h;obtain⟨⟨ts,⟨ns,bs⟩,l,a,b⟩,⟨hb,ht,ha,hb2⟩,rfl,rfl⟩:=zh h;clear h;simp only at hb ht ha hb2;refine⟨⟨100,?_⟩,z11 ⟨rfl,trivial⟩⟩;show den _ _ zo9 [.l 1 (ts.map z0a),.l 1 (ns.map zl),.l 5 (bs.map z08),.l 6 (l.map za),I a,I b] []=ret (z9f ⟨ts⟩ ⟨ns,bs⟩ l a b);have ok:=(z2j ns bs).1 ht;have a1:=z7s ns bs a ht;have a2:=z7s ns bs b ht;rw[z9e ha]at a1;rw[z9e hb2]at a2;have hxl:=zcu ok ha;have hyl:=zcu ok hb2;have hxi:=zi1 ok ha;have hyi:=zi1 ok hb2;unfold zo9 z9f;simp only at a1 a2⊢;generalize z01 ns bs a=x at *;generalize z01 ns bs b=y at *;repeat'(first|refine dq1 ?_|refine dqK rfl (a1) ?_|refine dqK rfl (a2) ?_|fail)
  (refine znt (λ(l:List Coin) k=>[.l 6 (l.map za),.l 6 [],I 0,I (k-1)]) (λ(l:List Coin) i=>zcl ⟨ts⟩ ⟨ns,bs⟩ x y (λl=>z4q ⟨ts⟩ ⟨ns,bs⟩ x l y) l i) (λ_ _=>True) l x.length ?_ ?_ ?_ ?_ ?_;rfl;exact trivial;omega)
  ·rintro l i hi-again hag;have hxe:x[(i:Int).toNat]?=some (x.getD i 0):=by rw[zY1d];exact z1r 0 hi
   have hvi:=hxi _ (zY06 hxe);obtain⟨g1,g2,g3,g4⟩:=zz2 (t:=⟨ns,bs⟩) ok hvi;have b1:=z7y y (x.getD i 0);have b2:=z3b ns (x.getD i 0);have b3:=zse ts ⟨ns,bs⟩ (ze ⟨ns,bs⟩ (x.getD i 0)).parent ⟨hb,ht,g4⟩;have hcr:=zva (k:=⟨ts⟩) (t:=⟨ns,bs⟩) (n:=(ze ⟨ns,bs⟩ (x.getD i 0)).parent);have b4:=λl hl=>z7f ts l (ze ⟨ns,bs⟩ (x.getD i 0)) hb hl;have b5:=z3w l;have b6:=λus hl=>zj7 ts l (ze ⟨ns,bs⟩ (x.getD i 0)) us hb hl;have eik:(i:Int)+1-1=(i:Int):=zX0;rw[zcl];simp only[eik]at hag g1 g2 g3 b3 b4 b6⊢;generalize x.getD i 0=v at *;by_cases hm:z15 y v=true
   ·rw[zP hm];rw[hm]at b1;clear b3 b4 b5 b6 hcr hag b2;repeat'(first|refine dq1 ?_|refine dqc ?_|refine dqk rfl (b1) ?_|refine dqT ?_|refine z0h rfl ?_|fail)
    (refine zj (λ(l:List Coin) k=>[.l 6 [],I 0,.l 6 (l.map za),I k]) (λ(l:List Coin) _ (r:List Int)=>z4q ⟨ts⟩ ⟨ns,bs⟩ x l r) (λ_ _=>True) l y ?_ ?_ ?_ ?_ ?_;rfl;exact trivial;omega)
    ·rintro l k v r hx hd hk-again' hag;have hvi:=hyi v (zY06 hx);obtain⟨g1,g2,g3,-⟩:=zz2 (t:=⟨ns,bs⟩) ok hvi;have c1:=z7y x v;have c2:=z3b ns v;have c3:=z3w l;have c4:=λhl=>z7f ts l (ze ⟨ns,bs⟩ v) hb hl;rw[z4q];simp only at g1 g2 g3 c4⊢;by_cases hm:z15 x v=true
     ·rw[zP hm];rw[hm]at c1;have hag':=hag l trivial;clear c4 hag;repeat'(first|refine dq1 ?_|refine dqc ?_|refine dqk rfl (c1) ?_|refine dqT ?_|refine z0h rfl ?_|fail)
      exact z6 rfl rfl hag'
     ·rw[zN hm];rw[zY2j]at hm;rw[hm]at c1;generalize ze ⟨ns,bs⟩ v=B at *;by_cases h3:z9 l=0
      rotate_left
      ·rw[zP h3];clear c4;generalize z9 l=e3 at *;repeat'(first|refine dq1 ?_|refine dqc ?_|refine dqk rfl (c1) ?_|refine dqk rfl (c3) ?_|exact z5 rfl rfl|refine dqT ?_|refine z0e rfl ?_|fail)
      rw[zN (show ¬z9 l≠0 from λk=>k h3)];have c4:=c4 h3;rw[h3]at c3;generalize z03 ⟨ts⟩ l B=z at *;obtain⟨zc,us,e2⟩:=z;simp only at c4⊢;by_cases h2:e2=0
      ·rw[zN (show ¬e2≠0 from λk=>k h2)];have hag':=hag zc trivial;clear hag;repeat'(first|refine dq1 ?_|refine dqc ?_|refine dqm ?_|refine dqk rfl (c1) ?_|refine dqk rfl (c2) ?_|refine dqk rfl (c3) ?_|refine dqK rfl (c4) ?_|refine dqT ?_|refine dqF ?_|refine z0e rfl ?_|fail)
       exact z6 rfl rfl hag'
      ·rw[zP h2];repeat'(first|refine dq1 ?_|refine dqc ?_|refine dqm ?_|refine dqk rfl (c1) ?_|refine dqk rfl (c2) ?_|refine dqk rfl (c3) ?_|refine dqK rfl (c4) ?_|exact z5 rfl rfl|refine dqT ?_|refine dqF ?_|refine z0e rfl ?_|fail)
    ·rintro l-again';rw[z4q];repeat'(first|refine dq1 ?_|exact z5 rfl rfl|refine dqF ?_|fail)
   ·rw[zN hm];rw[zY2j]at hm;rw[hm]at b1;generalize ze ⟨ns,bs⟩ v=B at *;generalize z0g ⟨ts⟩ ⟨ns,bs⟩ B.parent=w at *;obtain⟨was,e1⟩:=w;simp only at b3 hcr⊢;by_cases h1:e1=0
    rotate_left
    ·rw[zP h1];clear b4 b6;repeat'(first|refine dq1 ?_|refine dqc ?_|refine dqm ?_|refine dqk rfl (b1) ?_|refine dqk rfl (b2) ?_|refine dqK rfl (b3) ?_|exact z5 rfl rfl|refine dqT ?_|refine z0e rfl ?_|fail)
    rw[zN (show ¬e1≠0 from λk=>k h1)];have b4:=b4 was (hcr h1);generalize z03 ⟨ts⟩ was B=z at *;obtain⟨zc,us,e2⟩:=z;simp only at b4⊢;by_cases h2:e2=0
    rotate_left
    ·rw[zP h2];clear b6;repeat'(first|refine dq1 ?_|refine dqc ?_|refine dqm ?_|refine dqk rfl (b1) ?_|refine dqk rfl (b2) ?_|refine dqK rfl (b3) ?_|refine dqK rfl (b4) ?_|exact z5 rfl rfl|refine dqT ?_|refine dqF ?_|refine z0e rfl ?_|fail)
    rw[zN (show ¬e2≠0 from λk=>k h2)];by_cases h3:z9 l=0
    rotate_left
    ·rw[zP h3];clear b6;generalize z9 l=e3 at *;repeat'(first|refine dq1 ?_|refine dqc ?_|refine dqm ?_|refine dqk rfl (b1) ?_|refine dqk rfl (b2) ?_|refine dqK rfl (b3) ?_|refine dqK rfl (b4) ?_|refine dqk rfl (b5) ?_|exact z5 rfl rfl|refine dqT ?_|refine dqF ?_|refine z0e rfl ?_|fail)
    rw[zN (show ¬z9 l≠0 from λk=>k h3)];have b6:=b6 us h3;rw[h3]at b5;generalize z1o ⟨ts⟩ l B us=q at *;obtain⟨l2,e4⟩:=q;simp only at b6⊢;by_cases h4:e4=0
    rotate_left
    ·rw[zP h4];repeat'(first|refine dq1 ?_|refine dqc ?_|refine dqm ?_|refine dqk rfl (b1) ?_|refine dqk rfl (b2) ?_|refine dqK rfl (b3) ?_|refine dqK rfl (b4) ?_|refine dqk rfl (b5) ?_|refine dqK rfl (b6) ?_|exact z5 rfl rfl|refine dqT ?_|refine dqF ?_|refine z0e rfl ?_|fail)
    rw[zN (show ¬e4≠0 from λk=>k h4)];have hag':=hag l2 trivial;clear hag;repeat'(first|refine dq1 ?_|refine dqc ?_|refine dqm ?_|refine dqk rfl (b1) ?_|refine dqk rfl (b2) ?_|refine dqK rfl (b3) ?_|refine dqK rfl (b4) ?_|refine dqk rfl (b5) ?_|refine dqK rfl (b6) ?_|refine dqT ?_|refine dqF ?_|refine z0e rfl ?_|fail)
    exact z6 rfl rfl hag'
  ·rintro l-again;rw[zcl];repeat'(first|refine dq1 ?_|refine dqF ?_|fail)
   (refine zj (λ(l:List Coin) k=>[.l 6 [],I 0,.l 6 (l.map za),I k]) (λ(l:List Coin) _ (r:List Int)=>z4q ⟨ts⟩ ⟨ns,bs⟩ x l r) (λ_ _=>True) l y ?_ ?_ ?_ ?_ ?_;rfl;exact trivial;omega)
   ·rintro l k v r hx hd hk-again' hag;have hvi:=hyi v (zY06 hx);obtain⟨g1,g2,g3,-⟩:=zz2 (t:=⟨ns,bs⟩) ok hvi;have c1:=z7y x v;have c2:=z3b ns v;have c3:=z3w l;have c4:=λhl=>z7f ts l (ze ⟨ns,bs⟩ v) hb hl;rw[z4q];simp only at g1 g2 g3 c4⊢;by_cases hm:z15 x v=true
    ·rw[zP hm];rw[hm]at c1;have hag':=hag l trivial;clear c4 hag;repeat'(first|refine dq1 ?_|refine dqc ?_|refine dqk rfl (c1) ?_|refine dqT ?_|refine z0h rfl ?_|fail)
     exact z6 rfl rfl hag'
    ·rw[zN hm];rw[zY2j]at hm;rw[hm]at c1;generalize ze ⟨ns,bs⟩ v=B at *;by_cases h3:z9 l=0
     rotate_left
     ·rw[zP h3];clear c4;generalize z9 l=e3 at *;repeat'(first|refine dq1 ?_|refine dqc ?_|refine dqk rfl (c1) ?_|refine dqk rfl (c3) ?_|exact z5 rfl rfl|refine dqT ?_|refine z0e rfl ?_|fail)
     rw[zN (show ¬z9 l≠0 from λk=>k h3)];have c4:=c4 h3;rw[h3]at c3;generalize z03 ⟨ts⟩ l B=z at *;obtain⟨zc,us,e2⟩:=z;simp only at c4⊢;by_cases h2:e2=0
     ·rw[zN (show ¬e2≠0 from λk=>k h2)];have hag':=hag zc trivial;clear hag;repeat'(first|refine dq1 ?_|refine dqc ?_|refine dqm ?_|refine dqk rfl (c1) ?_|refine dqk rfl (c2) ?_|refine dqk rfl (c3) ?_|refine dqK rfl (c4) ?_|refine dqT ?_|refine dqF ?_|refine z0e rfl ?_|fail)
      exact z6 rfl rfl hag'
     ·rw[zP h2];repeat'(first|refine dq1 ?_|refine dqc ?_|refine dqm ?_|refine dqk rfl (c1) ?_|refine dqk rfl (c2) ?_|refine dqk rfl (c3) ?_|refine dqK rfl (c4) ?_|exact z5 rfl rfl|refine dqT ?_|refine dqF ?_|refine z0e rfl ?_|fail)
   ·rintro l-again';rw[z4q];repeat'(first|refine dq1 ?_|exact z5 rfl rfl|refine dqF ?_|fail)
end
section
open Go.Lib (itoa)
def zgd(parent height work n:Int):Block:=⟨parent,height,work,0,[⟨height,[],[⟨n,[]⟩]⟩]⟩
attribute [local irreducible] den denX z0s z0w
noncomputable def zbm:zd:=spD (λ_:Int×Int×Int×Int=>True) λx=>zgd x.1 x.2.1 x.2.2.1 x.2.2.2
theorem zj6(a b c d:Int):zbm [I a,I b,I c,I d]=some [I (zgd a b c d).parent,I (zgd a b c d).height,I (zgd a b c d).work,I (zgd a b c d).nonce,.l 3 ((zgd a b c d).txs.map eTx)]:=zi (f:=λx:Int×Int×Int×Int=>zgd x.1 x.2.1 x.2.2.1 x.2.2.2) (a,b,c,d) trivial
attribute [local irreducible] z09 spD
def zlb:T:=zS (.mk 2 [[3,.c (.nil 2)]]) (zS (.mk 3 [[1,.c (.nil 3),4]]) (.ret [0,1,2,zI 0,5]))
theorem z08w:Meets Tryz.prog zbm 23 zW0o:=by
 refine zg (sp:=(zx [])) (sigs:=z02) (cut:=[]) (hints:=[]) (fn:=Tryz.f23) (t:=zlb) ?_ ?_
 ·exact(zq (L:=[]) trivial)
 ·rintro ds rs-h;obtain⟨⟨a,b,c,d⟩,-,rfl,rfl⟩:=zh h;clear h;refine⟨⟨1,?_⟩,z11 ⟨rfl,rfl,rfl,rfl,trivial⟩⟩;show den _ _ zlb [I a,I b,I c,I d] []=ret (zgd a b c d);unfold zlb;repeat'(first|refine z4 (z1p rfl rfl zX4) ?_|exact z5 rfl rfl|fail)
def ch1:Block:=zgd 0 1 1 5
def ch2:Block:=zgd 2 2 1 7
def chB1:Book:=⟨(z0c ⟨[]⟩ ch1).1⟩
def chB2:Book:=⟨(z0c chB1 ch2).1⟩
theorem ch_n1:(z0c ⟨[]⟩ ch1).2.1=2/\(z0c ⟨[]⟩ ch1).2.2.2=0:=by with_unfolding_all decide +kernel
theorem ch_n2:(z0c chB1 ch2).2.1=4/\(z0c chB1 ch2).2.2.2=0:=by with_unfolding_all decide +kernel
def chT1:Tree:=⟨[2],[ch1]⟩
def zoa:Tree:=⟨[2,4],[ch1,ch2]⟩
theorem ch_t1:z4u ⟨[],[]⟩ 2 ch1=chT1/\z4t ⟨[],[]⟩ 2 ch1=0:=by with_unfolding_all decide +kernel
theorem ch_t2:z4u chT1 4 ch2=zoa/\z4t chT1 4 ch2=0:=by with_unfolding_all decide +kernel
theorem ch_coins:(z0g chB2 zoa 4).1.length=2/\(z0g chB2 zoa 4).2=0:=by with_unfolding_all decide +kernel
theorem z0bn:z97 zoa 2 4=(1,0):=by with_unfolding_all decide +kernel
noncomputable def z9s:zd:=spD (λ_:Unit=>True) λ_=>true
theorem zsf:z9s []=some [.b true]:=zi (f:=λ_:Unit=>true) () trivial
attribute [local irreducible] z18 z0c z03 z0g z97 z4u z4t z3o zba z6a zbg
def zz4:T:=.ite 40 (zQ .eql 33 (zI 0) 41 (zQ .eql 35 (zI 0) 42 (zQ .eql 37 (zI 0) 43 (zL 34 (zQ .eql 44 (zI 2) 45 (zB .eql 36 (zI 1) (.ret [46])) (.ret [.c (.b false)]))) (.ret [.c (.b false)])) (.ret [.c (.b false)])) (.ret [.c (.b false)])) (.ret [.c (.b false)])
def zz5:T:=.W (zK 79 [6,zI 2,zI 1,zI 7] 5) [] (.W (zK 70 [23,24,15,26,27,28,29,30] 3) [] (.W (zK 75 [14,31,32,15] 2) [] (.W (zK 78 [31,32,6,15] 2) [] (zQ .eql 8 (zI 0) 38 (zQ .eql 17 (zI 0) 39 (zB .eql 25 (zI 0) zz4) (.ret [.c (.b false)])) (.ret [.c (.b false)])))))
def zin:T:=.W (zK 79 [zI 0,zI 1,zI 1,zI 5] 5) [] (.W (zK 60 [.c (.nil 1),0,1,2,3,4] 4) [] (.W (zK 79 [6,zI 2,zI 1,zI 7] 5) [] (.W (zK 60 [5,9,10,11,12,13] 4) [] (.W (zK 79 [zI 0,zI 1,zI 1,zI 5] 5) [] (.W (zK 70 [.c (.nil 1),.c (.nil 5),6,18,19,20,21,22] 3) [] zz5)))))
attribute [local irreducible] zbm
theorem z058:Meets Tryz.prog z9s 8 zW1n:=by
 refine zg (sp:=(zx [(60,z3o),(70,zba),(75,z6a),(78,zbg),(79,zbm)])) (sigs:=z02) (cut:=[]) (hints:=[]) (fn:=Tryz.f8) (t:=zin) ?_ ?_
 ·exact(zq (L:=[(60,z3o),(70,zba),(75,z6a),(78,zbg),(79,zbm)]) ⟨z7 rfl zi3,z7 rfl z07i,z7 rfl zu0,z7 rfl z07y,z7 rfl z08w,trivial⟩)
 ·rintro ds rs-h;obtain⟨⟨⟩,-,rfl,rfl⟩:=zh h;clear h;refine⟨⟨1,?_⟩,z0b rfl⟩;show den _ _ zin [] []=ret true;have b1:=zj6 0 1 1 5;have b2:=zj6 2 2 1 7;have a1:=z94 ⟨[]⟩ ch1;rw[show(z0c ⟨[]⟩ ch1).1=chB1.texts from rfl,ch_n1.1,ch_n1.2]at a1;have a2:=z94 chB1 ch2;rw[show(z0c chB1 ch2).1=chB2.texts from rfl,ch_n2.1,ch_n2.2]at a2;have a3:=ziv ⟨[],[]⟩ 2 ch1;rw[ch_t1.1,ch_t1.2]at a3;have a4:=ziv chT1 4 ch2;rw[ch_t2.1,ch_t2.2]at a4;have a5:=ziz chB2 zoa 4;rw[ch_coins.2]at a5;have hl:=ch_coins.1;have a6:=zuz zoa 2 4;rw[z0bn]at a6;generalize(z0g chB2 zoa 4).1=l at *;generalize chB2=k2 at *;generalize chB1=k1 at *;generalize(z0c ⟨[]⟩ ch1).2.2.1=ns1 at *;generalize(z0c k1 ch2).2.2.1=ns2 at *;unfold zin;repeat'(first|refine dq1 ?_|refine dqK rfl (b1) ?_|refine dqK rfl (b2) ?_|refine dqK rfl (a1) ?_|refine dqK rfl (a2) ?_|refine dqK rfl (a3) ?_|refine dqK rfl (a4) ?_|refine dqK rfl (a5) ?_|refine dqK rfl (a6) ?_|exact z5 rfl rfl|refine dqT ?_|refine z0h rfl ?_|fail)
end
section
open Go.Lib (itoa)
theorem zz7:∀x:List Int,z0i x x=x.length
 | []=>rfl
 |a::x=>by rw[z0i,zP rfl,zz7 x];rfl
theorem zue{k:Book}{t:Tree}{l:List Coin}{a:Int}(hk:zk k=0)(ht:zn t=0)(ha:z6g t a):z4y k t l a a=(l,0):=by rw[zuc hk ht ha ha];unfold zcv;rw[zz7,List.drop_length,List.reverse_nil,z33,z1l]
theorem zoc{k:Book}{t:Tree}{l:List Coin}{a b:Int}(h:(z0o k t a).2≠0):z4y k t l a b=([],(z0o k t a).2):=by unfold z4y;rw[z7m,zP h]
theorem z093{k:Book}{t:Tree}{l:List Coin}{a b:Int}(h:(z0o k t a).2=0)(h2:(z0o k t b).2≠0):z4y k t l a b=([],(z0o k t b).2):=by unfold z4y;rw[z7m,zN (λx=>x h),z7m,zP h2]
theorem zz8{k:Book}{t:Tree}{n:Int}(h:zk k≠0):z0o k t n=([],zk k):=by unfold z0o;rw[zP h]
theorem zz9{k:Book}{t:Tree}{n:Int}(hk:zk k=0)(h:zn t≠0):z0o k t n=([],zn t):=by unfold z0o;rw[zN (show ¬zk k≠0 from λx=>x hk),z08u h]
theorem zfu{k:Book}{t:Tree}{n:Int}(hk:zk k=0)(ht:zn t=0)(h:¬z6g t n):z0o k t n=([],5):=by unfold z0o;rw[zN (show ¬zk k≠0 from λx=>x hk),z08t ht h]
theorem z0bu{k:Book}{t:Tree}{n:Int}(hk:zk k=0)(ht:zn t=0)(h:z6g t n):z0o k t n=(z01 t.names t.blocks n,0):=by unfold z0o;rw[zN (show ¬zk k≠0 from λx=>x hk),zik ht h]
attribute [local irreducible] z09 spD z0g z97 z4y z9f zk zn z9 z01 idx z15 z6g z34 den denX z0s z0w
noncomputable def zvb:zd:=spD (λx:Book×Tree×List Coin×Int×Int=>z8n x.2.2.1) λ_=>true
def zU3(a:Nat)(b:Atom):T:=zC 80 [] (.ite (.v a) (zQ .eql 7 b (.v (a+1)) (zL 6 (zB .eql (.v (a+2)) (zI 0) (.ret [.v (a+3)]))) (.ret [.c (.b false)])) (.ret [.c (.b false)]))
def zU1r(a:Nat)(b:Atom):T:=.ite (.v (a+2)) (zU3 (a+3) b) (.W (zK 104 [0,1,2,3,4,5] 2) [] (zQ .eql 4 5 (.v (a+5)) (zQ .eql 7 (zI 0) (.v (a+6)) (zC 26 [6,3] (.ret [.v (a+7)])) (.ret [.c (.b false)])) (zQ .eql 7 (.v (a+4)) (.v (a+6)) (zC 26 [6,.v (a+3)] (.ret [.v (a+7)])) (.ret [.c (.b false)]))))
def zU8(a:Nat)(b:Atom):T:=zC 80 [] (zS (.not (.v a)) (.ite (.v (a+1)) (zU3 (a+2) b) (zB .neq b (zI 0) (zU1r a b))))
def zUv(a:Nat):T:=zC 80 [] (zS (.not (.v a)) (.ite (.v (a+1)) (zU3 (a+2) (zI 5)) (zU3 (a+2) (zI 5))))
def zUj(a:Atom)(b:Nat):T:=zQ .eql a (zI 0) (.v b) (.W (zK 102 [1,2,4] 2) [] (.W (zK 102 [1,2,5] 2) [] (zS (.not (.v (b+2))) (.ite (.v (b+5)) (zUv (b+6)) (zS (.not (.v (b+4))) (.ite (.v (b+6)) (zUv (b+7)) (zU8 (b+7) a))))))) (zU8 (b+1) a)
def zf5:T:=.W (zK 77 [0,1,2,3,4,5] 2) [] (zC 94 [0] (zQ .eql 8 (zI 0) 9 (zC 101 [1,2] (zUj 10 11)) (zUj 8 10)))
attribute [local irreducible] zcw z9s z7o z7r zd0 z3u z7k
theorem zza:Meets Tryz.prog zvb 3 ⟨[.agg 1,.agg 2,.one,.one,.one],[(false,[.scal])],true⟩:=by
 refine zg (sp:=(zx [(26,z7k),(77,zcw),(80,z9s),(94,z7o),(101,z7r),(102,z3u),(104,zd0)])) (sigs:=z02) (cut:=[]) (hints:=[]) (fn:=Tryz.f3) (t:=zf5) ?_ ?_
 ·exact(zq (L:=[(26,z7k),(77,zcw),(80,z9s),(94,z7o),(101,z7r),(102,z3u),(104,zd0)]) ⟨z7 rfl zxh,z7 rfl z0ay,z7 rfl z058,z7 rfl zyb,z7 rfl zyw,z7 rfl zl9,z7 rfl z0bm,trivial⟩)
 ·rintro ds rs-h;obtain⟨⟨k,⟨ns,bs⟩,l,a,b⟩,hl,rfl,rfl⟩:=zh h;clear h;simp only at hl;refine⟨⟨1,?_⟩,z0b rfl⟩;show den _ _ zf5 [.l 1 (k.texts.map z0a),.l 1 (ns.map zl),.l 5 (bs.map z08),.l 6 (l.map za),I a,I b] []=ret true;have a1:=zv0 k ⟨ns,bs⟩ l a b hl;have a2:=zo8 ⟨ns,bs⟩;have a3:=zsf;have a4:=znx k;have z3:([]:List Coin).length=0:=rfl;unfold zf5;by_cases hk:zk k=0
  rotate_left
  ·rw[zoc (by rw[zz8 hk];exact hk),zz8 hk]at a1;generalize zk k=f at *;repeat'(first|refine dq1 ?_|refine dqK rfl (a1) ?_|refine dqk rfl (a3) ?_|refine dqk rfl (a4) ?_|exact z5 rfl rfl|refine dqT ?_|refine dqF ?_|refine z0h rfl ?_|refine z0e rfl ?_|fail)
  rw[hk]at a4;by_cases ht:zn ⟨ns,bs⟩=0
  rotate_left
  ·rw[zoc (by rw[zz9 hk ht];exact ht),zz9 hk ht]at a1;generalize zn ⟨ns,bs⟩=e at *;repeat'(first|refine dq1 ?_|refine dqK rfl (a1) ?_|refine dqk rfl (a2) ?_|refine dqk rfl (a3) ?_|refine dqk rfl (a4) ?_|exact z5 rfl rfl|refine dqT ?_|refine dqF ?_|refine z0h rfl ?_|refine z0e rfl ?_|fail)
  rw[ht]at a2;have a6:=z7s ns bs a ht;have a7:=z7s ns bs b ht;by_cases ha:z6g ⟨ns,bs⟩ a
  rotate_left
  ·rw[zoc (by rw[zfu hk ht ha];show(5:Int)≠0;decide),zfu hk ht ha]at a1;rw[zmu ha]at a6;generalize z34 ⟨ns,bs⟩ b=q at *;obtain⟨qb,qo⟩:=q;cases qo;all_goals repeat'(first|refine dq1 ?_|refine dqK rfl (a1) ?_|refine dqk rfl (a2) ?_|refine dqk rfl (a3) ?_|refine dqk rfl (a4) ?_|refine dqK rfl (a6) ?_|refine dqK rfl (a7) ?_|exact z5 rfl rfl|refine z0h rfl ?_|refine z0e rfl ?_|fail)
  rw[z9e ha]at a6;by_cases hb:z6g ⟨ns,bs⟩ b
  rotate_left
  ·rw[z093 (by rw[z0bu hk ht ha]) (by rw[zfu hk ht hb];show(5:Int)≠0;decide),zfu hk ht hb]at a1;rw[zmu hb]at a7;simp only at a6;generalize z01 ns bs a=q at *;repeat'(first|refine dq1 ?_|refine dqK rfl (a1) ?_|refine dqk rfl (a2) ?_|refine dqk rfl (a3) ?_|refine dqk rfl (a4) ?_|refine dqK rfl (a6) ?_|refine dqK rfl (a7) ?_|exact z5 rfl rfl|refine z0h rfl ?_|refine z0e rfl ?_|fail)
  rw[z9e hb]at a7;have a8:=zz3 k.texts ⟨ns,bs⟩ l a b ⟨hk,ht,ha,hb⟩;rw[z08v hk ht ha hb]at a8;simp only at a6 a7;generalize z01 ns bs a=pa at *;generalize z01 ns bs b=pb at *;by_cases hab:a=b
  ·subst hab;have e1:=zue (k:=k) (t:=⟨ns,bs⟩) (l:=l) hk ht ha;have e2:=zue (k:=⟨k.texts⟩) (t:=⟨ns,bs⟩) (l:=l) hk ht ha;rw[e1]at a1;rw[e2]at a8;have a9:=zeq l l;rw[decide_eq_true rfl]at a9;repeat'(first|refine dq1 ?_|refine dqK rfl (a1) ?_|refine dqk rfl (a2) ?_|refine dqk rfl (a3) ?_|refine dqk rfl (a4) ?_|refine dqK rfl (a6) ?_|refine dqK rfl (a8) ?_|refine dqk rfl (a9) ?_|exact z5 rfl rfl|refine dqF ?_|refine z0h rfl ?_|refine z0e rfl ?_|fail)
  ·have e0:z4y ⟨k.texts⟩ ⟨ns,bs⟩ l a b=z4y k ⟨ns,bs⟩ l a b:=rfl;rw[e0]at a8;generalize z4y k ⟨ns,bs⟩ l a b=w at *;obtain⟨wm,we⟩:=w;simp only at a1 a8;have a9:=zeq wm wm;rw[decide_eq_true rfl]at a9;repeat'(first|refine dq1 ?_|refine dqK rfl (a1) ?_|refine dqk rfl (a2) ?_|refine dqk rfl (a3) ?_|refine dqk rfl (a4) ?_|refine dqK rfl (a6) ?_|refine dqK rfl (a7) ?_|refine dqK rfl (a8) ?_|refine dqk rfl (a9) ?_|exact z5 rfl rfl|refine dqF ?_|refine z0h rfl ?_|refine z0e rfl ?_|fail)
theorem chainMove_walk(k:Book)(c_k:List Value)(t:Tree)(c_t:List Value)(l:List (Coin))(A_l:Option Addr)(n_l c_l:Nat)(from_:Int)(to_:Int)(w:World)(h_k:shBook.rep w (Lt w.heap.size) k c_k)(h_t:shTree.rep w (Lt w.heap.size) t c_t)(h_l:Rds shCoin w (Lt w.heap.size) l A_l n_l c_l)(from__0: -9223372036854775808<=from_)(from__1:from_<=9223372036854775807)(to__0: -9223372036854775808<=to_)(to__1:to_<=9223372036854775807)(z_l:l.length<=2199023255488/\∀c∈l,c.o.lock.length<=8796093021952)(hG:Glob w) :
  Calls Tryz.prog 3 #[.agg c_k.toArray,.agg c_t.toArray,.slice A_l n_l c_l,.int .i64 from_,.int .i64 to_] w λe w'=>e=.returned (.bool true)/\Below w.heap.size w w' :=
 zm2 (F:=Lt w.heap.size) (us:=[.agg c_k.toArray,.agg c_t.toArray,.slice A_l n_l c_l,.int .i64 from_,.int .i64 to_]) rfl (z25 (fn:=Tryz.f3) ) zza ⟨λ_ h=>h,hG⟩ (zi (f:=λ_=>true) (k,t,l,from_,to_) (⟨by have q:=z_l.1;simp only;omega,λc hc=>zY3n (z_l.2 c hc) zX0⟩))
  (zow (d1:=zf8 k) (she_book.to h_k) rfl (zow (d1:=zc9 t) (she_tree.to h_t) rfl (zdk (zr0 she_coin h_l) (zdk (.i _ _ (wrap_i64 ⟨from__0,from__1⟩)) (zdk (.i _ _ (wrap_i64 ⟨to__0,to__1⟩)) zov)))))
end
end Go.Proofs.YtmjelcjgllkapaaGreatDoor
