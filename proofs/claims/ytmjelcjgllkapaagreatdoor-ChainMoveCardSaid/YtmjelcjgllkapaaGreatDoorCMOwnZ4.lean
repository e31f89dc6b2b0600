/- Own texts, put together by wip/bundle.py: VL6. -/
import Derived.Test.YtmjelcjgllkapaaGreatDoorCMOwnB
import Derived.Test.YtmjelcjgllkapaaGreatDoorCMOwnC
import Derived.Test.YtmjelcjgllkapaaGreatDoorCMOwnR
import Derived.Test.YtmjelcjgllkapaaGreatDoorCMOwnS
import Derived.Test.YtmjelcjgllkapaaGreatDoorCMOwnT
import Derived.Test.YtmjelcjgllkapaaGreatDoorCMOwnV2
import Derived.Test.YtmjelcjgllkapaaGreatDoorCMOwnZ3
set_option linter.unusedVariables false
set_option linter.unusedSimpArgs false
set_option maxRecDepth 100000
set_option maxHeartbeats 8000000
namespace Go.Proofs.YtmjelcjgllkapaaGreatDoor
open Go.RowKit
section
attribute [local irreducible] z09 spD z1w zb1 z1n
theorem z48{sp:Nat->zd}{E:Env}{vs l:Nat}{a ka:Atom}{ats:List Atom}{rows r:List (List Dt)}{n:Int}{ds:List Dt}(ha:a.val E=some (.l l rows))(hk:ka.val E=some (I n))(hv:vals E ats=some ds)(h:ds.length=vs/\l=1+vs)(hr:zaj n ds rows=r):denX sp E (.mput vs a ka ats)=some (.l (1+vs) r):=by simp only[denX,ha,hk,asI,hv];rw[zP h,hr]
attribute [local irreducible] den denX z0s z0w z7e
theorem z08o:Meets Tryz.prog zdw 112 zW07:=by
 refine z73 (sp:=(zx [(42,z7e)])) (sigs:=z02) (cut:=[65]) (hints:=[⟨5,[.r 6 3 1,.t 7,.r 1 3 1,.t 26,.z 21]⟩,⟨49,[.r 6 3 1,.t 7,.r 1 3 1,.t 147,.z 65,.z 34,.z 40,.z 41,.z 44,.z 48,.z 49,.z 52,.z 54,.z 55,.z 58,.z 60,.z 61]⟩,⟨44,[.t 16,.t 135]⟩]) (fns:=[za0 126 Tryz.f126 [] []]) (dep:=2) (pool:=300) (fn:=Tryz.f112) (t:=z0p) ?_ ?_ ?_
 ·exact(z2q (fn:=Tryz.f126) zX1 zX1 zX1 zX1 zX1 z8e)
 ·exact(zq (L:=[(42,z7e)]) ⟨z7 rfl z0e7,trivial⟩)
 ·rintro ds rs-h;obtain⟨⟨l,s0,ht⟩,⟨hc0,hs0⟩,rfl,rfl⟩:=zh h;clear h;simp only at hc0 hs0;refine⟨⟨l.length+6,?_⟩,?_⟩
  ·show den _ _ z0p [.l 2 (l.map eOp),.l 1 (s0.map zl),I ht] []=ret (zgb (z3a ht s0 l));obtain⟨hl16,hall⟩:=z0gf hc0;have hs0l:=hs0.1;unfold z0p;refine z4 (z1p (r:=[]) rfl rfl zX4) ?_;refine z4 (zjt (l:=([]:List Int)) (l':=s0) (f:=zl) rfl rfl zXa) ?_;refine z4 (d:=.l 2 [[I 2,I 1]]) (z48 rfl rfl rfl ⟨rfl,rfl⟩ rfl) ?_;refine z4 (d:=.l 2 [[I 2,I 1],[I 3,I 2]]) (z48 rfl rfl rfl ⟨rfl,rfl⟩ rfl) ?_;refine z4 (d:=.l 2 [[I 2,I 1],[I 3,I 2],[I 4,I 1]]) (z48 rfl rfl rfl ⟨rfl,rfl⟩ rfl) ?_;refine z4 (d:=.l 2 [[I 2,I 1],[I 3,I 2],[I 4,I 1],[I 5,I 2]]) (z48 rfl rfl rfl ⟨rfl,rfl⟩ rfl) ?_;refine z4 (d:=.l 2 [[I 2,I 1],[I 3,I 2],[I 4,I 1],[I 5,I 2],[I 6,I 2]]) (z48 rfl rfl rfl ⟨rfl,rfl⟩ rfl) ?_;refine z4 (d:=.l 2 [[I 2,I 1],[I 3,I 2],[I 4,I 1],[I 5,I 2],[I 6,I 2],[I 7,I 2]]) (z48 rfl rfl rfl ⟨rfl,rfl⟩ rfl) ?_;refine z4 (d:=.l 2 [[I 2,I 1],[I 3,I 2],[I 4,I 1],[I 5,I 2],[I 6,I 2],[I 7,I 2],[I 8,I 2]]) (z48 rfl rfl rfl ⟨rfl,rfl⟩ rfl) ?_;refine z4 (d:=.l 2 [[I 2,I 1],[I 3,I 2],[I 4,I 1],[I 5,I 2],[I 6,I 2],[I 7,I 2],[I 8,I 2],[I 9,I 1]]) (z48 rfl rfl rfl ⟨rfl,rfl⟩ rfl) ?_;refine z4 (d:=.l 2 [[I 2,I 1],[I 3,I 2],[I 4,I 1],[I 5,I 2],[I 6,I 2],[I 7,I 2],[I 8,I 2],[I 9,I 1],[I 10,I 2]]) (z48 rfl rfl rfl ⟨rfl,rfl⟩ rfl) ?_;refine z4 (d:=.l 2 [[I 2,I 1],[I 3,I 2],[I 4,I 1],[I 5,I 2],[I 6,I 2],[I 7,I 2],[I 8,I 2],[I 9,I 1],[I 10,I 2],[I 11,I 1]]) (z48 rfl rfl rfl ⟨rfl,rfl⟩ rfl) ?_;refine z4 (d:=.l 2 [[I 2,I 1],[I 3,I 2],[I 4,I 1],[I 5,I 2],[I 6,I 2],[I 7,I 2],[I 8,I 2],[I 9,I 1],[I 10,I 2],[I 11,I 1],[I 13,I 1]]) (z48 rfl rfl rfl ⟨rfl,rfl⟩ rfl) ?_;repeat'(first|refine dq1 ?_|fail)
   (refine zj (λ(s:List Int) k=>[.l 1 (([]:List Int).map zl),.b false,.l 1 (s.map zl),I k]) (λ(s:List Int) _ (r:List Op)=>zgb (z3a ht s r)) (λs _=>z1z s) s0 l ?_ ?_ ?_ ?_ ?_;rfl;exact hs0;omega)
   ·rintro s k ⟨kd,nn⟩ r hx hd hk hs again' hag;have hob:=z08n (hall _ (zY06 hx));simp only at hob;have hF:z3d ht s ⟨kd,nn⟩=none->zgb (z3a ht s (⟨kd,nn⟩::r))=([],false):=λe=>by rw[z3a,e];rfl
    have hO:∀s',z3d ht s ⟨kd,nn⟩=some s'->again' [.l 1 (([]:List Int).map zl),.b false,.l 1 (s'.map zl),I ((k:Int)+1)]=ret (zgb (z3a ht s (⟨kd,nn⟩::r))):=λs' e=>by rw[z3a,e];exact hag s' (zhw hs e)
    have key:∀kd,1<=kd->kd<=13->z89 kd:=λkd h0 h1=>by have hk13:kd=1\/kd=2\/kd=3\/kd=4\/kd=5\/kd=6\/kd=7\/kd=8\/kd=9\/kd=10\/kd=11\/kd=12\/kd=13:=zX0;rcases hk13 with rfl|rfl|rfl|rfl|rfl|rfl|rfl|rfl|rfl|rfl|rfl|rfl|rfl;all_goals first|exact z0e8|exact z0e9|exact z0ea|exact z0eb|exact z0ec|exact z0ed|exact z0ee|exact z0ef|exact z0eg|exact z0bf|exact z0bg|exact z0bh|exact z0bi
    exact key kd hob.1 hob.2 l s0 s ht nn k _ again' hl16 hs.1 hs hk hx hF hO
   ·rintro s hs again';repeat'(first|refine dq1 ?_|exact z5 rfl rfl|refine dqF ?_|fail)
  ·intro i d hi hd
   match i,hi,hd with
   |0,hi,_=>simp[zu]at hi
   |1,_,hd=>simp only[Enc.e,zl,zhl,zY1g,zY16,zY05,zY2d,zY00]at hd;subst hd;rfl
   |i+2,hi,hd=>simp[zu]at hi
noncomputable def zbk:zd:=spD (λx:List Op×List Op×Int=>zb x.1=0/\zb x.2.1=0/\0<=x.2.2/\x.2.2<=1000) λx=>(z2e x.1 x.2.1 x.2.2).1
theorem zv9(l k:List Op)(h:Int)(hl:zb l=0)(hk:zb k=0)(h0:0<=h/\h<=1000):zbk [.l 2 (l.map eOp),.l 2 (k.map eOp),I h]=some [.b (z2e l k h).1]:=zi (p:=λx:List Op×List Op×Int=>zb x.1=0/\zb x.2.1=0/\0<=x.2.2/\x.2.2<=1000) (f:=λx:List Op×List Op×Int=>(z2e x.1 x.2.1 x.2.2).1) (l,k,h) ⟨hl,hk,h0⟩
attribute [local irreducible] z3a z2e
theorem z08p:Meets Tryz.prog zbk 87 zW1e:=by
 refine zg (sp:=(zx [(43,zdw)])) (sigs:=z02) (cut:=[]) (hints:=[]) (fn:=Tryz.f87) (t:=zl2) ?_ ?_
 ·exact(zq (L:=[(43,zdw)]) ⟨z7 rfl z08o,trivial⟩)
 ·rintro ds rs-h;obtain⟨⟨l,k,ht⟩,⟨hl,hk,h0,h1⟩,rfl,rfl⟩:=zh h;clear h;simp only at hl hk h0 h1;refine⟨⟨1,?_⟩,z0b rfl⟩;show den _ _ zl2 [.l 2 (l.map eOp),.l 2 (k.map eOp),I ht] []=ret (z2e l k ht).1;rw[z03t hl hk h0 h1];have a1:=zj5 k [] ht hk zcg;have hsk:∀s,z3a ht [] k=some s->z1z s:=λs h=>znk zcg h;unfold zl2;generalize z3a ht [] k=r at *;cases r with
  |none =>simp only[zgb,zY0b,zpo]at a1⊢;repeat'(first|refine dqK rfl (a1) ?_|exact z5 rfl rfl|refine z0e rfl ?_|fail)
  |some s =>
   have hs:=hsk s rfl;have a2:=zj5 l s ht hl hs;simp only[zY07];generalize z3a ht s l=q at *;rcases q with _|⟨_|⟨x,_|⟨y,t⟩⟩⟩;all_goals
    simp only[zgb,zpo]at a1 a2⊢;try have hl0:¬(((([]:List Int).length:Nat):Int)=1):=zX4
    try have hl1:((([x]:List Int).length:Nat):Int)=1:=rfl
    try have hl2:¬((((x::y::t).length:Nat):Int)=1):=by simp only[zY08];omega
    try have hx0:([x]:List Int)[(0:Int).toNat]?=some x:=rfl
    repeat'(first|refine dq1 ?_|refine dqc ?_|refine dqK rfl (a1) ?_|refine dqK rfl (a2) ?_|exact z5 rfl rfl|refine dqT ?_|refine dqF ?_|refine z0h rfl ?_|refine z0e rfl ?_|fail)
end
end Go.Proofs.YtmjelcjgllkapaaGreatDoor
