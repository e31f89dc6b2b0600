/- Own texts, put together by wip/bundle.py: VCT, VU7, VRow, VDel, VIns, VU8, VU9, VPU, VPB, VC2, VC3, VC5, VC8, VC9, VC10, VR2, VR3, VR4, VR5, VR7, VR8, VN0, VSB, VU5, VL8, VCk, VB7, VS5, VC4, VB8, VE1, VUA, VQ1, VQ2. -/
import Derived.Laws.IdiomCopy
import Derived.Lib.AppendZerosOnto
import Derived.Deep.RegionLaw
import Derived.Lib.Hide
import Derived.Laws.Externs
import Derived.Laws.NewBlocks
import Derived.Test.YtmjelcjgllkapaaGreatDoorProg
import Derived.Sort.Defs
import Derived.Deep.DeepCutAuto
import Derived.Deep.Light
import Derived.Test.YtmjelcjgllkapaaGreatDoorCMOwnB
import Derived.Test.YtmjelcjgllkapaaGreatDoorCMOwnC
import Derived.Test.YtmjelcjgllkapaaGreatDoorCMOwnR
import Derived.Test.YtmjelcjgllkapaaGreatDoorCMOwnS
import Derived.Test.YtmjelcjgllkapaaGreatDoorCMOwnT
import Derived.Test.YtmjelcjgllkapaaGreatDoorCMOwnV2
import Derived.Test.YtmjelcjgllkapaaGreatDoorCMOwnZ1
set_option linter.unusedVariables false
set_option linter.unusedSimpArgs false
set_option maxRecDepth 100000
set_option maxHeartbeats 8000000
namespace Go.Proofs.YtmjelcjgllkapaaGreatDoor
open Go.RowKit
section
theorem z00j(ns:List Int)(bs:List Block)(k f:Nat):z44 ns bs k (f+1)=if z17 ns k<1 then 3 else if z17 ns k>120 then 3 else if zf (z00 bs k)≠0 then zf (z00 bs k)else if z15 (ns.take k) (z17 ns k)=true then 6 else if z23 ns bs (z00 bs k) k≠0 then z23 ns bs (z00 bs k) k else z44 ns bs (k+1) f:=by
 rw[z44];have e0:z22 ns bs k (z17 ns k) (z00 bs k)=if z17 ns k<1\/120<z17 ns k then 3 else if zf (z00 bs k)≠0 then zf (z00 bs k)else if z15 (ns.take k) (z17 ns k)=true then 6 else z23 ns bs (z00 bs k) k:=rfl
 generalize z22 ns bs k (z17 ns k) (z00 bs k)=st at *;by_cases h1:z17 ns k<1
 ·rw[zP (Or.inl h1)]at e0;rw[e0,zP zX9,zP h1]
 by_cases h2:z17 ns k>120
 ·rw[zP (Or.inr h2)]at e0;rw[e0,zP zX9,zN h1,zP h2]
 rw[zN (show ¬(z17 ns k<1\/120<z17 ns k)by omega)]at e0;rw[zN h1,zN h2];by_cases h3:zf (z00 bs k)≠0
 ·rw[zP h3]at e0;rw[e0,zP h3,zP h3]
 rw[zN h3]at e0;rw[zN h3];by_cases h4:z15 (ns.take k) (z17 ns k)=true
 ·rw[zP h4]at e0;rw[e0,zP zX9,zP h4]
 ·rw[zN h4]at e0;rw[e0,zN h4]
theorem z0dt{ns:List Int}{bs:List Block}(ok:TreeOK ns bs){m:Int}(h0:m≠0)(hm:0<=idx ns m):1<=ns.length/\up ns bs ns.length m=m::up ns bs ns.length (z0x ns bs m)/\(z0x ns bs m=0\/0<=idx ns (z0x ns bs m)):=by
 obtain⟨_,_,j,hj,he,_,hp⟩:=ok.name hm;have hr:=ok.rem h0 hm;have hpi:z0x ns bs m=0\/0<=idx ns (z0x ns bs m):=hp.imp id λh=>h.2.1;have hrl:z4g ns m<=ns.length:=by unfold z4g;rw[zN h0];omega
 refine⟨by omega,?_,hpi⟩;obtain⟨f,hf⟩:∃f,ns.length=f+1:=⟨ns.length-1,by omega⟩
 have:up ns bs ns.length m=m::up ns bs f (z0x ns bs m):=by rw[hf,up,zN h0]
 rw[this,zrq ok f ns.length _ hpi zX0 zX0]
section
variable {sp:Nat->zd} {N:Nat} {E:Env} {ks:List (List Dt->Option (List Dt))}
theorem z07g{σ ρ:Type}[Enc ρ]{ats:List Atom}{body:T}(enc:σ->List Dt)(val:σ->ρ)(rk:σ->Nat)(Inv:σ->Prop)(s0:σ)(h:vals E ats=some (enc s0))(h0:Inv s0)(hN:rk s0<N)
  (step:∀(s:σ),Inv s->∀again:List Dt->Option (List Dt),(∀s',Inv s'->rk s'<rk s->again (enc s')=ret (val s'))->den sp N body (E++enc s) (ks++[again])=ret (val s)):den sp N (.loop ats body) E ks=ret (val s0):=by
 refine z0y h ?_;have key:∀(n:Nat) (s:σ),rk s<=n->Inv s->∀M,n<M->z04 (λagain ds=>den sp N body (E++ds) (ks++[again])) M (enc s)=ret (val s):=by
  intro n;induction n with
  |zero =>
   intro s hs hi M hM;obtain⟨M,rfl⟩:∃j,M=j+1:=⟨M-1,by omega⟩
   rw[z04];exact step s hi _ λs' _ hlt=>by omega
  |succ n ih =>
   intro s hs hi M hM;obtain⟨M,rfl⟩:∃j,M=j+1:=⟨M-1,by omega⟩
   rw[z04];exact step s hi _ λs' hi' hlt=>ih s' zX0 hi' M zX0
 exact key (rk s0) s0 (zY0k _) h0 N hN
end
noncomputable def zh3:zd:=spD (λl:List In=>l.length<=3518437208780) λl=>l
theorem z04a(l:List In)(h:l.length<=3518437208780):zh3 [.l 3 (l.map eIn)]=some [.l 3 (l.map eIn)]:=zi (p:=λl:List In=>l.length<=3518437208780) (f:=λl:List In=>l) l h
theorem z0g6:Meets Tryz.prog zh3 90 zW1h :=
 z39 (e:=λx:{ l:List In // l.length<=3518437208780 }=>Enc.e x.1) (xs:=λx=>x.1) zwa rfl rfl zX9 (z25 (fn:=Tryz.f90) ) λx W F us hF h=>by obtain⟨v,us,rfl,h1,h⟩:=z1c h;obtain rfl:=z1y h;obtain⟨A,n,c,rfl,k1⟩:=z2u zwa h1;have:=x.2;have:=k1.1;exact(z09u x.1 A n c W F k1 hF zX0).mono λr W' h=>⟨n,h⟩
noncomputable def zet:zd:=spD (λl:List Out=>l.length<=4398046510976) λl=>l
theorem z00k(l:List Out)(h:l.length<=4398046510976):zet [.l 2 (l.map z30)]=some [.l 2 (l.map z30)]:=zi (p:=λl:List Out=>l.length<=4398046510976) (f:=λl:List Out=>l) l h
theorem z0du:Meets Tryz.prog zet 91 zW1l :=
 z39 (e:=λx:{ l:List Out // l.length<=4398046510976 }=>Enc.e x.1) (xs:=λx=>x.1) zll rfl rfl zX9 (z25 (fn:=Tryz.f91) ) λx W F us hF h=>by obtain⟨v,us,rfl,h1,h⟩:=z1c h;obtain rfl:=z1y h;obtain⟨A,n,c,rfl,k1⟩:=z2u zll h1;have:=x.2;have:=k1.1;exact(z06a x.1 A n c W F k1 hF zX0).mono λr W' h=>⟨n,h⟩
noncomputable def zh4:zd:=spD (λl:List Tx=>l.length<=2513169434843) λl=>l
theorem z00l(l:List Tx)(h:l.length<=2513169434843):zh4 [.l 3 (l.map eTx)]=some [.l 3 (l.map eTx)]:=zi (p:=λl:List Tx=>l.length<=2513169434843) (f:=λl:List Tx=>l) l h
theorem z0g7:Meets Tryz.prog zh4 61 zW1j :=
 z39 (e:=λx:{ l:List Tx // l.length<=2513169434843 }=>Enc.e x.1) (xs:=λx=>x.1) she_tx rfl rfl zX9 (z25 (fn:=Tryz.f61) ) λx W F us hF h=>by obtain⟨v,us,rfl,h1,h⟩:=z1c h;obtain rfl:=z1y h;obtain⟨A,n,c,rfl,k1⟩:=z2u she_tx h1;have:=x.2;have:=k1.1;exact(z09v x.1 A n c W F k1 hF zX0).mono λr W' h=>⟨n,h⟩
noncomputable def zeu:zd:=spD (λl:List Block=>l.length<=1000000) λl=>l
theorem z00m(l:List Block)(h:l.length<=1000000):zeu [.l 5 (l.map z08)]=some [.l 5 (l.map z08)]:=zi (p:=λl:List Block=>l.length<=1000000) (f:=λl:List Block=>l) l h
theorem z0dv:Meets Tryz.prog zeu 81 zW1k :=
 z39 (e:=λx:{ l:List Block // l.length<=1000000 }=>Enc.e x.1) (xs:=λx=>x.1) she_block rfl rfl zX9 (z25 (fn:=Tryz.f81) ) λx W F us hF h=>by obtain⟨v,us,rfl,h1,h⟩:=z1c h;obtain rfl:=z1y h;obtain⟨A,n,c,rfl,k1⟩:=z2u she_block h1;have:=x.2;have:=k1.1;exact(zzh x.1 A n c W F k1 hF zX0).mono λr W' h=>⟨n,h⟩
attribute [local irreducible] z09 spD zf zn den denX z0s z0w
def zpz(t:Tx):Prop:=(t.ins.length<=3518437208780/\∀x∈t.ins,x.key.length<=8796093021952)/\(t.outs.length<=4398046510976/\∀x∈t.outs,x.lock.length<=8796093021952)
def zq0(b:Block):Prop:=b.txs.length<=2513169434843/\∀t∈b.txs,zpz t
theorem TxSmall.fit{t:Tx}(h:TxSmall t):zpz t:=⟨⟨by have:=h.ins;omega,λx hx=>by have:=h.key x hx;omega⟩,by have:=h.outs;omega,λx hx=>by have:=h.lock x hx;omega⟩
theorem BlockSmall.fit{b:Block}(h:BlockSmall b):zq0 b:=⟨by have:=h.txs;omega,λx hx=>(h.each x hx).fit⟩
noncomputable def zfl:zd:=spD zpz λt=>t
theorem zuu(t:Tx)(h:zpz t):zfl [I t.height,.l 3 (t.ins.map eIn),.l 2 (t.outs.map z30)]=some (eTx t):=zi (p:=zpz) (f:=λt:Tx=>t) t h
def z04b:T:=.loop [zI 0,3] (zQ .lss 6 5 8 (zE 3 7 6 (zC 10 [11] (.W [] [.inr 3 7 6] (zS (.set 7 6 2 [12]) (zUa 6 14 13))))) (zL 4 (.loop [zI 0,4] (zQ .lss 10 9 12 (zE 2 11 10 (zC 10 [14] (.W [] [.inr 2 11 10] (zS (.set 11 10 1 [15]) (zUx 10 17 16))))) (.ret [0,7,11])))))
def zno:T:=zC 91 [1] (zC 92 [2] (zL 3 z04b))
attribute [local irreducible] zh3 z61 zet
theorem z0ap:Meets Tryz.prog zfl 62 zW1b:=by
 refine zg (sp:=(zx [(10,z61),(91,zh3),(92,zet)])) (sigs:=z02) (cut:=[]) (hints:=[⟨3,[.t 18,.o 9]⟩,⟨8,[.t 35,.o 12]⟩]) (fn:=Tryz.f62) (t:=zno) ?_ ?_
 ·exact(zq (L:=[(10,z61),(91,zh3),(92,zet)]) ⟨z7 rfl zpc,z7 rfl z0g6,z7 rfl z0du,trivial⟩)
 ·rintro ds rs-h;obtain⟨t,ht,rfl,rfl⟩:=zh h;clear h;obtain⟨⟨h1,h3⟩,h2,h4⟩:=ht;refine⟨⟨t.ins.length+t.outs.length+1,?_⟩,z11 ⟨rfl,trivial⟩⟩;show den _ _ zno [I t.height,.l 3 (t.ins.map eIn),.l 2 (t.outs.map z30)] []=ret t;unfold zno;repeat'(first|refine dq1 ?_|refine dqk rfl (z04a _ zX0) ?_|refine dqk rfl (z00k _ zX0) ?_|fail)
  (refine zj (λ(_:Unit) k=>[I k,.l 3 (t.ins.map eIn)]) (λ_ _ _=>t) (λ_ _=>True) () t.ins ?_ ?_ ?_ ?_ ?_;rfl;exact trivial;omega)
  ·rintro _ k c r hx hd hkl-again hag;repeat'(first|refine dq1 ?_|refine dqc ?_|refine dqm ?_|refine dqk rfl (z90 _ (by have:=h3 c (zY06 hx);omega)) ?_|refine dqT ?_|fail)
   refine z4 (z8y rfl rfl rfl zX0 zX4 (by exact hx) rfl) ?_;repeat'(first|refine dq1 ?_|exact z6 rfl rfl (hag () trivial)|fail)
  ·intro _ _ again;repeat'(first|refine dq1 ?_|refine dqF ?_|fail)
   (refine zj (λ(_:Unit) k=>[I k,.l 2 (t.outs.map z30)]) (λ_ _ _=>t) (λ_ _=>True) () t.outs ?_ ?_ ?_ ?_ ?_;rfl;exact trivial;omega)
   ·rintro _ k c r hx hd hkl-again hag;repeat'(first|refine dq1 ?_|refine dqc ?_|refine dqm ?_|refine dqk rfl (z90 _ (by have:=h4 c (zY06 hx);omega)) ?_|refine dqT ?_|fail)
    refine z4 (z8y rfl rfl rfl zX0 zX4 (by exact hx) rfl) ?_;repeat'(first|refine dq1 ?_|exact z6 rfl rfl (hag () trivial)|fail)
   ·intro _ _ again;repeat'(first|refine dq1 ?_|exact z5 rfl rfl|refine dqF ?_|fail)
noncomputable def z57:zd:=spD zq0 λt=>t
theorem zrs(b:Block)(h:zq0 b):z57 [I b.parent,I b.height,I b.work,I b.nonce,.l 3 (b.txs.map eTx)]=some (z08 b):=zi (p:=zq0) (f:=λt:Block=>t) b h
theorem zd7(b:Block)(h:BlockSmall b):z57 [I b.parent,I b.height,I b.work,I b.nonce,.l 3 (b.txs.map eTx)]=some (z08 b):=zrs b h.fit
def zkg:T:=zC 84 [4] (zL 5 (.loop [zI 0,5] (zQ .lss 7 6 9 (zE 3 8 7 (.W (zK 71 [10,11,12] 3) [] (.W [] [.inr 3 8 7] (zS (.set 8 7 0 [13,14,15]) (zUa 7 17 16))))) (.ret [0,1,2,3,8]))))
attribute [local irreducible] zh4
theorem zkh:Meets Tryz.prog z57 40 zW14:=by
 refine zg (sp:=(zx [(71,zfl),(84,zh4)])) (sigs:=z02) (cut:=[]) (hints:=[⟨3,[.t 12,.o 7]⟩]) (fn:=Tryz.f40) (t:=zkg) ?_ ?_
 ·exact(zq (L:=[(71,zfl),(84,zh4)]) ⟨z7 rfl z0ap,z7 rfl z0g7,trivial⟩)
 ·rintro ds rs-h;obtain⟨b,hb,rfl,rfl⟩:=zh h;clear h;obtain⟨h1,h2⟩:=hb;refine⟨⟨b.txs.length+1,?_⟩,z11 ⟨rfl,rfl,rfl,rfl,trivial⟩⟩;show den _ _ zkg [I b.parent,I b.height,I b.work,I b.nonce,.l 3 (b.txs.map eTx)] []=ret b;unfold zkg;repeat'(first|refine dq1 ?_|refine dqk rfl (z00l _ zX0) ?_|fail)
  (refine zj (λ(_:Unit) k=>[I k,.l 3 (b.txs.map eTx)]) (λ_ _ _=>b) (λ_ _=>True) () b.txs ?_ ?_ ?_ ?_ ?_;rfl;exact trivial;omega)
  ·rintro _ k c r hx hd hkl-again hag;repeat'(first|refine dq1 ?_|refine dqc ?_|refine dqm ?_|refine dqK rfl (zuu c (h2 c (zY06 hx))) ?_|refine dqT ?_|fail)
   refine z4 (z8y rfl rfl rfl zX0 zX4 (by exact hx) rfl) ?_;repeat'(first|refine dq1 ?_|exact z6 rfl rfl (hag () trivial)|fail)
  ·intro _ _ again;repeat'(first|refine dq1 ?_|exact z5 rfl rfl|refine dqF ?_|fail)
noncomputable def zch:zd:=spD TreeSmall λt=>t
theorem zrt(t:Tree)(h:TreeSmall t):zch [.l 1 (t.names.map zl),.l 5 (t.blocks.map z08)]=some (zc9 t):=zi (p:=TreeSmall) (f:=λt:Tree=>t) t h
def zi4:T:=zC 65 [0] (zC 89 [1] (zL 3 (.loop [zI 0,3] (zQ .lss 5 4 7 (zE 5 6 5 (.W (zK 90 [8,9,10,11,12] 5) [] (.W [] [.inr 5 6 5] (zS (.set 6 5 0 [13,14,15,16,17]) (zUa 5 19 18))))) (.ret [2,6])))))
attribute [local irreducible] zeu z7c
theorem z04c:Meets Tryz.prog zch 51 zW17:=by
 refine zg (sp:=(zx [(65,z7c),(89,zeu),(90,z57)])) (sigs:=z02) (cut:=[]) (hints:=[⟨3,[.t 16,.o 10]⟩]) (fn:=Tryz.f51) (t:=zi4) ?_ ?_
 ·exact(zq (L:=[(65,z7c),(89,zeu),(90,z57)]) ⟨z7 rfl z02b,z7 rfl z0dv,z7 rfl zkh,trivial⟩)
 ·rintro ds rs-h;obtain⟨t,ht,rfl,rfl⟩:=zh h;clear h;have h1:=ht.names;have h2:=ht.blocks;refine⟨⟨t.blocks.length+1,?_⟩,z11 trivial⟩;show den _ _ zi4 [.l 1 (t.names.map zl),.l 5 (t.blocks.map z08)] []=ret t;unfold zi4;repeat'(first|refine dq1 ?_|refine dqk rfl (zmb _ zX0) ?_|refine dqk rfl (z00m _ zX0) ?_|fail)
  (refine zj (λ(_:Unit) k=>[I k,.l 5 (t.blocks.map z08)]) (λ_ _ _=>t) (λ_ _=>True) () t.blocks ?_ ?_ ?_ ?_ ?_;rfl;exact trivial;omega)
  ·rintro _ k c r hx hd hkl-again hag;repeat'(first|refine dq1 ?_|refine dqc ?_|refine dqm ?_|refine dqK rfl (zd7 c (ht.each c (zY06 hx))) ?_|refine dqT ?_|fail)
   refine z4 (z8y rfl rfl rfl zX0 zX4 (by exact hx) rfl) ?_;repeat'(first|refine dq1 ?_|exact z6 rfl rfl (hag () trivial)|fail)
  ·intro _ _ again;repeat'(first|refine dq1 ?_|exact z5 rfl rfl|refine dqF ?_|fail)
noncomputable def z5l:zd:=spD (λ_:List Int×Int=>True) λx=>z15 x.1 x.2
theorem z7y(l:List Int)(n:Int):z5l [.l 1 (l.map zl),I n]=some [.b (z15 l n)]:=zi (f:=λx:List Int×Int=>z15 x.1 x.2) (l,n) trivial
def zru:T:=zC 67 [0,1] (zB .geq 2 (zI 0) (.ret [3]))
attribute [local irreducible] z1k
theorem zlq:Meets Tryz.prog z5l 27 zW00:=by
 refine zg (sp:=(zx [(67,z1k)])) (sigs:=z02) (cut:=[]) (hints:=[]) (fn:=Tryz.f27) (t:=zru) ?_ ?_
 ·exact(zq (L:=[(67,z1k)]) ⟨z7 rfl z8m,trivial⟩)
 ·rintro ds rs-h;obtain⟨⟨l,n⟩,-,rfl,rfl⟩:=zh h;clear h;refine⟨⟨1,?_⟩,z0b rfl⟩;show den _ _ zru [.l 1 (l.map zl),I n] []=ret (z15 l n);have e:z15 l n=decide (idx l n>=0):=by
   unfold z15;by_cases h:n∈l
   ·rw[decide_eq_true h,decide_eq_true ((zbx l n).2 h)]
   ·rw[decide_eq_false h,decide_eq_false λk=>h ((zbx l n).1 k)]
  rw[e];unfold zru;repeat'(first|refine dq1 ?_|refine dqk rfl (z3b l n) ?_|exact z5 rfl rfl|fail)
def ztr(x:Tree×Block×Int):Prop:=0<=x.2.2/\x.2.2<=x.1.names.length/\x.1.names.length=x.1.blocks.length/\∀b∈x.1.blocks.take x.2.2.toNat,0<=b.height/\b.height<=1000
noncomputable def z6n:zd:=spD ztr λx=>z23 x.1.names x.1.blocks x.2.1 x.2.2.toNat
theorem zh5(t:Tree)(b:Block)(m:Nat)(h1:m<=t.names.length)(h2:t.names.length=t.blocks.length)(h3:∀b∈t.blocks.take m,0<=b.height/\b.height<=1000):z6n [.l 1 (t.names.map zl),.l 5 (t.blocks.map z08),I b.parent,I b.height,I b.work,I b.nonce,.l 3 (b.txs.map eTx),I m]=some [I (z23 t.names t.blocks b m)] :=
 zi (p:=ztr) (f:=λx:Tree×Block×Int=>z23 x.1.names x.1.blocks x.2.1 x.2.2.toNat) (t,b,(m:Int)) ⟨by simp only;omega,by simp only;omega,h2,by simpa using h3⟩
def zxt:T:=.ite 8 (zS (.sub 1 0 none (some 7)) (zC 67 [9,2] (zQ .lss 10 (zI 0) 11 (.ret [zI 5]) (.W [] [.inr 5 1 10] (zS (.idx 1 10 1) (zB .add 12 (zI 1) (zQ .neq 3 13 14 (.ret [zI 4]) (.ret [zI 0])))))))) (zB .add (zI 0) (zI 1) (zQ .neq 3 9 10 (.ret [zI 4]) (.ret [zI 0])))
def zi5:T:=zB .neq 2 (zI 0) zxt
theorem zq1:Meets Tryz.prog z6n 50 zW1c:=by
 refine zg (sp:=(zx [(67,z1k)])) (sigs:=z02) (cut:=[]) (hints:=[]) (fn:=Tryz.f50) (t:=zi5) ?_ ?_
 ·exact(zq (L:=[(67,z1k)]) ⟨z7 rfl z8m,trivial⟩)
 ·rintro ds rs-h;obtain⟨⟨t,b,m⟩,⟨h1,h2,h3,h4⟩,rfl,rfl⟩:=zh h;clear h;simp only at h1 h2 h3 h4;refine⟨⟨1,?_⟩,z0b rfl⟩;show den _ _ zi5 [.l 1 (t.names.map zl),.l 5 (t.blocks.map z08),I b.parent,I b.height,I b.work,I b.nonce,.l 3 (b.txs.map eTx),I m] []=ret (z23 t.names t.blocks b m.toNat);have e:z23 t.names t.blocks b m.toNat=if b.parent≠0 then(if idx (t.names.take m.toNat) b.parent<0 then 5 else if b.height≠(z00 t.blocks (idx (t.names.take m.toNat) b.parent)).height+1 then 4 else 0)else(if b.height≠0+1 then 4 else 0):=by
   unfold z23;by_cases h:b.parent=0
   ·rw[zP h,zN (show ¬b.parent≠0 from λk=>k h)];rfl
   ·rw[zN h,zP (show b.parent≠0 from h)]
  rw[e];clear e;unfold zi5;have a1:=z3b (t.names.take m.toNat) b.parent;have hb:=zju (t.names.take m.toNat) b.parent;rw[zY0d]at hb;have hat:¬idx (t.names.take m.toNat) b.parent<0->t.blocks[(idx (t.names.take m.toNat) b.parent).toNat]?=some (z00 t.blocks (idx (t.names.take m.toNat) b.parent))/\0<=(z00 t.blocks (idx (t.names.take m.toNat) b.parent)).height/\(z00 t.blocks (idx (t.names.take m.toNat) b.parent)).height<=1000/\idx (t.names.take m.toNat) b.parent<t.blocks.length:=by
   intro hn;obtain⟨i,hi,his⟩:=zer (show 0<=idx (t.names.take m.toNat) b.parent by omega);have hil:=(zY02.1 his).1;rw[zY0d]at hil;have hlt:(idx (t.names.take m.toNat) b.parent).toNat<t.blocks.length:=zX0;have e1:t.blocks[(idx (t.names.take m.toNat) b.parent).toNat]?=some (z00 t.blocks (idx (t.names.take m.toNat) b.parent)):=by unfold z00;rw[zY03 hlt,zY1f]
   suffices hm:z00 t.blocks (idx (t.names.take m.toNat) b.parent)∈t.blocks.take m.toNat from⟨e1,(h4 _ hm).1,(h4 _ hm).2,by omega⟩
   refine zY06 (i:=(idx (t.names.take m.toNat) b.parent).toNat) ?_;rw[zY17,zP zX0];exact e1
  generalize idx (t.names.take m.toNat) b.parent=j at *;have hl:(t.names.take m.toNat).map zl=(t.names.map zl).take m.toNat:=zY3y;generalize z00 t.blocks j=x at *;rw[hl]at a1;refine z4 (zcr rfl rfl) ?_;refine tR (λh=>?_) (λh=>?_)
  rotate_left
  ·repeat'(first|refine dq1 ?_|exact z5 rfl rfl|refine tR (λh=>?_) λh=>?_|fail)
  ·refine z4 (d:=.l 1 ((t.names.map zl).take m.toNat)) ?_ ?_
   ·simp[denX,Atom.val,bndI,asI,h1,h2]
   refine dqk rfl a1 ?_;refine z4 (zwl rfl rfl) ?_;refine tR (λh=>?_) (λh=>?_)
   ·repeat'(first|exact z5 rfl rfl|fail)
   ·obtain⟨hx,g1,g2,g3⟩:=hat h;repeat'(first|refine dq1 ?_|refine dqc ?_|exact z5 rfl rfl|refine tR (λh=>?_) λh=>?_|fail)
noncomputable def z4i:zd:=spD (λ_:Tree=>True) λt=>zn t
theorem zb9(t:Tree):z4i [.l 1 (t.names.map zl),.l 5 (t.blocks.map z08)]=some [I (zn t)]:=zi (f:=λt:Tree=>zn t) t trivial
theorem zxu(t:Tree):zn t=if(t.names.length:Int)≠t.blocks.length then 4 else if(t.names.length:Int)>24 then 2 else z44 t.names t.blocks 0 t.blocks.length:=by
 have e:zn t=if t.names.length≠t.blocks.length then 4 else if 24<t.names.length then 2 else z44 t.names t.blocks 0 t.names.length:=by with_unfolding_all rfl
 by_cases h:t.names.length=t.blocks.length
 ·have e2:zn t=if 24<t.names.length then 2 else z44 t.names t.blocks 0 t.names.length:=by rw[e];exact zN (λk=>k h)
  by_cases h2:24<t.names.length
  ·rw[e2,zP h2,zN (show ¬(t.names.length:Int)≠t.blocks.length by omega),zP zX0]
  ·rw[e2,zN h2,zN (show ¬(t.names.length:Int)≠t.blocks.length by omega),zN zX0,h]
 ·rw[e,zP h,zP zX0]
def zuv:T:=.ite 17 (.ret [zI 3]) (zQ .gtr 16 (zI 120) 18 (.ret [zI 3]) (zC 59 [11,12,13,14,15] (zQ .neq 19 (zI 0) 20 (.ret [19]) (zS (.sub 1 0 none (some 9)) (zC 85 [21,16] (.ite 22 (.ret [zI 6]) (zC 86 [0,1,11,12,13,14,15,9] (zB .neq 23 (zI 0) (znh 24 23 8 25)))))))))
def zg4:T:=zL 0 (zL 1 (zQ .neq 2 3 4 (.ret [zI 4]) (zL 0 (zQ .gtr 5 (zI 24) 6 (.ret [zI 2]) (zL 1 (.loop [zI 0,zI 0] (zQ .lss 9 7 10 (zE 5 1 9 (zE 1 0 9 (zB .lss 16 (zI 1) zuv))) (.ret [zI 0]))))))))
attribute [local irreducible] z6m z6n
theorem zg5:Meets Tryz.prog z4i 39 zW0p:=by
 refine zg (sp:=(zx [(59,z6m),(85,z5l),(86,z6n)])) (sigs:=z02) (cut:=[]) (hints:=[⟨6,[.t 2,.t 22]⟩]) (fn:=Tryz.f39) (t:=zg4) ?_ ?_
 ·exact(zq (L:=[(59,z6m),(85,z5l),(86,z6n)]) ⟨z7 rfl zpx,z7 rfl zlq,z7 rfl zq1,trivial⟩)
 ·rintro ds rs-h;obtain⟨t,-,rfl,rfl⟩:=zh h;clear h;refine⟨⟨t.blocks.length+1,?_⟩,z0b rfl⟩;show den _ _ zg4 [.l 1 (t.names.map zl),.l 5 (t.blocks.map z08)] []=ret (zn t);rw[zxu];unfold zg4;repeat'(first|refine dq1 ?_|exact z5 rfl rfl|refine tR (λh=>?_) λh=>?_|fail)
  (refine zj (λ(_:Unit) k=>[I 0,I k]) (λ_ k (r:List Block)=>z44 t.names t.blocks k r.length) (λ_ k=>∀x∈t.blocks.take k,0<=x.height/\x.height<=1000) () t.blocks ?_ ?_ ?_ ?_ ?_;rfl;exact(λx hx=>by simp at hx);exact zY29 _)
  ·rintro _ k b r hx hd hkl hI again hag;have hb:z00 t.blocks (k:Int)=b:=by unfold z00;rw[zY1d,hx];rfl
   have hnl:k<t.names.length:=zX0;obtain⟨nm,hn⟩:∃nm,t.names[k]?=some nm:=⟨_,zY03 hnl⟩
   have hna:z17 t.names k=nm:=by unfold z17;rw[hn];rfl
   rw[zY08,z00j,hb,hna];have a1:=zh1 b;have a2:=z7y (t.names.take k) nm;have a3:=zh5 t b k zX0 zX0 hI;rw[zY3y]at a2;have hn2:t.names[((k:Nat):Int).toNat]?=some nm:=by rw[zY1d];exact hn
   have hx2:t.blocks[((k:Nat):Int).toNat]?=some b:=by rw[zY1d];exact hx
   have hcut:∀E:Env,E[0]?=some (.l 1 (t.names.map zl))->E[9]?=some (I (k:Int))->denX (λ_ _=>none) E (.sub 1 (.v 0) none (some (.v 9)))=some (.l 1 ((t.names.map zl).take k)):=by intro E h0 h9;simp[denX,Atom.val,bndI,asI,h0,h9];omega
   repeat'(first|refine dq1 ?_|refine dqc ?_|refine dqm ?_|refine dqk rfl (a1) ?_|exact z5 rfl rfl|refine tR (λh=>?_) λh=>?_|refine dqT ?_|fail)
   refine z4 (d:=.l 1 ((t.names.map zl).take k)) (by simp[denX,Atom.val,bndI,asI];omega) ?_;repeat'(first|refine dq1 ?_|refine dqk rfl (a2) ?_|refine dqk rfl (a3) ?_|exact z5 rfl rfl|((first|refine tR ?_ ?_|refine tB ?_ ?_)<;>intro h)|fail)
   refine z6 rfl rfl (hag () ?_);have hok:zf b=0:=zY0u.1 zXn;intro x hxm;rw[List.take_add_one,hx]at hxm;rcases zY13.1 hxm with hm|hm
   ·exact hI x hm
   ·simp only[Option.toList,zY12]at hm;subst hm;exact zb7 hok
  ·intro _ _ again;repeat'(first|refine dq1 ?_|exact z5 rfl rfl|refine dqF ?_|fail)
noncomputable def zfm:zd:=spD (λx:Tree×Int=>TreeOK x.1.names x.1.blocks/\(x.2=0\/0<=idx x.1.names x.2)) λx=>z01 x.1.names x.1.blocks x.2
theorem zxv(t:Tree)(m:Int)(ok:TreeOK t.names t.blocks)(hm:m=0\/0<=idx t.names m):zfm [.l 1 (t.names.map zl),.l 5 (t.blocks.map z08),I m]=some [.l 1 ((z01 t.names t.blocks m).map zl)]:=zi (p:=λx:Tree×Int=>TreeOK x.1.names x.1.blocks/\(x.2=0\/0<=idx x.1.names x.2)) (f:=λx:Tree×Int=>z01 x.1.names x.1.blocks x.2) (t,m) ⟨ok,hm⟩
theorem znp{t:Tree}(ok:TreeOK t.names t.blocks){m:Int}(hm:0<=idx t.names m):t.blocks[(idx t.names m).toNat]?=some (z00 t.blocks (idx t.names m))/\idx t.names m<t.blocks.length:=by obtain⟨j,hj,hjs⟩:=zer hm;have hlt:=(zY02.1 hjs).1;have hl:=ok.len;refine⟨?_,by omega⟩;unfold z00;rw[zY03 zX0,zY1f]
def znq:T:=.loop [.c (.nil 1),2] (zQ .neq 4 (zI 0) 5 (zS (.mk 1 [[4]]) (zS (.app 1 3 6) (zC 67 [0,4] (.W [] [.inr 5 1 8] (zS (.idx 1 8 0) (.again 0 [7,9])))))) (zC 66 [3] (.ret [6])))
attribute [local irreducible] z75
theorem z0aq:Meets Tryz.prog zfm 60 zW1d:=by
 refine zg (sp:=(zx [(66,z75),(67,z1k)])) (sigs:=z02) (cut:=[]) (hints:=[⟨2,[.r 5 3 1,.t 1]⟩]) (fn:=Tryz.f60) (t:=znq) ?_ ?_
 ·exact(zq (L:=[(66,z75),(67,z1k)]) ⟨z7 rfl zxr,z7 rfl z8m,trivial⟩)
 ·rintro ds rs-h;obtain⟨⟨t,m⟩,⟨ok,hm⟩,rfl,rfl⟩:=zh h;clear h;simp only at ok hm;refine⟨⟨t.names.length+1,?_⟩,z11 trivial⟩;show den _ _ znq [.l 1 (t.names.map zl),.l 5 (t.blocks.map z08),I m] []=ret (z01 t.names t.blocks m);unfold znq;have hz:∀n,up t.names t.blocks n 0=[]:=λn=>by cases n with
   |zero=>rfl
   |succ n=>rw[up,zP rfl]
  have hle:=ok.le;have hrl:z4g t.names m<=t.names.length:=by
   rcases hm with h|h
   ·unfold z4g;rw[zP h];omega
   ·have:=(znp ok h).2;have:=ok.len;unfold z4g;split<;>omega
  refine z07g (λs:List Int×Int=>[.l 1 (s.1.map zl),I s.2]) (λs=>(s.1++up t.names t.blocks t.names.length s.2).reverse) (λs=>z4g t.names s.2) (λs=>(s.2=0\/0<=idx t.names s.2)/\s.1.length+z4g t.names s.2<=24) ([],m) rfl ⟨hm,by simp only[zY0p];omega⟩ (by simp only;omega) ?_;rintro⟨acc,m⟩ ⟨hm,hl⟩ again hag;simp only at hm hl hag⊢;by_cases h:m=0
  ·subst h;rw[hz,zY1b];have a1:=zkf acc;refine z4 (zcr rfl rfl) ?_;refine dqF ?_ rfl (λk=>k rfl);repeat'(first|refine dqk rfl (a1) ?_|exact z5 rfl rfl|fail)
  ·have hi:0<=idx t.names m:=hm.resolve_left h;obtain⟨u1,u2,u3⟩:=z0dt ok h hi;obtain⟨b1,b2⟩:=znp ok hi;have hr:=ok.rem h hi;have a1:=z3b t.names m;rw[u2];refine z4 (zcr rfl rfl) ?_;refine dqT ?_ rfl h;repeat'(first|refine dq1 ?_|refine dqc ?_|refine dqk rfl (a1) ?_|fail)
   have:=hag (acc++[m],z0x t.names t.blocks m) ⟨u3,by simp only[zY04,zY1c];omega⟩ hr;simp only[zY1a,zY2y]at this;exact z6 rfl rfl this
noncomputable def z6o:zd:=spD (λ_:Tree×Int=>True) λx=>z3e x.1 x.2
theorem zh6(t:Tree)(m:Int):z6o [.l 1 (t.names.map zl),.l 5 (t.blocks.map z08),I m]=some [.l 1 ((z3e t m).1.map zl),I (z3e t m).2]:=zi (f:=λx:Tree×Int=>z3e x.1 x.2) (t,m) trivial
theorem z07h(t:Tree)(m:Int):z3e t m=if zn t≠0 then([],zn t)else if m≠0 then(if z15 t.names m=false then([],5)else(z01 t.names t.blocks m,0))else(z01 t.names t.blocks m,0):=by
 with_unfolding_all unfold z3e
 by_cases h:zn t≠0
 ·rw[zP h,zP h]
 rw[zN h,zN h];by_cases h2:m=0
 ·rw[zN zX0,zN (λk=>k h2)]
 rw[zP h2];have hi:=zbx t.names m;by_cases h3:m∈t.names
 ·rw[zN (by have:=hi.2 h3;omega),zN (by unfold z15;simp[h3])]
 ·rw[zP ⟨h2,by apply Classical.byContradiction;intro hc;exact h3 (hi.1 zX0)⟩,zP (by unfold z15;simp[h3])]
def zi6:T:=zC 87 [0,1] (zQ .neq 3 (zI 0) 4 (.ret [.c (.nil 1),3]) (zQ .neq 2 (zI 0) 5 (zC 85 [0,2] (zS (.not 6) (.ite 7 (.ret [.c (.nil 1),zI 5]) (zC 88 [0,1,2] (.ret [8,zI 0]))))) (zC 88 [0,1,2] (.ret [6,zI 0]))))
theorem zq2:Meets Tryz.prog z6o 36 zW15:=by
 refine zg (sp:=(zx [(85,z5l),(87,z4i),(88,zfm)])) (sigs:=z02) (cut:=[]) (hints:=[]) (fn:=Tryz.f36) (t:=zi6) ?_ ?_
 ·exact(zq (L:=[(85,z5l),(87,z4i),(88,zfm)]) ⟨z7 rfl zlq,z7 rfl zg5,z7 rfl z0aq,trivial⟩)
 ·rintro ds rs-h;obtain⟨⟨t,m⟩,-,rfl,rfl⟩:=zh h;clear h;refine⟨⟨1,?_⟩,z11 ⟨rfl,trivial⟩⟩;show den _ _ zi6 [.l 1 (t.names.map zl),.l 5 (t.blocks.map z08),I m] []=ret (z3e t m);rw[z07h];unfold zi6;have a1:=zb9 t;have a2:=z7y t.names m;have a3:=zxv t m;have hok:=(z2j t.names t.blocks).1;have hin:z15 t.names m=true->0<=idx t.names m:=(znl _ _).1;generalize z15 t.names m=d at *;refine dqk rfl a1 ?_;refine z4 (zcr rfl rfl) ?_;refine tR (λh=>?_) (λh=>?_)
  ·repeat'(first|exact z5 rfl rfl|fail)
  have h:=zY0u.1 h;have ok:=hok h;refine z4 (zcr rfl rfl) ?_;refine tR (λh=>?_) (λh=>?_)
  rotate_left
  ·have a3:=a3 ok (.inl (zY0u.1 h));repeat'(first|refine dqk rfl (a3) ?_|exact z5 rfl rfl|fail)
  ·refine dqk rfl a2 ?_;refine z4 (z06k rfl) ?_;cases d with
   |true =>have a3:=a3 ok (.inr (hin rfl));rw[zN zX9];repeat'(first|refine dqk rfl (a3) ?_|exact z5 rfl rfl|refine z0e rfl ?_|fail)
   |false =>rw[zP rfl];repeat'(first|exact z5 rfl rfl|refine z0h rfl ?_|fail)
noncomputable def z5m:zd:=spD (λ_:Tree×Int=>True) λx=>(ze x.1 x.2,z7x x.1 x.2)
theorem z68(t:Tree)(m:Int):z5m [.l 1 (t.names.map zl),.l 5 (t.blocks.map z08),I m]=some (z08 (ze t m)++[I (z7x t m)]):=zi (f:=λx:Tree×Int=>(ze x.1 x.2,z7x x.1 x.2)) (t,m) trivial
theorem zts{t:Tree}(ok:TreeOK t.names t.blocks){b:Block}(hb:b∈t.blocks):BlockSmall b:=by have bk:=z1b (zit (t:=t) ((z2j t.names t.blocks).2 ok) b hb);exact⟨by have:=bk.len;omega,λx hx=>zis (bk.each x hx)⟩
theorem z04d{t:Tree}(ok:TreeOK t.names t.blocks):TreeSmall t:=by have:=ok.len;have:=ok.le;exact⟨by omega,by omega,λb hb=>zts ok hb⟩
def zg6:T:=zC 87 [0,1] (zQ .neq 3 (zI 0) 4 (.ret [zI 0,zI 0,zI 0,zI 0,.c (.nil 3),3]) (zC 67 [0,2] (zQ .lss 5 (zI 0) 6 (.ret [zI 0,zI 0,zI 0,zI 0,.c (.nil 3),zI 5]) (zE 5 1 5 (.W (zK 90 [7,8,9,10,11] 5) [] (.ret [12,13,14,15,16,zI 0]))))))
theorem zmd:Meets Tryz.prog z5m 15 zW0j:=by
 refine zg (sp:=(zx [(67,z1k),(87,z4i),(90,z57)])) (sigs:=z02) (cut:=[]) (hints:=[]) (fn:=Tryz.f15) (t:=zg6) ?_ ?_
 ·exact(zq (L:=[(67,z1k),(87,z4i),(90,z57)]) ⟨z7 rfl z8m,z7 rfl zg5,z7 rfl zkh,trivial⟩)
 ·rintro ds rs-h;obtain⟨⟨t,m⟩,-,rfl,rfl⟩:=zh h;clear h;refine⟨⟨1,?_⟩,z11 ⟨rfl,rfl,rfl,rfl,rfl,trivial⟩⟩;show den _ _ zg6 [.l 1 (t.names.map zl),.l 5 (t.blocks.map z08),I m] []=ret (ze t m,z7x t m);have a1:=zb9 t;have a2:=z3b t.names m;have hok:=(z2j t.names t.blocks).1;have hat:=λok h=>@znp t ok m h;have e:(ze t m,z7x t m)=if zn t≠0 then(zxn,zn t)else if idx t.names m<0 then(zxn,5)else(z00 t.blocks (idx t.names m),0):=by
   with_unfolding_all unfold ze z7x
   by_cases h:zn t≠0
   ·rw[zP h,zN h,zP h]
   ·rw[zN h];by_cases h2:idx t.names m<0
    ·rw[zP h2,zN zX9,zN h,zP h2]
    ·rw[zN h2,zP rfl,zN h,zN h2]
  rw[e];clear e;unfold zg6;generalize idx t.names m=j at *;refine dqk rfl a1 ?_;refine z4 (zcr rfl rfl) ?_;refine tR (λh=>?_) (λh=>?_)
  ·repeat'(first|exact z5 rfl rfl|fail)
  have h:=zY0u.1 h;have ok:=hok h;refine dqk rfl a2 ?_;refine z4 (zwl rfl rfl) ?_;refine tR (λh=>?_) (λh=>?_)
  ·repeat'(first|exact z5 rfl rfl|fail)
  obtain⟨b1,b2⟩:=hat ok zX0;have hle:=ok.le;have a3:=zd7 _ (zts ok (zY06 b1));generalize z00 t.blocks j=b at *;repeat'(first|refine dqc ?_|refine dqm ?_|refine dqK rfl (a3) ?_|exact z5 rfl rfl|fail)
noncomputable def zba:zd:=spD (λ_:Tree×Int×Block=>True) λx=>(z4u x.1 x.2.1 x.2.2,z4t x.1 x.2.1 x.2.2)
theorem ziv(t:Tree)(m:Int)(b:Block):zba [.l 1 (t.names.map zl),.l 5 (t.blocks.map z08),I m,I b.parent,I b.height,I b.work,I b.nonce,.l 3 (b.txs.map eTx)]=some [.l 1 ((z4u t m b).names.map zl),.l 5 ((z4u t m b).blocks.map z08),I (z4t t m b)]:=zi (f:=λx:Tree×Int×Block=>(z4u x.1 x.2.1 x.2.2,z4t x.1 x.2.1 x.2.2)) (t,m,b) trivial
theorem z00n(t:Tree)(name:Int)(b:Block):(z4u t name b,z4t t name b)=if zn t≠0 then((⟨[],[]⟩:Tree),zn t)else if name<1 then(⟨[],[]⟩,3)else if name>120 then(⟨[],[]⟩,3)else if zf b≠0 then(⟨[],[]⟩,zf b)else if z15 t.names name=true then(⟨[],[]⟩,6)else if z23 t.names t.blocks b t.names.length≠0 then(⟨[],[]⟩,z23 t.names t.blocks b t.names.length)else if(t.names.length:Int)=24 then(⟨[],[]⟩,12)else(⟨t.names++[name],t.blocks++[b]⟩,0):=by
 have key:∀e,z4t t name b=e->e≠0->(z4u t name b,z4t t name b)=(⟨[],[]⟩,e):=by
  intro e h h0
  with_unfolding_all unfold z4u
  rw[h,zN h0]
 by_cases h1:zn t≠0
 ·rw[zP h1];exact key _ (by with_unfolding_all exact zP h1) h1
 have e1:z4t t name b=if zh0 name=true then 3 else if zf b≠0 then zf b else if z15 t.names name=true then 6 else if z23 t.names t.blocks b t.names.length≠0 then z23 t.names t.blocks b t.names.length else if(t.names.length:Int)=24 then 12 else 0:=by with_unfolding_all exact zN h1
 rw[zN h1];by_cases h2:name<1
 ·rw[zP h2];exact key _ (by rw[e1,zP (by unfold zh0;exact decide_eq_true (.inl h2))]) zX9
 rw[zN h2];by_cases h3:name>120
 ·rw[zP h3];exact key _ (by rw[e1,zP (by unfold zh0;exact decide_eq_true (.inr h3))]) zX9
 rw[zN h3];rw[zN (by unfold zh0;rw[decide_eq_true_iff];omega)]at e1;by_cases h4:zf b≠0
 ·rw[zP h4];exact key _ (by rw[e1,zP h4]) h4
 rw[zN h4];rw[zN h4]at e1;by_cases h5:z15 t.names name=true
 ·rw[zP h5];exact key _ (by rw[e1,zP h5]) zX9
 rw[zN h5];rw[zN h5]at e1;by_cases h6:z23 t.names t.blocks b t.names.length≠0
 ·rw[zP h6];exact key _ (by rw[e1,zP h6]) h6
 rw[zN h6];rw[zN h6]at e1;by_cases h7:(t.names.length:Int)=24
 ·rw[zP h7];exact key _ (by rw[e1,zP h7]) zX9
 rw[zN h7];rw[zN h7]at e1;rw[e1]
 with_unfolding_all unfold z4u
 rw[e1,zP rfl]
def z00o:T:=.ite 17 (.ret [.c (.nil 1),.c (.nil 5),16]) (zL 0 (zQ .eql 18 (zI 24) 19 (.ret [.c (.nil 1),.c (.nil 5),zI 12]) (.W (zK 83 [0,1] 2) [] (zS (.mk 1 [[2]]) (zS (.app 1 20 22) (.W (zK 90 [3,4,5,6,7] 5) [] (zS (.mk 5 [[24,25,26,27,28]]) (zS (.app 5 21 29) (.ret [23,30,zI 0])))))))))
def z00p:T:=.ite 11 (.ret [.c (.nil 1),.c (.nil 5),zI 3]) (zC 59 [3,4,5,6,7] (zQ .neq 12 (zI 0) 13 (.ret [.c (.nil 1),.c (.nil 5),12]) (zC 85 [0,2] (.ite 14 (.ret [.c (.nil 1),.c (.nil 5),zI 6]) (zL 0 (zC 86 [0,1,3,4,5,6,7,15] (zB .neq 16 (zI 0) z00o)))))))
def zki:T:=zC 87 [0,1] (zQ .neq 8 (zI 0) 9 (.ret [.c (.nil 1),.c (.nil 5),8]) (zQ .lss 2 (zI 1) 10 (.ret [.c (.nil 1),.c (.nil 5),zI 3]) (zB .gtr 2 (zI 120) z00p)))
theorem z07i:Meets Tryz.prog zba 24 zW0w:=by
 refine zg (sp:=(zx [(59,z6m),(83,zch),(85,z5l),(86,z6n),(87,z4i),(90,z57)])) (sigs:=z02) (cut:=[]) (hints:=[]) (fn:=Tryz.f24) (t:=zki) ?_ ?_
 ·exact(zq (L:=[(59,z6m),(83,zch),(85,z5l),(86,z6n),(87,z4i),(90,z57)]) ⟨z7 rfl zpx,z7 rfl z04c,z7 rfl zlq,z7 rfl zq1,z7 rfl zg5,z7 rfl zkh,trivial⟩)
 ·rintro ds rs-h;obtain⟨⟨t,m,b⟩,-,rfl,rfl⟩:=zh h;clear h;refine⟨⟨1,?_⟩,z11 ⟨rfl,trivial⟩⟩;show den _ _ zki [.l 1 (t.names.map zl),.l 5 (t.blocks.map z08),I m,I b.parent,I b.height,I b.work,I b.nonce,.l 3 (b.txs.map eTx)] []=ret (z4u t m b,z4t t m b);have a1:=zb9 t;have a2:=zh1 b;have a3:=z7y t.names m;have hok:=(z2j t.names t.blocks).1;have hbk:=@z1b b;rw[z00n];unfold zki;generalize z15 t.names m=d at *;refine dqk rfl a1 ?_;refine z4 (zcr rfl rfl) ?_;refine tR (λh=>?_) (λh=>?_)
  ·repeat'(first|exact z5 rfl rfl|fail)
  have h:=zY0u.1 h;have ok:=hok h;have hle:=ok.le;have hll:=ok.len;have a4:=zh5 t b t.names.length (zY0k _) hll (λx hx=>zb7 (zit (t:=t) h x (zY2f hx)));have a5:=zrt t (z04d ok);by_cases hb:zf b=0
  ·have bk:=hbk hb;have a6:=zd7 b ⟨by have:=bk.len;omega,λx hx=>zis (bk.each x hx)⟩;clear hbk;generalize z23 t.names t.blocks b t.names.length=st at *;repeat'(first|refine dq1 ?_|refine dqk rfl (a2) ?_|refine dqk rfl (a3) ?_|refine dqk rfl (a4) ?_|refine dqK rfl (a5) ?_|refine dqK rfl (a6) ?_|refine z4 (z1p (r:=[z08 b]) rfl rfl zX4) ?_|exact z5 rfl rfl|((first|refine tR ?_ ?_|refine tB ?_ ?_)<;>intro h)|fail)
  ·clear hbk;repeat'(first|refine dq1 ?_|refine dqk rfl (a2) ?_|exact z5 rfl rfl|refine tR (λh=>?_) λh=>?_|fail)
   all_goals omega
end
section
variable {ρ:Type}
def z3l(h:Int)(bad:Int->ρ)(K:List Coin->List Coin->ρ):List Coin->List Coin->List In->ρ
 |r,s,[]=>K r s
 |r,s,x::xs=>if z1q r x.p=true then
   if((r[zp r x.p]?).getD z6s).reward=true then
    if h<((r[zp r x.p]?).getD z6s).height+2 then bad 10
    else if(z2e ((r[zp r x.p]?).getD z6s).o.lock x.key h).1=true then z3l h bad K (r.take (zp r x.p)++r.drop (zp r x.p+1)) (s++[(r[zp r x.p]?).getD z6s]) xs else bad 8
   else if(z2e ((r[zp r x.p]?).getD z6s).o.lock x.key h).1=true then z3l h bad K (r.take (zp r x.p)++r.drop (zp r x.p+1)) (s++[(r[zp r x.p]?).getD z6s]) xs else bad 8
  else bad 7
def z3c(nm h:Int)(rw:Bool)(bad:Int->ρ)(K:List Coin->ρ):List Coin->Nat->List Out->ρ
 |r,_,[]=>K r
 |r,i,o::os=>if z1q r ⟨nm,i⟩=true then bad 6 else z3c nm h rw bad K (r.take (zp r ⟨nm,i⟩)++[⟨⟨nm,i⟩,o,h,rw⟩]++r.drop (zp r ⟨nm,i⟩)) (i+1) os
end
def z1v(e:Int):List Coin×List Coin×Int:=([],[],e)
def z5w(s r:List Coin):List Coin×List Coin×Int:=if z9 r≠0 then z1v (z9 r)else(r,s,0)
def zy(l:List Coin)(t:Tx)(nm h:Int):List Coin×List Coin×Int :=
 if z9 l≠0 then z1v (z9 l)else if zo t≠0 then z1v (zo t)else
 if nm<1\/120<nm\/h<1\/1000<h then z1v 3 else
 if(t.ins.length:Int)=0 then
  if t.height≠h then z1v 4 else z3l h z1v (λr s=>z3c nm h (decide ((t.ins.length:Int)=0)) z1v (z5w s) r 0 t.outs) l [] t.ins
 else z3l h z1v (λr s=>if z16 t s<0 then z1v 9 else z3c nm h (decide ((t.ins.length:Int)=0)) z1v (z5w s) r 0 t.outs) l [] t.ins
section
variable {ρ:Type}
def z87(nm:Int)(bad:Int->ρ)(K:List Coin->ρ):List Coin->Nat->List Out->ρ
 |r,_,[]=>K r
 |r,i,o::os=>if z1q r ⟨nm,i⟩=true then(if decide (((r[zp r ⟨nm,i⟩]?).getD z6s).o=o)=true then z87 nm bad K (r.take (zp r ⟨nm,i⟩)++r.drop (zp r ⟨nm,i⟩+1)) (i+1) os else bad 7)else bad 7
def z6t(ins:List In)(bad:Int->ρ)(K:List Coin->ρ):List Coin->Nat->List Coin->ρ
 |r,_,[]=>K r
 |r,i,c::cs=>if z1q r c.p=true then bad 6 else if((ins[i]?).getD ⟨⟨0,0⟩,[]⟩).p≠c.p then bad 6 else z6t ins bad K (r.take (zp r c.p)++[c]++r.drop (zp r c.p)) (i+1) cs
end
def z5x(e:Int):List Coin×Int:=([],e)
def za5(r:List Coin):List Coin×Int:=if z9 r≠0 then z5x (z9 r)else(r,0)
def z1i(l:List Coin)(t:Tx)(nm:Int)(u:List Coin):List Coin×Int :=
 if z9 l≠0 then z5x (z9 l)else if zo t≠0 then z5x (zo t)else if(u.length:Int)≠t.ins.length then z5x 4 else
  z87 nm z5x (λr=>z6t t.ins z5x za5 r 0 u) l 0 t.outs
theorem z7d{r:List Coin}(h:z05 r)(k:Nat):z05 (r.take k++r.drop (k+1)):=by have:(r.take k++r.drop (k+1))=r.eraseIdx k:=(List.eraseIdx_eq_take_drop_succ r k).symm;rw[this];exact h.sublist (List.eraseIdx_sublist r k)
theorem z69{r:List Coin}(h:z05 r){c:Coin}(hc:z1q r c.p=false):z05 (r.take (zp r c.p)++[c]++r.drop (zp r c.p)):=by
 obtain⟨i1,i2⟩:=zm4 h c.p;have hle:=zhs r c.p;have hne:∀t (ht:t<r.length),r[t].p≠c.p:=λt ht he=>by have:z1q r c.p=true:=zY36.2 ⟨_,zY1y ht,by simpa using he⟩;rw[this]at hc;cases hc
 unfold z05;rw[zY1a,zY2p];refine⟨List.Pairwise.sublist (List.take_sublist _ _) h,?_,?_⟩
 ·rw[zY2y,zY1h];refine⟨λd hd=>?_,List.Pairwise.sublist (List.drop_sublist _ _) h⟩;obtain⟨t,ht,rfl⟩:=zY23 hd;rw[zY0w]at ht;rw[List.getElem_drop];have:=i2 (zp r c.p+t) zX0 zX0;rcases zra c.p r[zp r c.p+t].p with h|h|h
  ·exact h
  ·exact absurd h.symm (hne _ zX0)
  ·exact absurd h this
 ·intro a ha b hb;obtain⟨t,ht,rfl⟩:=zY23 ha;rw[zY0d]at ht;rw[List.getElem_take];have hat:=i1 t zX0 zX0;rw[zY2y,zY0g]at hb;rcases hb with rfl|hb
  ·exact hat
  ·obtain⟨u,hu,rfl⟩:=zY23 hb;rw[zY0w]at hu;rw[List.getElem_drop];have:=i2 (zp r c.p+u) zX0 zX0;rcases zra r[t].p r[zp r c.p+u].p with h|h|h
   ·exact h
   ·exact absurd (h▸hat) this
   ·exact absurd (z8g h hat) this
structure SpI(l:List Coin)(st:List Coin×List Coin)(k:Nat):Prop where
 sorted:z05 st.1
 len:st.1.length<=l.length
 good:∀c∈st.1,z5d c=0
 cnt:st.2.length=k
 spent:∀c∈st.2,z5d c=0
theorem SpI.cut{l:List Coin}{r s:List Coin}{k:Nat}{c:Coin}{j:Nat}(h:SpI l (r,s) k)(hc:r[j]?=some c):SpI l (r.take j++r.drop (j+1),s++[c]) (k+1):=by
 refine⟨z7d h.sorted j,?_,λd hd=>?_,?_,λd hd=>?_⟩
 ·have:=h.len;simp only[zY04,zY0d,zY0w]at this⊢;omega
 ·rcases zY13.1 hd with hd|hd
  ·exact h.good d (zY2f hd)
  ·exact h.good d (zY2g hd)
 ·have:=h.cnt;simp only[zY04,zY1c]at this⊢;omega
 ·rcases zY13.1 hd with hd|hd
  ·exact h.spent d hd
  ·simp only[zY12]at hd;subst hd;exact h.good d (zY06 hc)
theorem SpI.fee{l:List Coin}{r s:List Coin}{t:Tx}(h:SpI l (r,s) t.ins.length)(ht:TxOK t):z9l (t,s) :=
 ⟨by have:=h.cnt;have:=ht.ins;simp only at *;omega,λc hc=>by have:=z49 (h.spent c hc);omega,by have:=ht.outs;simp only;omega,λo ho=>by have:=ht.good o ho;omega⟩
section
variable {P:Program} {W:World}
theorem zh7{g o t:Nat}{vs cs:List Value}(hg:W.heap[g]?=some (.cells vs.toArray t (0,0)))(hn:o+cs.length<=vs.length)(h1:∀v∈cs,v.oneCell'=true):(storeCells ⟨g,o,none⟩ cs 0).run P W=.ok () (W.setCells g o cs):=by have h:=zja (fr:=(0,0)) hg (o:=o) (n:=cs.length) hn;have:=run_storeCells_cells (P:=P) g o cs 0 W (λj hj=>by rw[zY28];exact(h j hj).1) (λj hj=>by rw[zY28];exact(h j hj).2) h1;simpa using this
theorem z07j{t e ty sz:Nat}{z:Value}(ht:P.underlying t=some (.slice e))(hv:∀w,(zeroValue e).run P w=.ok z w)(hz:z.cells.size=sz)(h1:∀v∈z.cells.toList,v.oneCell'=true){g o n c tt:Nat}{vs:List Value}(hg:W.heap[g]?=some (.cells vs.toArray tt (0,0)))(hn:o+n*sz<=vs.length) :
  (Builtin.clear_ #[t] ty #[.slice (some ⟨g,o,none⟩) n c]).run P W=.ok (.tuple #[]) (W.setCells g o (Builtin.zeroCells z.cells n).toList):=by
 have hzl:(Builtin.zeroCells z.cells n).toList.length=n*sz:=by simp[Builtin.zeroCells,hz]
 cases n with
 |zero =>have:(Builtin.zeroCells z.cells 0).toList=[]:=zY0c (by rw[hzl];simp);rw[this];simp[Builtin.clear_,run_underlying ht,World.setCells]
 |succ n =>
  have hs:=zh7 (P:=P) (cs:=(Builtin.zeroCells z.cells (n+1)).toList) hg (by rw[hzl];exact hn) (λv hv=>by
   rw[Array.mem_toList_iff]at hv;simp only[Builtin.zeroCells,Array.mem_map]at hv;obtain⟨i,hi,rfl⟩:=hv;have hpos:0<z.cells.size:=by
    rcases zY1u z.cells.size with h|h
    ·rw[h]at hi;simp at hi
    ·exact h
   have hlt:i%z.cells.size<z.cells.size:=Nat.mod_lt _ hpos;rw[getElem!_pos z.cells _ hlt];exact h1 _ zX4)
  simp[Builtin.clear_,run_underlying ht,hv,hs]
theorem zi7{t t' e ty sz:Nat}(ht:P.underlying t=some (.slice e))(hsz:(P.info? e).map (·.size)=some sz){g o dLen dCap sLen sCap tt:Nat}{a:Addr}{vs cs:List Value}(hg:W.heap[g]?=some (.cells vs.toArray tt (0,0)))(hl:cs.length=Nat.min sLen dLen*sz)(hsrc:∀j v,cs[j]?=some v->W.cell? (a.add j)=some v)(hn:o+cs.length<=vs.length)(h1:∀v∈cs,v.oneCell'=true) :
  (Builtin.copy_ #[t,t'] ty #[.slice (some ⟨g,o,none⟩) dLen dCap,.slice (some a) sLen sCap]).run P W=.ok (goInt (Nat.min sLen dLen)) (W.setCells g o cs):=by
 have hs:=zh7 (P:=P) hg hn h1;have hlc:=run_loadCells_list (P:=P) W a cs hsrc;cases hq:P.info? e with
 |none=>simp[hq]at hsz
 |some i =>
  have hi:i.size=sz:=by simpa[hq]using hsz
  simp[Builtin.copy_,run_underlying ht,Builtin.lenOf,Builtin.firstCells,sizeOf,typeInfo,hq,hi,<- hl,hlc,hs]
end
theorem z0ar{pre mid post us:List Value}{o:Nat}(ho:o=pre.length)(h:us.length=mid.length):z2c (pre++mid++post) o us=pre++us++post:=by subst ho;exact zn2 us pre mid post h
theorem zah{vs us:List Value}{o:Nat}(h:o+us.length<=vs.length):z2c vs o us=vs.take o++us++vs.drop (o+us.length):=by
 have e:vs=vs.take o++(vs.drop o).take us.length++vs.drop (o+us.length):=by rw[zY1a,<- zY3q,zY10,zY10]
 have h1:o=(vs.take o).length:=by rw[zY0d];omega
 have h2:us.length=((vs.drop o).take us.length).length:=by rw[zY0d,zY0w];omega
 conv=>lhs;rw[e]
 exact z0ar h1 h2
theorem zkj{sz:Nat}:∀ {xs:List (List Dt)},(∀x∈xs,x.length=sz)->xs.flatten.length=xs.length*sz
 | [],_=>by simp
 |x::xs,h=>by rw[zY1q,zY04,h x (zY0i ..),zkj λy hy=>h y (zY0h _ hy),zY08,zY21,Nat.add_comm]
theorem zi8{sz:Nat}:∀ {xs:List (List Dt)} (i:Nat),(∀x∈xs,x.length=sz)->(xs.take i).flatten=xs.flatten.take (i*sz)
 | [],i,_=>by simp
 |x::xs,0,_=>by simp
 |x::xs,i+1,h=>by have hx:=h x (zY0i ..);rw[zY35,zY1q,zY1q,zi8 i λy hy=>h y (zY0h _ hy),List.take_append,hx,zY0v (show x.length<=(i+1)*sz by rw[hx,zY21];omega),zY21,zY30]
theorem zq3{sz:Nat}{xs:List (List Dt)}(i:Nat)(h:∀x∈xs,x.length=sz):(xs.drop i).flatten=xs.flatten.drop (i*sz):=by
 have e:xs.flatten=(xs.take i).flatten++(xs.drop i).flatten:=by rw[<- zY2s,zY10]
 by_cases hi:i<=xs.length
 ·have h1:(xs.take i).flatten.length=i*sz:=by rw[zkj λy hy=>h y (zY2f hy),zY0d,zY2b hi]
  rw[e,<- h1,List.drop_left]
 ·rw[zY2a zX0,zY2a]
  ·rfl
  ·rw[zkj h];exact zY1s _ zX0
section
variable {P:Program}
theorem z07k{α:Type}[Enc α]{f e sz:Nat}(hn:Enc.n α=sz)(hpos:0<sz)(hen:En P f)(zc:Array Value)(hzc:zc.size=sz)
  (h0:∀(W:World) (A:Option Addr) (n cap i:Nat),i<=n->n<=cap->cap<=maxLen->Calls P f #[.slice A n cap,.int .i64 i,.int .i64 i] W λr W'=>r=.returned (.slice A n cap)/\W'=W)
  (hw:∀(W:World) (g n cap i j:Nat) (vs:List Value),W.heap[g]?=some (.cells vs.toArray e (0,0))->n<=cap->cap<=maxLen->vs.length=cap*sz->(∀u∈vs.take (n*sz),u.oneCell'=true)->i<j->j<=n ->
   Calls P f #[.slice (some ⟨g,0,none⟩) n cap,.int .i64 i,.int .i64 j] W λr W'=>r=.returned (.slice (some ⟨g,0,none⟩) (n-(j-i)) cap)/\W'=((W.drewN 1).setCells g (i*sz) ((vs.take (n*sz)).drop (j*sz))).setCells g ((i+(n-j))*sz) (Builtin.zeroCells zc (j-i)).toList) :
  Meets P (spD (λx:List α×Int×Int=>0<=x.2.1/\x.2.1<=x.2.2/\x.2.2<=x.1.length) λx=>x.1.take x.2.1.toNat++x.1.drop x.2.2.toNat) f ⟨[.mine e sz,.one,.one],[(false,[.fresh e sz])],false⟩:=by
 refine⟨λh=>zX1l,?_⟩;intro e' sz' ps hps;injection hps with h1 h2;injection h1 with h1 h1';subst h1;subst h1';subst h2;intro W F base v xs cells ds args rs hF hbase hvF hxs hown hreps hargs hsp;obtain⟨⟨l,i,j⟩,⟨hi0,hij,hjl⟩,he,rfl⟩:=zh hsp;have he':Dt.l sz xs::ds=Dt.l (Enc.n α) (l.map Enc.e)::[I i,I j]:=he;injection he' with g1 g2;injection g1 with g3 g1;subst g2;subst g1;simp only at hi0 hij hjl;obtain⟨va,vas,rfl,ha,hargs⟩:=z1c hargs;obtain⟨vb,vbs,rfl,hb,hargs⟩:=z1c hargs;obtain rfl:=z1y hargs;obtain⟨rfl,_⟩:=z3n ha;obtain⟨rfl,_⟩:=z3n hb;obtain⟨a,rfl⟩:∃a:Nat,i=a:=⟨i.toNat,by omega⟩
 obtain⟨b,rfl⟩:∃b:Nat,j=b:=⟨j.toNat,by omega⟩
 have hlen:(l.map Enc.e).length=l.length:=zY0y _;rw[hlen]at hown;refine⟨(l.take a++l.drop b).map Enc.e,?_,λx hx=>hxs x ?_,?_⟩
 ·show[Dt.l (Enc.n α) _]=_;rw[hn];rfl
 ·rw[zY24,zY3y,List.map_drop]at hx;rcases zY13.1 hx with hx|hx
  ·exact zY2f hx
  ·exact zY2g hx
 by_cases hab:a=b
 ·subst hab;have hsame:l.take a++l.drop a=l:=zY10 ..;simp only[zY1d,hsame];have hv:∃A cap,v=.slice A l.length cap/\l.length<=cap/\cap<=maxLen:=by
   rcases hown.2 with⟨rfl,h0⟩|⟨g,cap,cur,rfl,_,_,h1,h2,_⟩
   ·exact⟨none,0,by rw[h0],by omega,by unfold maxLen;omega⟩
   ·exact⟨_,cap,rfl,h1,h2⟩
  obtain⟨A,cap,rfl,h1,h2⟩:=hv;refine .inl ⟨hen.run _ _,(h0 W A l.length cap a zX0 h1 h2).mono ?_⟩;rintro r W' ⟨rfl,rfl⟩;exact⟨_,rfl,_,cells,⟨λh=>zX1l,λ_=>rfl⟩,World.grownBy.refl _ _,by rw[hlen];exact hown,hreps,λ_ h=>.inl h⟩
 ·rcases hown.2 with⟨rfl,h0⟩|⟨g,cap,cur,rfl,hbg,hg,h1,h2,hcs,htk⟩
  ·omega
  ·have hkeep:=hown;have hml:cells.length=l.length*sz:=hown.1;have hcs':cur.toList.length=cap*sz:=by simpa using hcs
   have hones:∀u∈cur.toList.take (l.length*sz),u.oneCell'=true:=by rw[htk];exact hreps.one
   refine .inl ⟨hen.run _ _,(hw W g l.length cap a b cur.toList (by simpa using hg) h1 h2 hcs' hones zX0 zX0).mono ?_⟩;rintro r W' ⟨rfl,rfl⟩;have hgF:¬F g:=hvF g rfl;generalize hW1:(W.drewN 1).setCells g (a*sz) ((cur.toList.take (l.length*sz)).drop (b*sz))=W1;have hg0:(W.drewN 1).heap[g]?=some (.cells cur.toList.toArray e (0,0)):=by simpa using hg
   have hnl:((cur.toList.take (l.length*sz)).drop (b*sz)).length=(l.length-b)*sz:=by rw[htk,zY0w,hml,Nat.sub_mul]
   have hzl:(Builtin.zeroCells zc (b-a)).toList.length=(b-a)*sz:=by simp[Builtin.zeroCells,hzc]
   have hg1:=z2k ((cur.toList.take (l.length*sz)).drop (b*sz)) (a*sz) (W.drewN 1) cur.toList hg0;rw[hW1]at hg1;have hg2:=z2k (Builtin.zeroCells zc (b-a)).toList ((a+(l.length-b))*sz) W1 _ hg1;have hmul1:a*sz+(l.length-b)*sz=(a+(l.length-b))*sz:=(Nat.add_mul ..).symm;have hle1:(a+(l.length-b))*sz<=cap*sz:=zY1s _ zX0;have hle2:(a+(l.length-b))*sz+(b-a)*sz<=cap*sz:=by rw[<- Nat.add_mul];exact zY1s _ zX0
   have hle3:a*sz<=l.length*sz:=zY1s _ zX0;have hle4:l.length*sz<=cap*sz:=zY1s _ h1;have hfar:∀k,k≠g->(W1.setCells g ((a+(l.length-b))*sz) (Builtin.zeroCells zc (b-a)).toList).heap[k]?=W.heap[k]?:=by intro k hk;rw[z2t g _ _ _ k hk,<- hW1,z2t g _ _ _ k hk];rfl
   refine⟨_,rfl,_,cells.take (a*sz)++cells.drop (b*sz),⟨λh=>zX1l,λ_=>rfl⟩,?_,?_,?_,λ_ h=>.inl h⟩
   ·obtain⟨k1,k2,k3,k4⟩:=z4d g (Builtin.zeroCells zc (b-a)).toList ((a+(l.length-b))*sz) W1;obtain⟨q1,q2,q3,q4⟩:=z4d g ((cur.toList.take (l.length*sz)).drop (b*sz)) (a*sz) (W.drewN 1);rw[hW1]at q1 q2 q3 q4;refine⟨k1.trans q1,k2.trans q2,k3.trans q3,?_,λk hk hne=>hfar k λh=>hne (by rw[h];rfl)⟩;rw[k4,q4];exact zY0k _
   ·have hl2:((l.take a++l.drop b).map (Enc.e (α:=α))).length=a+(l.length-b):=by rw[zY0y,zY04,zY0d,zY0w];omega
    rw[hl2];refine⟨?_,.inr ⟨g,cap,_,by rw[show l.length-(b-a)=a+(l.length-b)by omega],hbg,hg2,by omega,h2,?_,?_⟩⟩
    ·rw[zY04,zY0d,zY0w,hml,zY2b hle3,<- Nat.sub_mul,hmul1]
    ·rw[zY2n,z2g,z2g];exact hcs'
    ·rw[zY34,zah (by rw[z2g,hzl];omega),zY1a,zY1o (by rw[zY0d,z2g];omega),zY3b,Nat.min_self,zah (by rw[hnl];omega),zY1o (by rw[zY04,zY0d,hnl];omega),zY0v (by rw[zY04,zY0d,hnl];omega),htk];congr 1;rw[<- htk,zY3b,zY2b hle3]
   ·rw[zY24,zY3y,List.map_drop,zY2s,zi8 a hxs,zq3 b hxs];have hag:Agree F W (W1.setCells g ((a+(l.length-b))*sz) (Builtin.zeroCells zc (b-a)).toList):=λk hk=>hfar k λh=>hgF (h▸hk);exact((hreps.take (a*sz)).append (hreps.drop (b*sz))).mono hag (λ_ h=>h)
theorem zxw{tS tR e sz:Nat}{W:World}(ht:P.underlying tS=some (.slice e))(hz:∀w,(sizeOf e).run P w = .ok sz w){g o b off la ca lb cb t:Nat}{vs:List Value}(hg:W.heap[g]?=some (.cells vs.toArray t (0,0)))(hvs:0<vs.length)(hne:b≠g){u:Value}(hb:W.cell? ⟨b,off,none⟩=some u) :
  (Extern.SlicesOverlaps.overlaps #[tS,tS] #[tR] #[.slice (some ⟨b,off,none⟩) la ca,.slice (some ⟨g,o,none⟩) lb cb]).run P W = .ok (.bool false) W:=by
 have hnb:(b != g)=true:=by simpa using hne
 have hnb':(b==g)=false:=by simpa using hne
 obtain⟨arr,tb,fr,hbh,hsz⟩:∃arr tb fr,W.heap[b]?=some (.cells arr tb fr)/\0<arr.size:=by
  unfold World.cell? at hb;split at hb
  ·rename_i arr tb fr h;simp at hb;obtain⟨hlt,_⟩:=zY15.1 hb;exact⟨arr,tb,fr,h,by omega⟩
  ·cases hb
 have hsa:W.shape? b=some (tb,arr.size):=by simp[World.shape?,hbh]
 have hsb:W.shape? g=some (t,vs.length):=by simp[World.shape?,hg]
 have hfg:∀k,W.frozen? ⟨g,k,none⟩=false:=λk=>by simp[World.frozen?,hg]
 obtain⟨n1,hn1⟩:∃n,arr.size=n+1:=⟨arr.size-1,by omega⟩
 obtain⟨n2,hn2⟩:∃n,vs.length=n+1:=⟨vs.length-1,by omega⟩
 rw[hn1]at hsa;rw[hn2]at hsb;change Sem.run P (α:=Value) (do
  let some t:=(#[tS,tS]:Array TypeId)[0]? | stuck "slices.overlaps: no parameter types"
  let .slice elem <- underlying t|stuck "slices.overlaps: slice type expected"
  let size <- sizeOf elem
  match(some ⟨b,off,none⟩:Option Addr),(some ⟨g,o,none⟩:Option Addr)with
  |some a,some b =>
   if la=0\/lb=0\/size=0 then pure (Value.bool false)
   else if a.block != b.block&&(<- frozen a)&&(<- frozen b)then unsupported .addressObserved
   else do
    if a.block != b.block then do
     noView a;noView b
     if <- mayBeOne a b then return Value.bool ((<- choose (.extern "sameAddr.stringBytes" 2))==1)
    pure (Value.bool (a.block==b.block&&a.off<b.off+lb*size&&b.off<a.off+la*size))
  |_,_=>pure (Value.bool false)) W=_
 by_cases h0:la=0\/lb=0\/sz=0
 ·simp[run_underlying ht,hz,h0]
 ·cases hf1:W.frozen? ⟨b,off,none⟩<;>cases hf2:W.frozen? ⟨b,n1+1,none⟩ <;>
   simp[run_underlying ht,hz,h0,hnb,hnb',frozen,noView,viewAt,mayBeOne,stringish,shape,Sem.run,hsa,hsb,hfg,hf1,hf2]
theorem zme{W:World}{b k:Nat}{v:Value}(o:Obj)(h:W.cell? ⟨b,k,none⟩=some v):(W.alloc o).cell? ⟨b,k,none⟩=some v:=by
 have hlt:b<W.heap.size:=by
  rcases zY1w b W.heap.size with h'|h'
  ·exact h'
  ·simp[World.cell?,zY18 h']at h
 rw[<- h];simp only[World.cell?,World.alloc,zY3r,Nat.ne_of_lt hlt,if_false]
theorem z07l{W:World}{g o b k:Nat}{us:List Value}(h:b≠g):(W.setCells g o us).cell? ⟨b,k,none⟩=W.cell? ⟨b,k,none⟩:=by simp only[World.cell?,z2t g us o W b h]
theorem z07m{W:World}{o:Oper}{a:Act}{K:Act->World->Prop}{Q:Exit->Act->World->Prop}(d s:Operand)(t t':TypeId)
  (ho:o.op=.call { callee:=.builtin .copy,args:=#[d,s],argTypes:=#[t,t'] }) (v u:Value) (hd:a.eval d=v) (hs:a.eval s=u) {v':Value} {w':World}
  (hr:(Builtin.copy_ #[t,t'] o.type #[v,u]).run P W=.ok v' w') (h:K (a.put o.dst v') w'):o.wp P a W K Q:=by
 unfold Oper.wp execOp;simp only[ho,resolve,invoke,builtin,Sem.run_bind,Sem.run_pure,Result.andThen_ok,zY3f,zY1n,zY2o,hd,hs,hr];exact h
theorem zuw{W:World}{ops:Array Oper}{rest:List Oper}{o:Oper}{a:Act}{Q:Exit->Act->World->Prop}(hgd:o.guard=none)(d s:Operand)(t t':TypeId)
  (ho:o.op=.call { callee:=.builtin .copy,args:=#[d,s],argTypes:=#[t,t'] }) (v u:Value) (hd:a.eval d=v) (hs:a.eval s=u) {v':Value} {w':World}
  (hr:(Builtin.copy_ #[t,t'] o.type #[v,u]).run P W=.ok v' w') (h:wpList P ops Q rest (a.put o.dst v') w'):wpList P ops Q (o::rest) a W :=
 wpList_plain hgd λ_ hK=>z07m d s t t' ho v u hd hs hr (hK _ _ h)
theorem zmf{ops:Array Oper}{o:Oper}{a:Act}{W:World}{K:Act->World->Prop}{Q:Exit->Act->World->Prop}{E:Prop}
  (hg:o.guard=none) (d x:Operand) (dT sT:TypeId) (hop:o.op=Op.call { callee:=Callee.builtin Builtin.copy,args:=#[d,x],argTypes:=#[dT,sT] })
  (v u:Value) (hd:a.eval d=v) (hx:a.eval x=u) {v':Value} {w':World} (hr:(Builtin.copy_ #[dT,sT] o.type #[v,u]).run P W=.ok v' w') (hK:K (a.put o.dst v') w') :
  if Region.wanted o (yielded ops a.tmps)=true then Oper.wp P o a W K Q else E:=by
 have hw:Region.wanted o (yielded ops a.tmps)=true:=by simp[Region.wanted,hg]
 rw[zP hw];unfold Oper.wp;simp[execOp,hop,resolve,invoke,builtin,hd,hx,hr,Result.andThen];exact hK
theorem z07n{α:Type}[Enc α]{f e sz:Nat}(hn:Enc.n α=sz)(hpos:0<sz)(hen:En P f)
  (hroom:∀(W:World) (g n cap i b off c:Nat) (vs cs:List Value),W.heap[g]?=some (.cells vs.toArray e (0,0))->n<cap->cap<=maxLen->vs.length=cap*sz->(∀u∈vs.take (n*sz),u.oneCell'=true)->i<n->b≠g->cs.length=sz->(∀j v,cs[j]?=some v->W.cell? ⟨b,off+j,none⟩=some v)->(∀v∈cs,v.oneCell'=true) ->
   Calls P f #[.slice (some ⟨g,0,none⟩) n cap,.int .i64 i,.slice (some ⟨b,off,none⟩) 1 c] W λr W'=>r=.returned (.slice (some ⟨g,0,none⟩) (n+1) cap)/\W'=((W.drewN 1).setCells g ((i+1)*sz) ((vs.take (n*sz)).drop (i*sz))).setCells g (i*sz) cs)
  (hend:∀(W:World) (base:Nat) (v:Value) (n b off c:Nat) (olds cs:List Value),W.ownsRow base e sz v n olds->base<=W.heap.size->n<=1000000->cs.length=sz->(∀j v,cs[j]?=some v->W.cell? ⟨b,off+j,none⟩=some v)->(∀v∈cs,v.oneCell'=true) ->
   Calls P f #[v,.int .i64 n,.slice (some ⟨b,off,none⟩) 1 c] W λr W'=>∃v',r=.returned v'/\W'.ownsRow base e sz v' (n+1) (olds++cs)/\W.grownBy W' v.ownBlock/\(v'.ownBlock=v.ownBlock\/v'.ownBlock=some W.heap.size))
  (hgrow:∀(W:World) (g n cap i b off c:Nat) (vs cs:List Value),W.heap[g]?=some (.cells vs.toArray e (0,0))->n=cap->n<=1000000->vs.length=cap*sz->(∀u∈vs.take (n*sz),u.oneCell'=true)->i<n->cs.length=sz->(∀j v,cs[j]?=some v->W.cell? ⟨b,off+j,none⟩=some v)->(∀v∈cs,v.oneCell'=true) ->
   Calls P f #[.slice (some ⟨g,0,none⟩) n cap,.int .i64 i,.slice (some ⟨b,off,none⟩) 1 c] W λr W'=>∃G,∃row:List Value,n+1<=G/\G<=maxLen/\row.length=G*sz/\r=.returned (.slice (some ⟨W.heap.size,0,none⟩) (n+1) G)/\(∀u∈row.take (i*sz),u.oneCell'=true)/\row.take (i*sz)=vs.take (i*sz) /\
    W'=(((W.alloc (.cells row.toArray e)).drew.setCells W.heap.size (i*sz) cs).drew).setCells W.heap.size ((i+1)*sz) ((vs.take (n*sz)).drop (i*sz))) :
  Meets P (spD (λx:List α×Int×List α=>0<=x.2.1/\x.2.1<=x.1.length/\x.1.length<=1000000/\x.2.2.length=1) λx=>x.1.take x.2.1.toNat++x.2.2++x.1.drop x.2.1.toNat) f ⟨[.mine e sz,.one,.one],[(false,[.fresh e sz])],false⟩:=by
 refine⟨λh=>zX1l,?_⟩;intro e' sz' ps hps;injection hps with h1 h2;injection h1 with h1 h1';subst h1;subst h1';subst h2;intro W F base v xs cells ds args rs hF hbase hvF hxs hown hreps hargs hsp;obtain⟨⟨l,i,ys⟩,⟨hi0,hil,hlm,hy1⟩,he,rfl⟩:=zh hsp;have he':Dt.l sz xs::ds=Dt.l (Enc.n α) (l.map Enc.e)::[I i,.l (Enc.n α) (ys.map Enc.e)]:=he;injection he' with g1 g2;injection g1 with g3 g1;subst g2;subst g1;simp only at hi0 hil hlm hy1;obtain⟨y,rfl⟩:=List.length_eq_one_iff.1 hy1;obtain⟨va,vas,rfl,ha,hargs⟩:=z1c hargs;obtain⟨vb,vbs,rfl,hb,hargs⟩:=z1c hargs;obtain rfl:=z1y hargs;obtain⟨rfl,_⟩:=z3n ha;obtain⟨a,rfl⟩:∃a:Nat,i=a:=⟨i.toNat,by omega⟩
 have hlen:(l.map Enc.e).length=l.length:=zY0y _;have hyl:(Enc.e y).length=sz:=by rw[Enc.len,hn]
 rw[hlen]at hown;have hml:cells.length=l.length*sz:=hown.1;obtain⟨b,off,c,cs,rfl,hFb,hcl,hcell,hcr⟩:∃b off c,∃cs:List Value,vb=.slice (some ⟨b,off,none⟩) 1 c/\F b/\cs.length=sz/\(∀j v,cs[j]?=some v->W.cell? ⟨b,off+j,none⟩=some v)/\Reps W F (Enc.e y) cs:=by
  generalize hd:Dt.l (Enc.n α) ([y].map Enc.e)=d at hb;cases hb with
  |l sz0 zs A n c b o vs k0 k1 k2 k3 k4 k5 k6 =>
   injection hd with e1 e2;subst e2;obtain⟨rfl,hFb⟩:=k4 zX4;refine⟨b,o,c,(List.range sz).map (vs 0),by rw[k0];rfl,hFb,by simp,λj v hv=>?_,Reps.of (by simp[hyl]) λj d v hd hv=>?_⟩
   ·obtain⟨hj,rfl⟩:=z37 hv;have h:=k5 0 j (Enc.e y) _ rfl (zY03 zX0)
    rwa [zY3s,zY28]at h
   ·obtain⟨hj,rfl⟩:=z37 hv;exact k6 0 j (Enc.e y) d rfl hd
  |_=>cases hd
 have hc1:∀v∈cs,v.oneCell'=true:=hcr.one;refine⟨(l.take a++[y]++l.drop a).map Enc.e,?_,λx hx=>?_,?_⟩
 ·show[Dt.l (Enc.n α) _]=_;rw[hn];rfl
 ·obtain⟨z,_,rfl⟩:=zY2k.1 hx;rw[Enc.len,hn]
 have hl2:((l.take a++[y]++l.drop a).map (Enc.e (α:=α))).length=l.length+1:=by rw[zY0y,zY04,zY04,zY0d,zY0w,zY1c];omega
 have hflat:((l.take a++[y]++l.drop a).map (Enc.e (α:=α))).flatten=(l.map Enc.e).flatten.take (a*sz)++Enc.e y++(l.map Enc.e).flatten.drop (a*sz):=by rw[zY24,zY24,zY3y,List.map_drop,zY2s,zY2s,zi8 a hxs,zq3 a hxs];simp
 rw[hl2,hflat];have hle3:a*sz<=l.length*sz:=zY1s _ zX0;have hnew:∀ {W':World},Agree F W W'->Reps W' F ((l.map Enc.e).flatten.take (a*sz)++Enc.e y++(l.map Enc.e).flatten.drop (a*sz)) (cells.take (a*sz)++cs++cells.drop (a*sz)):=λhag=>(((hreps.take (a*sz)).append hcr).append (hreps.drop (a*sz))).mono hag (λ_ h=>h);have hnl:(cells.take (a*sz)++cs++cells.drop (a*sz)).length=(l.length+1)*sz:=by rw[zY04,zY04,zY0d,zY0w,hcl,hml,zY2b hle3,zY21];omega
 by_cases hend':a=l.length
 ·subst hend';refine .inl ⟨hen.run _ _,(hend W base v l.length b off c cells cs hown hbase zX0 hcl hcell hc1).mono ?_⟩;rintro r W' ⟨v',rfl,q1,q2,q3⟩;have hag:Agree F W W':=λk hk=>q2.block k (hF.1 k hk) λh=>hvF k h.symm hk;refine⟨_,rfl,v',_,⟨λh=>zX1l,λ_=>rfl⟩,q2,?_,hnew hag,λk hk=>?_⟩
  ·rw[zY0v zX0,zY2a zX0,zY1b];exact q1
  ·rcases q3 with q3|q3
   ·exact .inl (q3▸hk)
   ·rw[q3]at hk;injection hk with hk;exact .inr (Nat.le_of_eq hk)
 ·rcases hown.2 with⟨rfl,h0⟩|⟨g,cap,cur,rfl,hbg,hg,h1,h2,hcs,htk⟩
  ·omega
  ·have hcs':cur.toList.length=cap*sz:=by simpa using hcs
   have hones:∀u∈cur.toList.take (l.length*sz),u.oneCell'=true:=by rw[htk];exact hreps.one
   have hgF:¬F g:=hvF g rfl;have hbg':b≠g:=λh=>hgF (h▸hFb);have hg':W.heap[g]?=some (.cells cur.toList.toArray e (0,0)):=by simpa using hg
   have hal:a<l.length:=zX0;have hmvl:((cur.toList.take (l.length*sz)).drop (a*sz)).length=(l.length-a)*sz:=by rw[htk,zY0w,hml,Nat.sub_mul]
   have e1:(a+1)*sz=a*sz+sz:=zY21 ..;have e2:(a+1)*sz+(l.length-a)*sz=(l.length+1)*sz:=by rw[<- Nat.add_mul];congr 1;omega
   have hsplit:∀vs':List Value,(l.length+1)*sz<=vs'.length->vs'.take (a*sz)=cells.take (a*sz)->(z2c (z2c vs' ((a+1)*sz) ((cur.toList.take (l.length*sz)).drop (a*sz))) (a*sz) cs).take ((l.length+1)*sz)=cells.take (a*sz)++cs++cells.drop (a*sz):=by
    intro vs' hl' ht';have k1:a*sz+cs.length<=(z2c vs' ((a+1)*sz) ((cur.toList.take (l.length*sz)).drop (a*sz))).length:=by rw[z2g];omega
    rw[zah k1,zah (by rw[hmvl];omega),hcl,hmvl,e2,htk];have k2:(vs'.take ((a+1)*sz)++cells.drop (a*sz)++vs'.drop ((l.length+1)*sz)).take (a*sz)=cells.take (a*sz):=by rw[zY1a,zY1o zXv,zY3b,zY2b zX0,ht']
    have k3:(vs'.take ((a+1)*sz)++cells.drop (a*sz)++vs'.drop ((l.length+1)*sz)).drop (a*sz+sz)=cells.drop (a*sz)++vs'.drop ((l.length+1)*sz):=by rw[zY1a,List.drop_append,zY2a zXv,zY0d,zY2b zX0,e1,Nat.sub_self,zY16,zY3h]
    rw[k2,k3,<- zY1a,zY1o (by rw[hnl];omega),zY0v (by rw[hnl];omega)]
   rcases zY1w l.length cap with hr|hr
   ·have hcapm:(l.length+1)*sz<=cap*sz:=zY1s _ hr;refine .inl ⟨hen.run _ _,(hroom W g l.length cap a b off c cur.toList cs hg' hr h2 hcs' hones hal hbg' hcl hcell hc1).mono ?_⟩;rintro r W' ⟨rfl,rfl⟩;have hfar:∀k,k≠g->(((W.drewN 1).setCells g ((a+1)*sz) ((cur.toList.take (l.length*sz)).drop (a*sz))).setCells g (a*sz) cs).heap[k]?=W.heap[k]?:=by intro k hk;rw[z2t g _ _ _ k hk,z2t g _ _ _ k hk];rfl
    have hag:Agree F W (((W.drewN 1).setCells g ((a+1)*sz) ((cur.toList.take (l.length*sz)).drop (a*sz))).setCells g (a*sz) cs):=λk hk=>hfar k λh=>hgF (h▸hk);refine⟨_,rfl,_,_,⟨λh=>zX1l,λ_=>rfl⟩,?_,⟨hnl,.inr ⟨g,cap,_,rfl,hbg,z2k cs (a*sz) _ _ (z2k _ ((a+1)*sz) (W.drewN 1) _ hg'),hr,h2,by rw[zY2n,z2g,z2g];exact hcs',?_⟩⟩,hnew hag,λ_ h=>.inl h⟩
    ·obtain⟨k1,k2,k3,k4⟩:=z4d g cs (a*sz) ((W.drewN 1).setCells g ((a+1)*sz) ((cur.toList.take (l.length*sz)).drop (a*sz)));obtain⟨q1,q2,q3,q4⟩:=z4d g ((cur.toList.take (l.length*sz)).drop (a*sz)) ((a+1)*sz) (W.drewN 1);exact⟨k1.trans q1,k2.trans q2,k3.trans q3,by rw[k4,q4];exact zY0k _,λk hk hne=>hfar k λh=>hne (by rw[h];rfl)⟩
    ·rw[zY34];refine hsplit _ zX0 ?_;rw[<- htk,zY3b,zY2b hle3]
   ·have hcap:l.length=cap:=zX0;refine .inl ⟨hen.run _ _,(hgrow W g l.length cap a b off c cur.toList cs hg' hcap zX0 hcs' hones hal hcl hcell hc1).mono ?_⟩;rintro r W' ⟨G,row,r1,r2,r3,rfl,r4,r5,rfl⟩;have hGm:(l.length+1)*sz<=G*sz:=zY1s _ r1;generalize hW0:(W.alloc (.cells row.toArray e)).drew=W0;have hs0:W0.heap.size=W.heap.size+1:=by rw[<- hW0];show(W.heap.push _).size=_;simp
    have hn0:W0.heap[W.heap.size]?=some (.cells row.toArray e (0,0)):=by rw[<- hW0];exact heap_alloc_new W _
    have ho0:∀k,k<W.heap.size->W0.heap[k]?=W.heap[k]?:=λk hk=>by rw[<- hW0];show(W.alloc (.cells row.toArray e)).heap[k]?=_;simp only[World.alloc,zY3r,Nat.ne_of_lt hk,if_false]
    have hfar:∀k,k<W.heap.size->(((W0.setCells W.heap.size (a*sz) cs).drew).setCells W.heap.size ((a+1)*sz) ((cur.toList.take (l.length*sz)).drop (a*sz))).heap[k]?=W.heap[k]?:=by intro k hk;rw[z2t _ _ _ _ k zX0];show(W0.setCells W.heap.size (a*sz) cs).heap[k]?=_;rw[z2t _ _ _ _ k zX0,ho0 k hk]
    obtain⟨z1,z2,z3⟩:W0.os=W.os/\W0.tape=W.tape/\W0.output=W.output:=by rw[<- hW0];exact⟨rfl,rfl,rfl⟩
    have hag:Agree F W (((W0.setCells W.heap.size (a*sz) cs).drew).setCells W.heap.size ((a+1)*sz) ((cur.toList.take (l.length*sz)).drop (a*sz))):=λk hk=>hfar k (hF.1 k hk);have hheap:=z2k ((cur.toList.take (l.length*sz)).drop (a*sz)) ((a+1)*sz) ((W0.setCells W.heap.size (a*sz) cs).drew) _ (z2k cs (a*sz) W0 _ hn0);refine⟨_,rfl,_,_,⟨λh=>zX1l,λ_=>rfl⟩,?_,⟨hnl,.inr ⟨W.heap.size,G,_,rfl,hbase,hheap,r1,r2,by rw[zY2n,z2g,z2g];exact r3,?_⟩⟩,hnew hag,λk hk=>?_⟩
    ·obtain⟨k1,k2,k3,k4⟩:=z4d W.heap.size ((cur.toList.take (l.length*sz)).drop (a*sz)) ((a+1)*sz) ((W0.setCells W.heap.size (a*sz) cs).drew);obtain⟨q1,q2,q3,q4⟩:=z4d W.heap.size cs (a*sz) W0;refine⟨k1.trans (q1.trans z1),k2.trans (q2.trans z2),k3.trans (q3.trans z3),?_,λk hk hne=>hfar k hk⟩;rw[k4];show W.heap.size<=(W0.setCells W.heap.size (a*sz) cs).heap.size;rw[q4,hs0];omega
    ·rw[zY34];have hswap:z2c (z2c row (a*sz) cs) ((a+1)*sz) ((cur.toList.take (l.length*sz)).drop (a*sz))=z2c (z2c row ((a+1)*sz) ((cur.toList.take (l.length*sz)).drop (a*sz))) (a*sz) cs:=by
      have hL:a*sz+cs.length<=row.length:=zX0;have hR:(a+1)*sz+((cur.toList.take (l.length*sz)).drop (a*sz)).length<=row.length:=by rw[hmvl];omega
      rw[zah (vs:=z2c row (a*sz) cs) (by rw[z2g];exact hR),zah hL,zah (vs:=z2c row ((a+1)*sz) _) (by rw[z2g];exact hL),zah hR];have t1:(row.take (a*sz)++cs++row.drop (a*sz+cs.length)).take ((a+1)*sz)=row.take (a*sz)++cs:=by rw[zY1o (by rw[zY04,zY0d];omega),zY0v (by rw[zY04,zY0d];omega)]
      have t2:(row.take (a*sz)++cs++row.drop (a*sz+cs.length)).drop ((a+1)*sz+((cur.toList.take (l.length*sz)).drop (a*sz)).length)=row.drop ((a+1)*sz+((cur.toList.take (l.length*sz)).drop (a*sz)).length):=by rw[List.drop_append,zY2a (by rw[zY04,zY0d];omega),zY16,zY3q];congr 1;rw[zY04,zY0d];omega
      have t3:(row.take ((a+1)*sz)++((cur.toList.take (l.length*sz)).drop (a*sz))++row.drop ((a+1)*sz+((cur.toList.take (l.length*sz)).drop (a*sz)).length)).take (a*sz)=row.take (a*sz):=by rw[zY1a,zY1o zXv,zY3b,zY2b zX0]
      have t4:(row.take ((a+1)*sz)++((cur.toList.take (l.length*sz)).drop (a*sz))++row.drop ((a+1)*sz+((cur.toList.take (l.length*sz)).drop (a*sz)).length)).drop (a*sz+cs.length)=((cur.toList.take (l.length*sz)).drop (a*sz))++row.drop ((a+1)*sz+((cur.toList.take (l.length*sz)).drop (a*sz)).length):=by rw[zY1a,List.drop_append,zY2a zXv,zY16,zY0d,zY2b zX0,hcl,e1,Nat.sub_self,zY3h]
      rw[t1,t2,t3,t4,zY1a,zY1a]
     rw[hswap];refine hsplit _ zX0 ?_;rw[r5,<- htk,zY3b,zY2b hle3]
    ·simp only[Value.ownBlock,zY00]at hk;exact .inr (Nat.le_of_eq hk)
end
theorem z0as{W:World}{g n cap i j:Nat}{vs:List Value}(hg:W.heap[g]?=some (.cells vs.toArray 84 (0,0)))(hn:n<=cap)(hm:cap<=maxLen)(hcs:vs.length=cap*6)(h1:∀u∈vs.take (n*6),u.oneCell'=true)(hij:i<j)(hj:j<=n) :
  Calls Tryz.prog 71 #[.slice (some ⟨g,0,none⟩) n cap,.int .i64 i,.int .i64 j] W λe w'=>e=.returned (.slice (some ⟨g,0,none⟩) (n-(j-i)) cap) /\
   w'=((W.drewN 1).setCells g (i*6) ((vs.take (n*6)).drop (j*6))).setCells g ((i+(n-j))*6) (Builtin.zeroCells #[.int .i64 0,.int .i64 0,.int .i64 0,.slice none 0 0,.int .i64 0,.bool false] (j-i)).toList:=by
 have hm':cap<=9223372036854775807:=hm;obtain⟨news,hnews⟩:∃news,news=(vs.take (n*6)).drop (j*6):=⟨_,rfl⟩
 have hlen:news.length=(n-j)*6:=by rw[hnews,zY0w,zY0d];omega
 have hg1:W.drew.heap[g]?=some (.cells vs.toArray 84 (0,0)):=hg;obtain⟨A,hA,hsrc⟩:∃A:Addr,(if cap=j then some (⟨g,0,none⟩:Addr)else some ⟨g,j*6,none⟩)=some A/\Hid (∀t u,news[t]?=some u->W.drew.cell? (A.add t)=some u):=by
  by_cases h:cap=j
  ·refine⟨⟨g,0,none⟩,by simp[h],λt u hu=>?_⟩;have:=(zY02.1 hu).1;omega
  ·refine⟨⟨g,j*6,none⟩,by simp[h],λt u hu=>?_⟩;have ht:=(zY02.1 hu).1;rw[hnews,zY1p,zY17,zP zX0]at hu;rw[zau,cell_of_row _ g _ _ 84 (0,0) hg1];simpa using hu
 have s1:Hid (news.length=(n-j)*6):=hlen;have s2:Hid (∀u∈news,u.oneCell'=true):=by intro u hu;rw[hnews]at hu;exact h1 u (zY2g hu)
 have s3:Hid (∀t,t<news.length->(W.drew.cell? ⟨g,0+i*6+t,none⟩).isSome=true/\W.drew.frozen? ⟨g,0+i*6+t,none⟩=false):=by intro t ht;have:=zja (fr:=(0,0)) hg1 (o:=0+i*6) (n:=news.length) zX0;exact this t ht
 obtain⟨W1,hW1⟩:∃W1,W1=W.drew.setCells g (0+i*6) news:=⟨_,rfl⟩
 have hg2:W1.heap[g]?=some (.cells (z2c vs (0+i*6) news).toArray 84 (0,0)):=by rw[hW1];exact z2k _ _ _ _ hg1
 have hcl:∀ty,(Builtin.clear_ #[29] ty #[.slice (some ⟨g,(i+(n-j))*6,none⟩) (n-(i+(n-j))) (cap-(i+(n-j)))]).run Tryz.prog W1=.ok (.tuple #[]) (W1.setCells g ((i+(n-j))*6) (Builtin.zeroCells #[.int .i64 0,.int .i64 0,.int .i64 0,.slice none 0 0,.int .i64 0,.bool false] (n-(i+(n-j)))).toList) :=
  λty=>z07j (sz:=6) Tryz.underlying29 Tryz.zeroValue84 rfl (by simp[Value.cells,Value.oneCell']) hg2 (by rw[z2g];omega)
 have hW:Hid (W1=W.drew.setCells g (0+i*6) news):=hW1;have hic:i<=cap:=zX0;have hjc:j<=cap:=zX0;have hnews:=Lib.hid hnews;clear hW1 hg2 hg hg1 hlen;go_enter Tryz.func71,Tryz.ntmps71;go_wp2_with fail;obtain⟨ht,ie,zv,he,hz0,hsz,hbz,hzs⟩:=zrl;go_region_law (refine step_append_room rfl (.tmp 22) (.tmp 25) 29 rfl 84 ie 6 ht he hsz g 0 i cap zXz A (n-j) (cap-j) news (by simp[Act.eval,Act.put,hA]) s1.out hsrc.out s2.out zX0 s3.out ?_;rw[<- hW.out]);go_wp2;go_ret;refine⟨by rw[show n-(j-i)=i+(n-j)by omega];rfl,?_⟩;rw[hW.out,zY0z,hnews.out,show n-(i+(n-j))=j-i by omega];rfl
theorem z0at{W:World}{A:Option Addr}{n cap i:Nat}(hi:i<=n)(hn:n<=cap)(hm:cap<=maxLen):Calls Tryz.prog 71 #[.slice A n cap,.int .i64 i,.int .i64 i] W λr W'=>r=.returned (.slice A n cap)/\W'=W:=by have hm':cap<=9223372036854775807:=hm;have hic:i<=cap:=zX0;go_enter Tryz.func71,Tryz.ntmps71;go_wp2_with fail;all_goals(go_ret;exact⟨rfl,rfl⟩)
noncomputable def z58:zd:=spD (λx:List Coin×Int×Int=>0<=x.2.1/\x.2.1<=x.2.2/\x.2.2<=x.1.length) λx=>x.1.take x.2.1.toNat++x.1.drop x.2.2.toNat
theorem zkk:Meets Tryz.prog z58 71 zW09 :=
 z07k rfl zX9 (z25 (fn:=Tryz.f71) ) #[.int .i64 0,.int .i64 0,.int .i64 0,.slice none 0 0,.int .i64 0,.bool false] rfl (λW A n cap i h1 h2 h3=>z0at h1 h2 h3) (λW g n cap i j vs h1 h2 h3 h4 h5 h6 h7=>z0as h1 h2 h3 h4 h5 h6 h7)
theorem z0au{W:World}{g o b off la ca lb cb:Nat}{vs:List Value}(hg:W.heap[g]?=some (.cells vs.toArray 84 (0,0)))(hvs:0<vs.length)(hne:b≠g){u:Value}(hb:W.cell? ⟨b,off,none⟩=some u) :
  (callFunc 101 #[.slice (some ⟨b,off,none⟩) la ca,.slice (some ⟨g,o,none⟩) lb cb]).run Tryz.prog W=.ok (.value (.bool false)) W:=by
 rw[run_callFunc_extern Tryz.func101 zX1 zX1 zX1 (e:=Extern.SlicesOverlaps.overlaps #[29,29] #[4]) zX1,
  zxw (e:=84) (sz:=6) Tryz.underlying29 Tryz.sizeOf84 hg hvs hne hb]
 rfl
theorem z0av{W:World}{g n cap i b off c:Nat}{vs cs:List Value}(hg:W.heap[g]?=some (.cells vs.toArray 84 (0,0)))(hn:n<cap)(hm:cap<=maxLen)(hcs:vs.length=cap*6)(h1:∀u∈vs.take (n*6),u.oneCell'=true)(hi:i<n)(hne:b≠g)(hcl:cs.length=6)(hb:∀j v,cs[j]?=some v->W.cell? ⟨b,off+j,none⟩=some v)(h1c:∀v∈cs,v.oneCell'=true) :
  Calls Tryz.prog 72 #[.slice (some ⟨g,0,none⟩) n cap,.int .i64 i,.slice (some ⟨b,off,none⟩) 1 c] W λr W'=>r=.returned (.slice (some ⟨g,0,none⟩) (n+1) cap)/\W'=((W.drewN 1).setCells g ((i+1)*6) ((vs.take (n*6)).drop (i*6))).setCells g (i*6) cs:=by
 have hm':cap<=9223372036854775807:=hm;obtain⟨mv,hmv⟩:∃mv,mv=(vs.take (n*6)).drop (i*6):=⟨_,rfl⟩
 have hlen:mv.length=(n-i)*6:=by rw[hmv,zY0w,zY0d];omega
 have hg1:W.drew.heap[g]?=some (.cells vs.toArray 84 (0,0)):=hg;obtain⟨u0,hu0⟩:∃u,W.cell? ⟨b,off,none⟩=some u:=by have h:=hb 0 (cs[0]' zX0) (zY03 zX0);exact⟨_,h⟩
 have hov:∀lb cb,(callFunc 101 #[.slice (some ⟨b,off,none⟩) 1 c,.slice (some ⟨g,(i+1)*6,none⟩) lb cb]).run Tryz.prog W=.ok (.value (.bool false)) W:=λlb cb=>z0au hg zX0 hne hu0;have hsz:(Tryz.prog.info? 84).map (·.size)=some 6:=zX1;have hcp1:∀ty dc sc,(Builtin.copy_ #[29,29] ty #[.slice (some ⟨g,(i+1)*6,none⟩) (n-i) dc,.slice (some ⟨g,i*6,none⟩) (n+1-i) sc]).run Tryz.prog W.drew=.ok (goInt (Nat.min (n+1-i) (n-i):Nat)) (W.drew.setCells g ((i+1)*6) mv):=λty dc sc =>
  zi7 Tryz.underlying29 hsz hg1 zX10 (λj v hj=>by rw[zau,cell_of_row _ g _ _ 84 (0,0) hg1];have hlt:=(zY02.1 hj).1;rw[hmv,zY1p,zY17,zP zX0]at hj;simpa using hj) zX0 (λv hv=>h1 v (by rw[hmv]at hv;exact zY2g hv))
 obtain⟨W1,hW1⟩:∃W1,W1=W.drew.setCells g ((i+1)*6) mv:=⟨_,rfl⟩
 have hg2:W1.heap[g]?=some (.cells (z2c vs ((i+1)*6) mv).toArray 84 (0,0)):=by rw[hW1];exact z2k _ _ _ _ hg1
 have hcp2:∀ty dc,(Builtin.copy_ #[29,29] ty #[.slice (some ⟨g,i*6,none⟩) (n+1-i) dc,.slice (some ⟨b,off,none⟩) 1 c]).run Tryz.prog W1=.ok (goInt (Nat.min 1 (n+1-i):Nat)) (W1.setCells g (i*6) cs):=λty dc =>
  zi7 Tryz.underlying29 hsz hg2 zX11 (λj v hj=>by rw[zau,hW1,z07l hne];exact hb j v hj) (by rw[z2g];omega) h1c
 rw[<- hW1]at hcp1;have hw1:IntKind.i64.wrap ((i:Int)+1)=(i:Int)+1:=by rw[IntKind.wrap_i64];omega
 have hw2:IntKind.i64.wrap ((n:Int)+1)=(n:Int)+1:=by rw[IntKind.wrap_i64];omega
 have hz2:¬((i:Int)=(n:Int)):=zX0;have hp1:(i:Int)<=(n:Int)+1:=zX0;have hp0:(0:Int)<=(i:Int)+1:=zX0;have hb1:¬(cap=i+1):=zX0;have hb4:¬(cap=i):=zX0;have hin:i<=n:=zX0;have hic:i<=cap:=zX0;have hW:=Lib.hid hW1;have hmv':=Lib.hid hmv;clear hmv hlen hg hg1 hg2 hW1 hcs h1 hb h1c hcl hu0;go_enter Tryz.func72,Tryz.ntmps72;go_wp2_with (simp only[hov]);go_region_law (refine zmf rfl _ _ 29 29 rfl _ _ zXz zXz (hcp1 _ _ _) ?_);go_wp2_with (at_builtin;refine zuw rfl _ _ 29 29 rfl _ _ rfl rfl (hcp2 _ _) ?_);go_ret;refine⟨rfl,?_⟩;rw[hW.out,hmv'.out];rfl
theorem z0dw{W:World}{base:Nat}{v:Value}{n b off c:Nat}{olds cs:List Value}(hown:W.ownsRow base 84 6 v n olds)(hbase:base<=W.heap.size)(hn:n<=1000000)(hcl:cs.length=6)(hb:∀j v,cs[j]?=some v->W.cell? ⟨b,off+j,none⟩=some v)(h1c:∀v∈cs,v.oneCell'=true) :
  Calls Tryz.prog 72 #[v,.int .i64 n,.slice (some ⟨b,off,none⟩) 1 c] W λr W'=>∃v',r=.returned v'/\W'.ownsRow base 84 6 v' (n+1) (olds++cs)/\W.grownBy W' v.ownBlock/\(v'.ownBlock=v.ownBlock\/v'.ownBlock=some W.heap.size):=by
 obtain⟨ht,ie,zv,he,hz0,hsz,hbz,hzs⟩:=zrl;have hrun:∀ty,∃v' W',(Builtin.append_ #[29,29] ty #[v,.slice (some ⟨b,off,none⟩) 1 c]).run Tryz.prog W=.ok v' W'/\W'.ownsRow base 84 6 v' (n+1) (olds++cs)/\W.grownBy W' v.ownBlock/\(v'.ownBlock=v.ownBlock\/v'.ownBlock=some W.heap.size):=λty=>by obtain⟨v',W',hr,h2,h3,_,h5⟩:=run_append_own_at (P:=Tryz.prog) W base 29 ty 84 ie zv 6 64 ht he hz0 hsz hbz hzs zX9 v n olds hown ⟨b,off,none⟩ 1 c cs zX0 (λj u hj=>by rw[zau];exact hb j u hj) h1c zXd zX0 hbase;exact⟨v',W',hr,h2,h3,h5⟩
 obtain⟨v',W',hr,h2,h3,h4⟩:=hrun 29;have hv:∃A cap,v=.slice A n cap/\n<=cap/\cap<=maxLen:=by
  rcases hown.2 with⟨rfl,h0⟩|⟨g,cap,cur,rfl,_,_,h1,h2,_⟩
  ·exact⟨none,0,by rw[h0],by omega,by unfold maxLen;omega⟩
  ·exact⟨_,cap,rfl,h1,h2⟩
 obtain⟨A,cap,rfl,hc1,hc2⟩:=hv;have hc3:cap<=9223372036854775807:=hc2;have R:=Lib.hid (And.intro h2 (And.intro h3 h4));clear h2 h3 h4 hown hrun hb h1c hcl hbase;go_enter Tryz.func72,Tryz.ntmps72;go_wp2_with (at_builtin;refine Lib.wpList_append_run _ rfl _ _ _ _ rfl _ _ rfl rfl _ _ hr ?_);all_goals(go_ret;have R':=R.out;first|exact⟨v',rfl,R'⟩|(subst_vars;exact⟨v',rfl,R'⟩))
theorem z0aw{W:World}{g n cap i b off c:Nat}{vs cs:List Value}(hg:W.heap[g]?=some (.cells vs.toArray 84 (0,0)))(hn:n=cap)(hm:n<=1000000)(hcs:vs.length=cap*6)(h1:∀u∈vs.take (n*6),u.oneCell'=true)(hi:i<n)(hcl:cs.length=6)(hb:∀j v,cs[j]?=some v->W.cell? ⟨b,off+j,none⟩=some v)(h1c:∀v∈cs,v.oneCell'=true) :
  Calls Tryz.prog 72 #[.slice (some ⟨g,0,none⟩) n cap,.int .i64 i,.slice (some ⟨b,off,none⟩) 1 c] W λr W'=>∃G,∃row:List Value,n+1<=G/\G<=maxLen/\row.length=G*6/\r=.returned (.slice (some ⟨W.heap.size,0,none⟩) (n+1) G)/\(∀u∈row.take (i*6),u.oneCell'=true)/\row.take (i*6)=vs.take (i*6) /\
   W'=(((W.alloc (.cells row.toArray 84)).drew.setCells W.heap.size (i*6) cs).drew).setCells W.heap.size ((i+1)*6) ((vs.take (n*6)).drop (i*6)):=by
 obtain⟨ht,ie,zv,he,hz0,hszI,hbz,hzs⟩:=zrl;have hz1:¬((1:Int)=0):=zX9;have hz2:¬((i:Int)=(n:Int)):=zX0;have hz3:(cap:Int)<(n:Int)+1:=zX0;have hsz:(Tryz.prog.info? 84).map (·.size)=some 6:=zX1;have hgl:g<W.heap.size:=by
  rcases zY1w g W.heap.size with h|h
  ·exact h
  ·rw[zY18 h]at hg;cases hg
 have hbl:b<W.heap.size:=block_lt_of_cell (hb 0 _ (zY03 zX0));have hkk:(n:Int)+1-(i:Int)=((n+1-i:Nat):Int):=zX0;have hik:i+(n+1-i)=n+1:=zX0;have hg1:W.drew.heap[g]?=some (.cells vs.toArray 84 (0,0)):=hg;have hold:(Builtin.firstCells ie.size i (.slice (some ⟨g,0,none⟩) i cap)).run Tryz.prog W.drew=.ok (vs.take (i*6)).toArray W.drew:=by
  rw[hszI];exact run_firstCells_some W.drew 6 i ⟨g,0,none⟩ i cap (vs.take (i*6)) zXv (λj v hj=>by
   rw[zau,cell_of_row _ g _ _ 84 (0,0) hg1];rw[zY17]at hj;split at hj
   ·simpa using hj
   ·cases hj)
 have hrz:∀ty,(Builtin.append_ #[29,3] ty #[.slice (some ⟨g,0,none⟩) i cap,.int .i64 ((n:Int)+1-(i:Int))]).run Tryz.prog W =
   .ok (.slice (some ⟨W.heap.size,0,none⟩) (n+1) (grownCap W (n+1) cap 84)) (W.drew.alloc (.cells ((vs.take (i*6)).toArray++Builtin.zeroCells zv.cells (n+1-i)++Builtin.zeroCells zv.cells (grownCap W (n+1) cap 84-(n+1))) 84)):=λty=>by
  have h:=Lib.run_append_grow_zeros W 29 3 ty 84 ie zv .i64 .i64 ht Tryz.underlying3 he hz0 (some ⟨g,0,none⟩) i cap (vs.take (i*6)) hold (n+1-i) zX0 zX0 zX0 zX0 (by rw[hbz];omega) (by rw[hbz,hik];exact growslice_fits zX0 zX0);rw[hik]at h;rw[hkk];exact h
 obtain⟨G,hG⟩:∃G,G=grownCap W (n+1) cap 84:=⟨_,rfl⟩
 obtain⟨row,hrow⟩:∃row:List Value,row=vs.take (i*6)++(Builtin.zeroCells zv.cells (n+1-i)).toList++(Builtin.zeroCells zv.cells (G-(n+1))).toList:=⟨_,rfl⟩
 have hrowA:row.toArray=(vs.take (i*6)).toArray++Builtin.zeroCells zv.cells (n+1-i)++Builtin.zeroCells zv.cells (G-(n+1)):=by rw[hrow];simp
 rw[<- hG,<- hrowA]at hrz;have hGn:n+1<=G:=by rw[hG];exact grownCap_ge W _ _ _
 have hGm:G<=maxLen:=by rw[hG];exact grownCap_le_maxLen W (n+1) cap 84 zXd
 have hG63:G<=9223372036854775807:=hGm;have hrl:row.length=G*6:=by rw[hrow];simp only[zY04,zY0d,zY2h,Builtin.zeroCells,Array.size_map,Array.size_range,hzs];omega
 have hrt:row.take (i*6)=vs.take (i*6):=by rw[hrow,zY1a,zY1o zXv,zY3b,Nat.min_self]
 obtain⟨mv,hmv⟩:∃mv,mv=(vs.take (n*6)).drop (i*6):=⟨_,rfl⟩
 have hlen:mv.length=(n-i)*6:=by rw[hmv,zY0w,zY0d];omega
 have hcpA:∀(W':World),W'.heap[W.heap.size]?=some (.cells row.toArray 84 (0,0))->(∀k v,W.cell? ⟨b,k,none⟩=some v->W'.cell? ⟨b,k,none⟩=some v)->∀ty dc,(Builtin.copy_ #[29,29] ty #[.slice (some ⟨W.heap.size,i*6,none⟩) (n+1-i) dc,.slice (some ⟨b,off,none⟩) 1 c]).run Tryz.prog W' = .ok (goInt (Nat.min 1 (n+1-i):Nat)) (W'.setCells W.heap.size (i*6) cs):=λW' h1' h2' ty dc =>
  zi7 ht hsz h1' zX11 (λj v hj=>by rw[zau];exact h2' _ v (hb j v hj)) zX0 h1c
 have hcpB:∀(W':World) (vs':List Value),vs'.length=G*6->W'.heap[W.heap.size]?=some (.cells vs'.toArray 84 (0,0))->W'.heap[g]?=some (.cells vs.toArray 84 (0,0))->∀ty dc sc,(Builtin.copy_ #[29,29] ty #[.slice (some ⟨W.heap.size,(i+1)*6,none⟩) (n-i) dc,.slice (some ⟨g,i*6,none⟩) (n-i) sc]).run Tryz.prog W' = .ok (goInt (Nat.min (n-i) (n-i):Nat)) (W'.setCells W.heap.size ((i+1)*6) mv):=λW' vs' hl' h1' h2' ty dc sc =>
  zi7 ht hsz h1' zX10 (λj v hj=>by rw[zau,cell_of_row _ g _ _ 84 (0,0) h2'];have hlt:=(zY02.1 hj).1;rw[hmv,zY1p,zY17,zP zX0]at hj;simpa using hj) zX0 (λv hv=>h1 v (by rw[hmv]at hv;exact zY2g hv))
 have hA:=hcpA ((W.alloc (.cells row.toArray 84)).drew) (heap_alloc_new W _) (λk v h=>zme _ h);have hA':=hcpA (W.drew.alloc (.cells row.toArray 84)) (heap_alloc_new W.drew _) (λk v h=>zme (W:=W.drew) _ h);have hgold:(W.alloc (.cells row.toArray 84)).heap[g]?=some (.cells vs.toArray 84 (0,0)):=by
  have:(W.alloc (.cells row.toArray 84)).heap[g]?=W.heap[g]?:=by simp only[World.alloc,zY3r,Nat.ne_of_lt hgl,if_false]
  rw[this];exact hg
 have hB:=hcpB (((W.alloc (.cells row.toArray 84)).drew.setCells W.heap.size (i*6) cs).drew) (z2c row (i*6) cs) (by rw[z2g,hrl]) (z2k _ _ (W.alloc (.cells row.toArray 84)).drew _ (heap_alloc_new W _)) (by show((W.alloc (.cells row.toArray 84)).drew.setCells W.heap.size (i*6) cs).heap[g]?=_;rw[z2t _ _ _ _ _ zX0];exact hgold)
 have hw1:IntKind.i64.wrap ((i:Int)+1)=(i:Int)+1:=by rw[IntKind.wrap_i64];omega
 have hw2:IntKind.i64.wrap ((n:Int)+1)=(n:Int)+1:=by rw[IntKind.wrap_i64];omega
 have hp1:(i:Int)<=(n:Int)+1:=zX0;have hp0:(0:Int)<=(i:Int)+1:=zX0;have hGi:¬(G=i):=zX0;have hGi1:¬(G=i+1):=zX0;have hci:¬(cap=i):=zX0;have hin:i<=n:=zX0;have R:Hid (n+1<=G/\G<=maxLen/\row.length=G*6/\(∀u∈row.take (i*6),u.oneCell'=true)/\row.take (i*6)=vs.take (i*6)/\mv=(vs.take (n*6)).drop (i*6)):=Lib.hid ⟨hGn,hGm,hrl,λu hu=>h1 u (by rw[hrt]at hu;exact(List.take_sublist_take_left zX0).subset hu),hrt,hmv⟩;have hic:i<=cap:=zX0;have hn':=Lib.hid hn;clear hn hmv hlen hg hg1 hgold hcs h1 hb h1c hcl hcpA hcpB hrt hrl hrow hrowA hG hGm hold hkk hik;go_enter Tryz.func72,Tryz.ntmps72;go_wp2_with ((at_builtin;refine Lib.wpList_append_run _ rfl _ _ _ _ rfl _ _ rfl rfl _ _ (hrz _) ?_));go_region_law (refine zmf rfl _ _ 29 29 rfl _ _ zXz zXz (hB _ _ _) ?_);go_wp2;go_ret;obtain⟨r1,r2,r3,r4,r5,r6⟩:=R.out;exact⟨G,row,r1,r2,r3,rfl,r4,r5,by rw[r6]⟩
noncomputable def z95:zd:=spD (λx:List Coin×Int×List Coin=>0<=x.2.1/\x.2.1<=x.1.length/\x.1.length<=1000000/\x.2.2.length=1) λx=>x.1.take x.2.1.toNat++x.2.2++x.1.drop x.2.1.toNat
theorem ztt:Meets Tryz.prog z95 72 zW09 :=
 z07n rfl zX9 (z25 (fn:=Tryz.f72) ) (λW g n cap i b off c vs cs h1 h2 h3 h4 h5 h6 h7 h8 h9 h10=>z0av h1 h2 h3 h4 h5 h6 h7 h8 h9 h10) (λW base v n b off c olds cs h1 h2 h3 h4 h5 h6=>z0dw h1 h2 h3 h4 h5 h6) (λW g n cap i b off c vs cs h1 h2 h3 h4 h5 h6 h7 h8 h9=>z0aw h1 h2 h3 h4 h5 h6 h7 h8 h9)
section
theorem zd8(l:List Coin)(i j:Int)(h:0<=i/\i<=j/\j<=l.length):z58 [.l 6 (l.map za),I i,I j]=some [.l 6 ((l.take i.toNat++l.drop j.toNat).map za)]:=zi (p:=λx:List Coin×Int×Int=>0<=x.2.1/\x.2.1<=x.2.2/\x.2.2<=x.1.length) (f:=λx:List Coin×Int×Int=>x.1.take x.2.1.toNat++x.1.drop x.2.2.toNat) (l,i,j) h
theorem zd9(l:List Coin)(i:Int)(c:Coin)(h:0<=i/\i<=l.length/\l.length<=1000000):z95 [.l 6 (l.map za),I i,.l 6 ([c].map za)]=some [.l 6 ((l.take i.toNat++[c]++l.drop i.toNat).map za)]:=zi (p:=λx:List Coin×Int×List Coin=>0<=x.2.1/\x.2.1<=x.1.length/\x.1.length<=1000000/\x.2.2.length=1) (f:=λx:List Coin×Int×List Coin=>x.1.take x.2.1.toNat++x.2.2++x.1.drop x.2.1.toNat) (l,i,[c]) ⟨h.1,h.2.1,h.2.2,rfl⟩
noncomputable def zbb:zd:=spD (λ_:List Coin×Tx×Int×Int=>True) λx=>zy x.1 x.2.1 x.2.2.1 x.2.2.2
theorem ziw(l:List Coin)(t:Tx)(nm h:Int):zbb [.l 6 (l.map za),I t.height,.l 3 (t.ins.map eIn),.l 2 (t.outs.map z30),I nm,I h]=some [.l 6 ((zy l t nm h).1.map za),.l 6 ((zy l t nm h).2.1.map za),I (zy l t nm h).2.2]:=zi (f:=λx:List Coin×Tx×Int×Int=>zy x.1 x.2.1 x.2.2.1 x.2.2.2) (l,t,nm,h) trivial
theorem zq4{a b:Dt}{n:Int}{pk:List PK}{l:Bool}{g:Bool}:z7g ⟨pk,[(false,[.pure]),(g,[.pure]),(false,[.scal])],l⟩ [a,b,I n]:=by
 intro i d hi hd
 match i,hi,hd with
 |0,hi,_=>simp[zu]at hi
 |1,hi,_=>simp[zu]at hi
 |2,_,hd=>simp only[zY2d,zY05,zY00]at hd;subst hd;rfl
 |i+3,hi,_=>simp[zu]at hi
theorem ztu{a:Dt}{n:Int}{pk:List PK}{l:Bool}{g:Bool}:z7g ⟨pk,[(g,[.pure]),(false,[.scal])],l⟩ [a,I n]:=by
 intro i d hi hd
 match i,hi,hd with
 |0,hi,_=>simp[zu]at hi
 |1,_,hd=>simp only[zY2d,zY05,zY00]at hd;subst hd;rfl
 |i+2,hi,_=>simp[zu]at hi
attribute [local irreducible] z09 spD z1w z9 zo z2e z16 z4p zb
theorem zix(t:Tx):z8z [I t.height,.l 3 (t.ins.map eIn),.l 2 (t.outs.map z30)]=some [I (zo t)]:=zi (f:=λt:Tx=>zo t) t trivial
def zU16(a b:Nat):T:=zS (.mk 6 [[.v (a+12),.v (a+13),.v (a+14),.v (a+15),.v (a+16),.v (a+17)]]) (zS (.app 6 (.v (a+2)) (.v (b+3))) (zB .add (.v (a+9)) (zI 1) (zC 13 [.v (a+3),.v (a+9),.v (b+5)] (zB .add (.v (a+4)) (zI 1) (.again 0 [.v a,.v (a+1),.v (b+4),.v (b+6),.v (b+7)])))))
def zUc(a b:Nat):T:=.W (zK 15 [.v (a+15),.v (a+8),5] 2) [] (zS (.not (.v b)) (.ite (.v (b+2)) (.ret [.c (.nil 6),.c (.nil 6),zI 8]) (zU16 a b)))
def zU17(a:Nat):T:=zS (.not (.v (a+10))) (.ite (.v (a+11)) (.ret [.c (.nil 6),.c (.nil 6),zI 7]) (zE 6 (.v (a+3)) (.v (a+9)) (.ite (.v (a+17)) (zB .add (.v (a+16)) (zI 2) (zQ .lss 5 (.v (a+18)) (.v (a+19)) (.ret [.c (.nil 6),.c (.nil 6),zI 10]) (zUc a (a+20)))) (zUc a (a+18)))))
def zUm(a:Nat):T:=.W (zD 2 (.v (a+4)) 3) [] (.W (zK 6 [.v (a+3),.v (a+6),.v (a+7)] 2) [] (zU17 a))
def zUl(a b c d e:Atom):T:=zQ .neq a (zI 0) b (.ret [.c (.nil 6),c,a]) (.ret [d,e,zI 0])
def zU18(b:Nat):T:=.W (zD 3 (.v (b+4)) 2) [] (.W (zK 6 [.v (b+3),4,.v (b+4)] 2) [] (.ite (.v (b+9)) (.ret [.c (.nil 6),.c (.nil 6),zI 6]) (zC 10 [.v (b+7)] (zS (.mk 6 [[4,.v (b+4),.v (b+6),.v (b+10),5,15]]) (zC 14 [.v (b+3),.v (b+8),.v (b+11)] (zUe (b+2) (.v (b+1)) (.v (b+12)) (.v (b+13))))))))
def zUr(a b:Nat):T:=zL 3 (.loop [.c (.nil 6),zI 0,.v (a+1),zI 0] (zQ .lss (.v (b+4)) (.v b) (.v (b+5)) (.W [] [.inr 2 3 (.v (b+4))] (zU18 b)) (zC 8 [.v (b+3)] (zUl (.v (b+6)) (.v (b+7)) (.c (.nil 6)) (.v (b+3)) (.v a)))))
def z00q:T:=.ite 15 (zQ .neq 1 5 16 (.ret [.c (.nil 6),.c (.nil 6),zI 4]) (zC 11 [0] (zL 2 (.loop [.c (.nil 6),zI 0,.c (.nil 6),17,zI 0] (zQ .lss 23 18 24 (.W [] [.inr 3 2 23] (zUm 19)) (zUr 21 25)))))) (zC 11 [0] (zL 2 (.loop [.c (.nil 6),zI 0,.c (.nil 6),16,zI 0] (zQ .lss 22 17 23 (.W [] [.inr 3 2 22] (zUm 18)) (zC 12 [1,2,3,20] (zQ .lss 24 (zI 0) 25 (.ret [.c (.nil 6),.c (.nil 6),zI 9]) (zUr 20 26)))))))
def z00r:T:=.ite 10 (.ret [.c (.nil 6),.c (.nil 6),zI 3]) (zQ .gtr 4 (zI 120) 11 (.ret [.c (.nil 6),.c (.nil 6),zI 3]) (zQ .lss 5 (zI 1) 12 (.ret [.c (.nil 6),.c (.nil 6),zI 3]) (zQ .gtr 5 (zI 1000) 13 (.ret [.c (.nil 6),.c (.nil 6),zI 3]) (zL 2 (zB .eql 14 (zI 0) z00q)))))
def zkl:T:=zC 8 [0] (zQ .neq 6 (zI 0) 7 (.ret [.c (.nil 6),.c (.nil 6),6]) (zC 16 [1,2,3] (zQ .neq 8 (zI 0) 9 (.ret [.c (.nil 6),.c (.nil 6),8]) (zB .lss 4 (zI 1) z00r))))
theorem z07o:Meets Tryz.prog zbb 64 zW04:=by
 refine z73 (sp:=(zx [(6,z91),(8,z3s),(10,z61),(11,zag),(12,za1),(13,z58),(14,z95),(15,zb4),(16,z8z)])) (sigs:=z02) (cut:=[]) (hints:=[⟨19,[.r 8 84 6,.t 10,.r 0 84 6,.t 111,.z 84,.z 83,.z 78]⟩]) (fns:=[za0 93 Tryz.f93 [⟨2,[.r 6 84 6,.t 8,.r 7 84 6,.r 0 84 6,.t 19]⟩] [],za0 92 Tryz.f92 [] []]) (dep:=2) (pool:=240) (fn:=Tryz.f64) (t:=zkl) ?_ ?_ ?_
 ·exact(z2q (fn:=Tryz.f93) zX1 zX1 zX1 zX1 zX1 (z2q (fn:=Tryz.f92) zX1 zX1 zX1 zX1 zX1 z8e))
 ·exact(zq (L:=[(6,z91),(8,z3s),(10,z61),(11,zag),(12,za1),(13,z58),(14,z95),(15,zb4),(16,z8z)]) ⟨z7 rfl zth,z7 rfl zfd,z7 rfl zpc,z7 rfl zxf,z7 rfl z026,z7 rfl zkk,z7 rfl ztt,z7 rfl z005,z7 rfl ztg,trivial⟩)
 ·rintro ds rs-h;obtain⟨⟨l,t,nm,ht⟩,-,rfl,rfl⟩:=zh h;clear h;refine⟨⟨t.ins.length+t.outs.length+1,?_⟩,zq4⟩;show den _ _ zkl [.l 6 (l.map za),I t.height,.l 3 (t.ins.map eIn),.l 2 (t.outs.map z30),I nm,I ht] []=ret (zy l t nm ht);unfold zkl zy;repeat'(first|refine dq1 ?_|refine dqk rfl (z4s _) ?_|refine dqk rfl (zix _) ?_|exact z5 rfl rfl|((first|refine tR ?_ ?_|refine tO ?_ ?_)<;>intro h)|fail)
  all_goals
   have ok:CoinsOK l:=(z0m l).1 (zY0u.1 zXn);have okt:TxOK t:=z3t (zY0u.1 zXn);have hl:=ok.len;have hti:=okt.ins;have hto:=okt.outs;repeat'(first|refine dq1 ?_|refine dqk rfl (zeo _ ok.short) ?_|fail)
  ·(refine zj (λ(st:List Coin×List Coin) k=>[.l 6 (([]:List Coin).map za),I 0,.l 6 (st.2.map za),.l 6 (st.1.map za),I k]) (λ(st:List Coin×List Coin) _ (xs:List In)=>z3l ht z1v (λr s=>z3c nm ht (decide ((t.ins.length:Int)=0)) z1v (z5w s) r 0 t.outs) st.1 st.2 xs) (λst k=>SpI l st k) (l,[]) t.ins ?_ ?_ ?_ ?_ ?_;rfl;exact⟨ok.sorted,zY0k _,ok.good,rfl,λc hc=>by cases hc⟩;omega)
   ·rintro⟨r,s⟩ k x xs hx hd hk hI again hag;rename_i h0 _;omega
   ·rintro⟨r,s⟩ hI again;rw[z3l];repeat'(first|refine dq1 ?_|refine dqF ?_|fail)
    (refine zj (λ(r:List Coin) k=>[.l 6 (([]:List Coin).map za),I 0,.l 6 (r.map za),I k]) (λ(r:List Coin) k (os:List Out)=>z3c nm ht (decide ((t.ins.length:Int)=0)) z1v (z5w s) r k os) (λr k=>z05 r/\r.length<=l.length+k) r t.outs ?_ ?_ ?_ ?_ ?_;rfl;exact⟨hI.sorted,hI.len⟩;omega)
    ·rintro r k o os hx hd hk ⟨hs,hrl⟩ again' hag;rw[z3c];have hol:=zaz (okt.good o (zY06 hx)).2.2;have hpl:=zhs r ⟨nm,k⟩;have e1:((zp r ⟨nm,k⟩:Int)).toNat=zp r ⟨nm,k⟩:=zX0;repeat'(first|refine dq1 ?_|refine dqc ?_|refine dqm ?_|refine dqK rfl (z7i r ⟨nm,k⟩ hs zX0) ?_|refine dqk rfl (z90 _ zX0) ?_|exact z5 rfl rfl|refine tB (λh=>?_) λh=>?_|refine dqT ?_|fail)
     have hno:=h;refine z4 (z1p (r:=[(⟨⟨nm,k⟩,o,ht,decide ((t.ins.length:Int)=0)⟩:Coin)].map za) rfl rfl zX4) ?_;refine z4 (z3h rfl (zd9 _ _ _ ⟨by omega,by omega,by omega⟩) rfl) ?_;refine z4 (z7t rfl rfl zX0) ?_;rw[e1];exact z6 rfl rfl (hag _ ⟨z69 hs (c:=⟨⟨nm,k⟩,o,ht,decide ((t.ins.length:Int)=0)⟩) hno,by simp only[zY04,zY0d,zY0w,zY1c];omega⟩)
    ·rintro r hr again';rw[z3c];unfold z5w;repeat'(first|refine dq1 ?_|refine dqk rfl (z4s _) ?_|exact z5 rfl rfl|refine tR (λh=>?_) λh=>?_|refine dqF ?_|fail)
  ·(refine zj (λ(st:List Coin×List Coin) k=>[.l 6 (([]:List Coin).map za),I 0,.l 6 (st.2.map za),.l 6 (st.1.map za),I k]) (λ(st:List Coin×List Coin) _ (xs:List In)=>z3l ht z1v (λr s=>if z16 t s<0 then z1v 9 else z3c nm ht (decide ((t.ins.length:Int)=0)) z1v (z5w s) r 0 t.outs) st.1 st.2 xs) (λst k=>SpI l st k) (l,[]) t.ins ?_ ?_ ?_ ?_ ?_;rfl;exact⟨ok.sorted,zY0k _,ok.good,rfl,λc hc=>by cases hc⟩;omega)
   ·rintro⟨r,s⟩ k x xs hx hd hk hI again hag;rw[z3l];simp only;have hs:=hI.sorted;have hrl:=hI.len;simp only at hs hrl;repeat'(first|refine dq1 ?_|refine dqc ?_|refine dqm ?_|refine dqK rfl (z7i _ _ hs zX0) ?_|exact z5 rfl rfl|refine tN (λh=>?_) λh=>?_|refine dqT ?_|fail)
    obtain⟨hlt,hp⟩:=(zht hs x.p).1 h;have hc:r[zp r x.p]?=some r[zp r x.p]:=zY03 hlt;rw[hc];generalize r[zp r x.p]=c at *;have hcb:=z49 (hI.good c (zY06 hc));have e1:((zp r x.p:Int)).toNat=zp r x.p:=zX0;have e2:((zp r x.p:Int)+1).toNat=zp r x.p+1:=zX0;simp only[zY1f];have hxo:=hx;have hx:=hc;repeat'(first|refine dq1 ?_|refine dqc ?_|refine dqm ?_|refine dqK rfl (zpm _ _ _) ?_|exact z5 rfl rfl|((first|refine tR ?_ ?_|refine tB ?_ ?_|refine tN ?_ ?_)<;>intro h)|fail)
    all_goals(refine z4 (z1p (r:=[c].map za) rfl rfl zX4) ?_;refine z4 (zjt (l:=s) (l':=[c]) rfl rfl zX12) ?_;refine z4 (z7t rfl rfl zX0) ?_;refine z4 (z3h rfl (zd8 _ _ _ ⟨by omega,by omega,by omega⟩) rfl) ?_;refine z4 (z7t rfl rfl zX0) ?_;rw[e1,e2];exact z6 rfl rfl (hag (r.take (zp r x.p)++r.drop (zp r x.p+1),s++[c]) (hI.cut hc)))
   ·rintro⟨r,s⟩ hI again;rw[z3l];repeat'(first|refine dq1 ?_|refine dqk rfl (zg2 t s (hI.fee okt)) ?_|exact z5 rfl rfl|refine tR (λh=>?_) λh=>?_|refine dqF ?_|fail)
    (refine zj (λ(r:List Coin) k=>[.l 6 (([]:List Coin).map za),I 0,.l 6 (r.map za),I k]) (λ(r:List Coin) k (os:List Out)=>z3c nm ht (decide ((t.ins.length:Int)=0)) z1v (z5w s) r k os) (λr k=>z05 r/\r.length<=l.length+k) r t.outs ?_ ?_ ?_ ?_ ?_;rfl;exact⟨hI.sorted,hI.len⟩;omega)
    ·rintro r k o os hx hd hk ⟨hs,hrl⟩ again' hag;rw[z3c];have hol:=zaz (okt.good o (zY06 hx)).2.2;have hpl:=zhs r ⟨nm,k⟩;have e1:((zp r ⟨nm,k⟩:Int)).toNat=zp r ⟨nm,k⟩:=zX0;repeat'(first|refine dq1 ?_|refine dqc ?_|refine dqm ?_|refine dqK rfl (z7i r ⟨nm,k⟩ hs zX0) ?_|refine dqk rfl (z90 _ zX0) ?_|exact z5 rfl rfl|refine tB (λh=>?_) λh=>?_|refine dqT ?_|fail)
     have hno:=h;refine z4 (z1p (r:=[(⟨⟨nm,k⟩,o,ht,decide ((t.ins.length:Int)=0)⟩:Coin)].map za) rfl rfl zX4) ?_;refine z4 (z3h rfl (zd9 _ _ _ ⟨by omega,by omega,by omega⟩) rfl) ?_;refine z4 (z7t rfl rfl zX0) ?_;rw[e1];exact z6 rfl rfl (hag _ ⟨z69 hs (c:=⟨⟨nm,k⟩,o,ht,decide ((t.ins.length:Int)=0)⟩) hno,by simp only[zY04,zY0d,zY0w,zY1c];omega⟩)
    ·rintro r hr again';rw[z3c];unfold z5w;repeat'(first|refine dq1 ?_|refine dqk rfl (z4s _) ?_|exact z5 rfl rfl|refine tR (λh=>?_) λh=>?_|refine dqF ?_|fail)
end
section
attribute [local irreducible] z09 spD z1w z9 zo zb
def zev(l:List Coin):Prop:=∀c∈l,c.o.lock.length<=8796093022208
noncomputable def z9n:zd:=spD (λx:List Coin×Tx×Int×List Coin=>zev x.2.2.2) λx=>z1i x.1 x.2.1 x.2.2.1 x.2.2.2
theorem zfn(l:List Coin)(t:Tx)(nm:Int)(u:List Coin)(h:zev u):z9n [.l 6 (l.map za),I t.height,.l 3 (t.ins.map eIn),.l 2 (t.outs.map z30),I nm,.l 6 (u.map za)]=some [.l 6 ((z1i l t nm u).1.map za),I (z1i l t nm u).2]:=zi (p:=λx:List Coin×Tx×Int×List Coin=>zev x.2.2.2) (f:=λx:List Coin×Tx×Int×List Coin=>z1i x.1 x.2.1 x.2.2.1 x.2.2.2) (l,t,nm,u) h
def zUn(a b c d e:Atom):T:=zB .add a (zI 1) (.again 0 [b,c,d,e])
def zxx:T:=.W (zK 6 [17,4,18] 2) [] (zS (.not 23) (.ite 24 (.ret [.c (.nil 6),zI 7]) (.W [] [.inr 6 17 22] (.W [.idx 17 22 2,.idx 17 22 3] [] (zC 20 [25,26,20,21] (zS (.not 27) (.ite 28 (.ret [.c (.nil 6),zI 7]) (zB .add 22 (zI 1) (zC 13 [17,22,29] (zUn 18 15 16 30 31))))))))))
def zxy:T:=.W (zD 20 25 6) [] (.W (zK 6 [24,27,28] 2) [] (.ite 34 (.ret [.c (.nil 6),zI 6]) (.W [] [.inr 3 2 25] (.W (zD 2 25 2) [] (zS (.eqs true [(35,27),(36,28)]) (.ite 37 (.ret [.c (.nil 6),zI 6]) (zS (.mk 6 [[27,28,29,30,31,32]]) (zC 14 [24,33,38] (zUe 23 22 39 40)))))))))
def zxz:T:=.loop [.c (.nil 6),zI 0,13,zI 0] (zQ .lss 18 14 19 (zE 2 3 18 zxx) (zC 11 [5] (zL 20 (.loop [15,16,17,zI 0] (zQ .lss 25 21 26 (.W [] [.inr 6 20 25] zxy) (zC 8 [24] (zQ .neq 27 (zI 0) 28 (.ret [.c (.nil 6),27]) (.ret [24,zI 0]))))))))
def zi9:T:=zC 8 [0] (zQ .neq 6 (zI 0) 7 (.ret [.c (.nil 6),6]) (zC 16 [1,2,3] (zQ .neq 8 (zI 0) 9 (.ret [.c (.nil 6),8]) (zL 5 (zL 2 (zQ .neq 10 11 12 (.ret [.c (.nil 6),zI 4]) (zC 11 [0] (zL 3 zxz))))))))
theorem z04e:Meets Tryz.prog z9n 43 zW06:=by
 refine zg (sp:=(zx [(6,z91),(8,z3s),(11,zag),(13,z58),(14,z95),(16,z8z),(20,zb6)])) (sigs:=z02) (cut:=[]) (hints:=[⟨11,[.r 8 84 6,.t 9,.r 0 84 6,.t 43,.z 39]⟩,⟨19,[.r 8 84 6,.t 9,.r 0 84 6,.t 78]⟩]) (fn:=Tryz.f43) (t:=zi9) ?_ ?_
 ·exact(zq (L:=[(6,z91),(8,z3s),(11,zag),(13,z58),(14,z95),(16,z8z),(20,zb6)]) ⟨z7 rfl zth,z7 rfl zfd,z7 rfl zxf,z7 rfl zkk,z7 rfl ztt,z7 rfl ztg,z7 rfl z00e,trivial⟩)
 ·rintro ds rs-h;obtain⟨⟨l,t,nm,u⟩,hu,rfl,rfl⟩:=zh h;clear h;simp only at hu;refine⟨⟨u.length+t.outs.length+1,?_⟩,ztu⟩;show den _ _ zi9 [.l 6 (l.map za),I t.height,.l 3 (t.ins.map eIn),.l 2 (t.outs.map z30),I nm,.l 6 (u.map za)] []=ret (z1i l t nm u);unfold zi9 z1i;repeat'(first|refine dq1 ?_|refine dqk rfl (z4s _) ?_|refine dqk rfl (zix _) ?_|exact z5 rfl rfl|refine tR (λh=>?_) λh=>?_|fail)
  have hul:u.length=t.ins.length:=zX0;have ok:CoinsOK l:=(z0m l).1 (zY0u.1 zXn);have okt:TxOK t:=z3t (zY0u.1 zXn);have hl:=ok.len;have hti:=okt.ins;have hto:=okt.outs;have hu:z54 u:=⟨by omega,hu⟩
  repeat'(first|refine dq1 ?_|refine dqk rfl (zeo _ ok.short) ?_|fail)
  (refine zj (λ(r:List Coin) k=>[.l 6 (([]:List Coin).map za),I 0,.l 6 (r.map za),I k]) (λ(r:List Coin) k (os:List Out)=>z87 nm z5x (λr=>z6t t.ins z5x za5 r 0 u) r k os) (λr k=>z05 r/\r.length<=l.length) l t.outs ?_ ?_ ?_ ?_ ?_;rfl;exact⟨ok.sorted,zY0k _⟩;omega)
  ·rintro r k o os hx hd hk ⟨hs,hrl⟩ again hag;rw[z87];repeat'(first|refine dq1 ?_|refine dqc ?_|refine dqm ?_|refine dqK rfl (z7i r ⟨nm,k⟩ hs zX0) ?_|exact z5 rfl rfl|refine tN (λh=>?_) λh=>?_|refine dqT ?_|fail)
   obtain⟨hlt,hp⟩:=(zht hs ⟨nm,k⟩).1 h;have hc:r[zp r ⟨nm,k⟩]?=some r[zp r ⟨nm,k⟩]:=zY03 hlt;rw[hc];generalize r[zp r ⟨nm,k⟩]=c at *;have e1:((zp r ⟨nm,k⟩:Int)).toNat=zp r ⟨nm,k⟩:=zX0;have e2:((zp r ⟨nm,k⟩:Int)+1).toNat=zp r ⟨nm,k⟩+1:=zX0;simp only[zY1f];have hxo:=hx;have hx:=hc;repeat'(first|refine dq1 ?_|refine dqc ?_|refine dqm ?_|refine dqk rfl (zpu c.o o) ?_|refine dqk rfl (zd8 r (zp r ⟨nm,k⟩:Int) ((zp r ⟨nm,k⟩:Int)+1) ⟨by omega,by omega,by omega⟩) ?_|exact z5 rfl rfl|refine tN (λh=>?_) λh=>?_|fail)
   rw[e1,e2];exact z6 rfl rfl (hag _ ⟨z7d hs _,by simp only[zY04,zY0d,zY0w];omega⟩)
  ·rintro r ⟨hs,hrl⟩ again;rw[z87];repeat'(first|refine dq1 ?_|refine dqk rfl (zeo _ hu) ?_|refine dqF ?_|fail)
   (refine zj (λ(r:List Coin) k=>[.l 6 (([]:List Coin).map za),I 0,.l 6 (r.map za),I k]) (λ(r:List Coin) k (cs:List Coin)=>z6t t.ins z5x za5 r k cs) (λr k=>z05 r/\r.length<=l.length+k) r u ?_ ?_ ?_ ?_ ?_;rfl;exact⟨hs,hrl⟩;omega)
   ·rintro r k c cs hx hd hk ⟨hs,hrl⟩ again' hag;rw[z6t];have hpl:=zhs r c.p;have e1:((zp r c.p:Int)).toNat=zp r c.p:=zX0;have hki:k<t.ins.length:=zX0;obtain⟨x,hxi⟩:∃x,t.ins[k]?=some x:=⟨_,zY03 hki⟩
    rw[hxi];simp only[zY1f];repeat'(first|refine dq1 ?_|refine dqc ?_|refine dqm ?_|refine dqK rfl (z7i r c.p hs zX0) ?_|exact z5 rfl rfl|((first|refine tR ?_ ?_|refine tB ?_ ?_)<;>intro h)|refine dqT ?_|fail)
    have hno:=h;have hxo:=hx;have hx:=hxi;repeat'(first|refine dq1 ?_|refine dqc ?_|refine dqm ?_|exact z5 rfl rfl|((first|refine tR ?_ ?_|refine tB ?_ ?_|refine tC ?_ ?_|refine tN ?_ ?_|refine tF ?_ ?_|refine tG ?_ ?_|refine tP ?_ ?_|refine tQ ?_ ?_|refine tA ?_ ?_|refine tO ?_ ?_|refine tU ?_ ?_|refine tV ?_ ?_)<;>intro h)|refine dqT ?_|refine dqF ?_|refine z0h rfl ?_|refine z0e rfl ?_|refine zax ?_|refine z5u ?_|fail)
    refine z4 (z1p (r:=[c].map za) rfl rfl zX4) ?_;refine z4 (z3h rfl (zd9 _ _ _ ⟨by omega,by omega,by omega⟩) rfl) ?_;refine z4 (z7t rfl rfl zX0) ?_;rw[e1];exact z6 rfl rfl (hag _ ⟨z69 hs zXn,by simp only[zY04,zY0d,zY0w,zY1c];omega⟩)
   ·rintro r hr again';rw[z6t];unfold za5;repeat'(first|refine dq1 ?_|refine dqk rfl (z4s _) ?_|exact z5 rfl rfl|refine tR (λh=>?_) λh=>?_|refine dqF ?_|fail)
end
theorem hasP_mem{l:List Coin}{p:Point}:z1q l p=true↔∃c∈l,c.p=p:=by
 unfold z1q;rw[zY36];constructor
 ·rintro⟨c,hc,h⟩;exact⟨c,hc,of_decide_eq_true h⟩
 ·rintro⟨c,hc,h⟩;exact⟨c,hc,decide_eq_true h⟩
theorem hasP_not{l:List Coin}{p:Point}:z1q l p=false↔∀c∈l,c.p≠p:=by
 rw[<- zY2j,hasP_mem];constructor
 ·intro h c hc he;exact h ⟨c,hc,he⟩
 ·rintro h ⟨c,hc,he⟩;exact h c hc he
theorem zmg{l:List Coin}(h:z05 l){c d:Coin}(hc:c∈l)(hd:d∈l)(hp:c.p=d.p):c=d:=by
 obtain⟨i,hi,rfl⟩:=zY23 hc;obtain⟨j,hj,rfl⟩:=zY23 hd;rcases Nat.lt_trichotomy i j with hij|rfl|hij
 ·have:=zad h hij hj;rw[hp]at this;exact absurd this (z51 _)
 ·rfl
 ·have:=zad h hij hi;rw[hp]at this;exact absurd this (z51 _)
theorem zkm{l:List Coin}(h:z05 l){c:Coin}(hc:c∈l):l[zp l c.p]?=some c:=by obtain⟨hlt,hp⟩:=(zht h c.p).1 (hasP_mem.2 ⟨c,hc,rfl⟩);rw[zY03 hlt];exact congrArg some (zmg h (zY1y hlt) hc hp)
theorem z0dx{l:List Coin}(h:z05 l){p:Point}(hp:z1q l p=true):∃c,l[zp l p]?=some c/\c∈l/\c.p=p:=by obtain⟨c,hc,rfl⟩:=hasP_mem.1 hp;exact⟨c,zkm h hc,hc,rfl⟩
theorem zia:∀ {a b:List Coin},z05 a->z05 b->(∀c,c∈a↔c∈b)->a=b
 | [],[],_,_,_=>rfl
 | [],y::b,_,_,h=>by have:=(h y).2 (zY0i ..);cases this
 |x::a,[],_,_,h=>by have:=(h x).1 (zY0i ..);cases this
 |x::a,y::b,ha,hb,h=>by
  have ha':=zY1h.1 ha;have hb':=zY1h.1 hb;have hxy:x=y:=by
   rcases zY0g.1 ((h x).1 (zY0i ..))with e|hx
   ·exact e
   ·rcases zY0g.1 ((h y).2 (zY0i ..))with e|hy
    ·exact e.symm
    ·exact absurd (hb'.1 x hx) (zjz (ha'.1 y hy))
  subst hxy;congr 1;refine zia ha'.2 hb'.2 λc=>⟨λhc=>?_,λhc=>?_⟩
  ·rcases zY0g.1 ((h c).1 (zY0h _ hc))with rfl|h'
   ·exact absurd (ha'.1 c hc) (z51 _)
   ·exact h'
  ·rcases zY0g.1 ((h c).2 (zY0h _ hc))with rfl|h'
   ·exact absurd (hb'.1 c hc) (z51 _)
   ·exact h'
theorem zrv{l:List Coin}(h:z05 l){c:Coin}{k:Nat}(hk:l[k]?=some c){d:Coin}:d∈l.take k++l.drop (k+1)↔d∈l/\d.p≠c.p:=by
 obtain⟨hlt,rfl⟩:=zY02.1 hk;have hsplit:l=l.take k++l[k]::l.drop (k+1):=by rw[List.getElem_cons_drop,zY10]
 have hs:z05 (l.take k++l[k]::l.drop (k+1)):=by rw[<- hsplit];exact h
 obtain⟨_,h2,h3⟩:=zY2p.1 hs;have h2':=zY1h.1 h2;constructor
 ·intro hd;refine⟨?_,?_⟩
  ·rcases zY13.1 hd with hd|hd
   ·exact zY2f hd
   ·exact zY2g hd
  ·rcases zY13.1 hd with hd|hd
   ·intro e;have:=h3 d hd l[k] (zY0i ..);rw[e]at this;exact z51 _ this
   ·intro e;have:=h2'.1 d hd;rw[e]at this;exact z51 _ this
 ·rintro⟨hd,hne⟩;rw[hsplit]at hd;rcases zY13.1 hd with hd|hd
  ·exact List.mem_append_left _ hd
  ·rcases zY0g.1 hd with rfl|hd
   ·exact absurd rfl hne
   ·exact zY3k _ hd
theorem put_mem{l:List Coin}{c d:Coin}{k:Nat}:d∈l.take k++[c]++l.drop k↔d=c\/d∈l:=by
 have:d∈l↔d∈l.take k\/d∈l.drop k:=by rw[<- zY13,zY10]
 rw[zY13,zY13,zY12,this];constructor
 ·rintro((h|h)|h)
  ·exact .inr (.inl h)
  ·exact .inl h
  ·exact .inr (.inr h)
 ·rintro(h|h|h)
  ·exact .inl (.inr h)
  ·exact .inl (.inl h)
  ·exact .inr h
theorem z07p{l:List Coin}{c:Coin}{k:Nat}(hk:l[k]?=some c):zm l=zm (l.take k++l.drop (k+1))+c.o.coin:=by
 obtain⟨hlt,rfl⟩:=zY02.1 hk;have hsplit:l=l.take k++l[k]::l.drop (k+1):=by rw[List.getElem_cons_drop,zY10]
 have e:zm l=zm (l.take k++l[k]::l.drop (k+1)):=by rw[<- hsplit]
 rw[e,z5i,z5i,zm];omega
theorem z07q{l:List Coin}{c:Coin}{k:Nat}:zm (l.take k++[c]++l.drop k)=zm l+c.o.coin:=by
 have e:zm l=zm (l.take k++l.drop k):=by rw[zY10]
 rw[e,z5i,z5i,z5i,zm,zm];omega
structure Fine(h:Int)(x:In)(c:Coin):Prop where
 p:c.p=x.p
 ripe:c.reward=true->c.height+2<=h
 opens:(z2e c.o.lock x.key h).1=true
inductive Spent(h:Int):List Coin->List Coin->List In->List Coin->List Coin->Prop
 |nil (r s):Spent h r s [] r s
 |cons {r s x xs r' s' c}:c∈r->r[zp r x.p]?=some c->Fine h x c->Spent h (r.take (zp r x.p)++r.drop (zp r x.p+1)) (s++[c]) xs r' s'->Spent h r s (x::xs) r' s'
theorem zq5{ρ:Type}{h:Int}{bad:Int->ρ}{K:List Coin->List Coin->ρ}{r s:List Coin}{x:In}{xs:List In}{c:Coin}(hm:c∈r)(hc:r[zp r x.p]?=some c)(hf:Fine h x c):z3l h bad K r s (x::xs)=z3l h bad K (r.take (zp r x.p)++r.drop (zp r x.p+1)) (s++[c]) xs:=by
 have hp:z1q r x.p=true:=hasP_mem.2 ⟨c,hm,hf.p⟩;rw[z3l,zP hp,hc];simp only[zY1f];rw[zP hf.opens];by_cases hr:c.reward=true
 ·rw[zP hr,zN (by have:=hf.ripe hr;omega)]
 ·rw[zN hr]
theorem Spent.run{ρ:Type}{h:Int}{bad:Int->ρ}{K:List Coin->List Coin->ρ}{r s r' s':List Coin}{xs:List In}(hs:Spent h r s xs r' s'):z3l h bad K r s xs=K r' s':=by
 induction hs with
 |nil r s=>rfl
 |cons hm hc hf _ ih=>rw[zq5 hm hc hf,ih]
theorem znr{h:Int}{K:List Coin->List Coin->List Coin×List Coin×Int}:∀ {xs:List In} {r s:List Coin},z05 r->(z3l h z1v K r s xs).2.2=0->∃r' s',Spent h r s xs r' s'/\z3l h z1v K r s xs=K r' s'
 | [],r,s,_,_=>⟨r,s,.nil r s,rfl⟩
 |x::xs,r,s,hr,h0=>by
  by_cases hp:z1q r x.p=true
  ·obtain⟨c,hc,hm,hcp⟩:=z0dx hr hp;have hf:Fine h x c:=by
    rw[z3l,zP hp,hc]at h0;simp only[zY1f]at h0;by_cases hrw:c.reward=true
    ·rw[zP hrw]at h0;by_cases hh:h<c.height+2
     ·rw[zP hh]at h0;cases h0
     ·rw[zN hh]at h0;by_cases ho:(z2e c.o.lock x.key h).1=true
      ·exact⟨hcp,λ_=>by omega,ho⟩
      ·rw[zN ho]at h0;cases h0
    ·rw[zN hrw]at h0;by_cases ho:(z2e c.o.lock x.key h).1=true
     ·exact⟨hcp,λh=>absurd h hrw,ho⟩
     ·rw[zN ho]at h0;cases h0
   have e:=zq5 (bad:=z1v) (K:=K) (s:=s) (xs:=xs) hm hc hf;rw[e]at h0⊢;obtain⟨r',s',h1,h2⟩:=znr (z7d hr _) h0;exact⟨r',s',.cons hm hc hf h1,h2⟩
  ·rw[z3l,zN hp]at h0;cases h0
structure SpentAs(h:Int)(r:List Coin)(xs:List In)(r' cs:List Coin):Prop where
 sorted:z05 r'
 mem:∀c,c∈r'↔c∈r/\∀x∈xs,x.p≠c.p
 len:cs.length=xs.length
 fine:∀(i:Nat) (x:In),xs[i]?=some x->∃c,cs[i]?=some c/\c∈r/\Fine h x c
 apart:xs.Pairwise λx y=>x.p≠y.p
 total:zm r=zm r'+zm cs
theorem Spent.as{h:Int}{r s r' s':List Coin}{xs:List In}(hs:Spent h r s xs r' s'):z05 r->∃cs,s'=s++cs/\SpentAs h r xs r' cs:=by
 induction hs with
 |nil r s=>exact λhr=>⟨[],(zY1b s).symm,hr,λc=>by simp,rfl,λi x hx=>by simp at hx,.nil,by simp[zm]⟩
 | @cons r s x xs r' s' c hm hc hf hs ih =>
  intro hr;obtain⟨cs,rfl,H⟩:=ih (z7d hr _);have hcm:=λd=>zrv hr hc (d:=d);refine⟨c::cs,by simp,H.sorted,λd=>?_,by simp[H.len],λi y hy=>?_,?_,?_⟩
  ·rw[H.mem,hcm];constructor
   ·rintro⟨⟨h1,h2⟩,h3⟩;refine⟨h1,λy hy=>?_⟩;rcases zY0g.1 hy with rfl|hy
    ·rw[<- hf.p];exact λe=>h2 e.symm
    ·exact h3 y hy
   ·rintro⟨h1,h2⟩;exact⟨⟨h1,λe=>h2 x (zY0i ..) (by rw[<- hf.p,e])⟩,λy hy=>h2 y (zY0h _ hy)⟩
  ·cases i with
   |zero =>simp only[zY05,zY00]at hy;subst hy;exact⟨c,rfl,hm,hf⟩
   |succ i =>obtain⟨d,h1,h2,h3⟩:=H.fine i y zXu;exact⟨d,by simpa using h1,(hcm d).1 h2 |>.1,h3⟩
  ·refine zY1h.2 ⟨λy hy=>?_,H.apart⟩;obtain⟨i,hi⟩:=zY27 hy;obtain⟨d,_,h2,h3⟩:=H.fine i y hi;have:=((hcm d).1 h2).2;rw[h3.p,hf.p]at this;exact λe=>this e.symm
  ·rw[z07p hc,H.total,zm];omega
theorem Spent.of{h:Int}:∀ {xs:List In} {r s cs:List Coin},z05 r->xs.Pairwise (λx y=>x.p≠y.p)->cs.length=xs.length->(∀(i:Nat) (x:In),xs[i]?=some x->∃c,cs[i]?=some c/\c∈r/\Fine h x c)->∃r',Spent h r s xs r' (s++cs)
 | [],r,s,cs,hr,ha,hl,hf=>by have:cs=[]:=zY0c hl;subst this;exact⟨r,by rw[zY1b];exact .nil r s⟩
 |x::xs,r,s,[],hr,ha,hl,hf=>by cases hl
 |x::xs,r,s,c::cs,hr,ha,hl,hf=>by
  obtain⟨c',h1,hm,hfx⟩:=hf 0 x rfl;simp only[zY05,zY00]at h1;subst h1;have hc:r[zp r x.p]?=some c:=by rw[<- hfx.p];exact zkm hr hm
  have ha':=zY1h.1 ha;obtain⟨r',hs⟩:=Spent.of (s:=s++[c]) (cs:=cs) (z7d hr (zp r x.p)) ha'.2 zXf λi y hy=>by obtain⟨d,k1,k2,k3⟩:=hf (i+1) y zXu;refine⟨d,by simpa using k1,(zrv hr hc).2 ⟨k2,?_⟩,k3⟩;rw[k3.p,hfx.p];exact λe=>ha'.1 y (zY06 hy) e.symm
  exact⟨r',.cons hm hc hfx (by rw[zY1a]at hs;exact hs)⟩
def z7z(nm h:Int)(rw:Bool)(i:Nat)(o:Out):Coin:=⟨⟨nm,i⟩,o,h,rw⟩
inductive Brought(nm h:Int)(rw:Bool):List Coin->Nat->List Out->List Coin->Prop
 |nil (r i):Brought nm h rw r i [] r
 |cons {r:List Coin} {i:Nat} {o:Out} {os:List Out} {m:List Coin}:z1q r ⟨nm,i⟩=false->Brought nm h rw (r.take (zp r ⟨nm,i⟩)++[z7z nm h rw i o]++r.drop (zp r ⟨nm,i⟩)) (i+1) os m->Brought nm h rw r i (o::os) m
theorem Brought.run{ρ:Type}{nm h:Int}{rw:Bool}{bad:Int->ρ}{K:List Coin->ρ}{r m:List Coin}{i:Nat}{os:List Out}(hb:Brought nm h rw r i os m):z3c nm h rw bad K r i os=K m:=by
 induction hb with
 |nil r i=>rfl
 |cons hn _ ih=>rw[z3c,zN (by simp[hn])];exact ih
theorem zns{nm h:Int}{rw:Bool}{K:List Coin->List Coin×List Coin×Int}:∀ {os:List Out} {r:List Coin} {i:Nat},(z3c nm h rw z1v K r i os).2.2=0->∃m,Brought nm h rw r i os m/\z3c nm h rw z1v K r i os=K m
 | [],r,i,_=>⟨r,.nil r i,rfl⟩
 |o::os,r,i,h0=>by
  rw[z3c]at h0⊢;cases hp:z1q r ⟨nm,i⟩with
  |true=>rw[hp,zP rfl]at h0;cases h0
  |false =>rw[hp,zN zX4]at h0;rw[zN zX4];obtain⟨m,h1,h2⟩:=zns h0;exact⟨m,.cons hp h1,h2⟩
def z12(os:List Out):Int:=(os.map Out.coin).sum
structure BroughtAs(nm h:Int)(rw:Bool)(r:List Coin)(i:Nat)(os:List Out)(m:List Coin):Prop where
 sorted:z05 m
 mem:∀c,c∈m↔c∈r\/∃(j:Nat) (o:Out),os[j]?=some o/\c=z7z nm h rw (i+j) o
 free:∀c∈r,∀j,j<os.length->c.p≠⟨nm,((i+j:Nat):Int)⟩
 total:zm m=zm r+z12 os
 len:m.length=r.length+os.length
theorem Brought.as{nm h:Int}{rw:Bool}{r m:List Coin}{i:Nat}{os:List Out}(hb:Brought nm h rw r i os m):z05 r->BroughtAs nm h rw r i os m:=by
 induction hb with
 |nil r i=>exact λhr=>⟨hr,λc=>by simp,λc _ j hj=>by simp at hj,by simp[z12],by simp⟩
 | @cons r i o os m hn hb ih =>
  intro hr;have H:=ih (z69 hr (c:=z7z nm h rw i o) hn);refine⟨H.sorted,λc=>?_,λc hc j hj=>?_,?_,?_⟩
  ·rw[H.mem,put_mem];constructor
   ·rintro((rfl|h1)|⟨j,q,h1,h2⟩)
    ·exact .inr ⟨0,o,rfl,rfl⟩
    ·exact .inl h1
    ·exact .inr ⟨j+1,q,by simpa using h1,by rw[h2,show i+1+j=i+(j+1)by omega]⟩
   ·rintro(h1|⟨j,q,h1,h2⟩)
    ·exact .inl (.inr h1)
    ·cases j with
     |zero =>simp only[zY05,zY00]at h1;subst h1;exact .inl (.inl h2)
     |succ j=>exact .inr ⟨j,q,by simpa using h1,by rw[h2,show i+1+j=i+(j+1)by omega]⟩
  ·cases j with
   |zero=>exact hasP_not.1 hn c hc
   |succ j =>
    have:=H.free c (put_mem.2 (.inr hc)) j zX14
    rwa [show i+1+j=i+(j+1)by omega]at this
  ·rw[H.total,z07q];simp only[z12,zY1n,List.sum_cons,z7z];omega
  ·rw[H.len];simp only[zY04,zY0d,zY0w,zY08,zY0p];omega
theorem Brought.of{nm h:Int}{rw:Bool}:∀ {os:List Out} {r:List Coin} {i:Nat},z05 r->(∀c∈r,∀j,j<os.length->c.p≠⟨nm,((i+j:Nat):Int)⟩)->∃m,Brought nm h rw r i os m
 | [],r,i,_,_=>⟨r,.nil r i⟩
 |o::os,r,i,hr,hf=>by
  have hn:z1q r ⟨nm,i⟩=false:=hasP_not.2 λc hc=>hf c hc 0 zX4;obtain⟨m,hb⟩:=Brought.of (os:=os) (i:=i+1) (z69 hr (c:=z7z nm h rw i o) hn) λc hc j hj=>by
   rcases put_mem.1 hc with rfl|hc
   ·simp only[z7z,ne_eq,Point.mk.injEq,not_and];intro _;omega
   ·have:=hf c hc (j+1) zX14
    rwa [show i+(j+1)=i+1+j by omega]at this
  exact⟨m,.cons hn hb⟩
theorem z07r(os:List Out):∀s:Int,os.foldl (λs o=>s-o.coin) s=s-z12 os:=by
 induction os with
 |nil=>intro s;simp[z12]
 |cons o os ih=>intro s;rw[List.foldl_cons,ih];simp only[z12,zY1n,List.sum_cons];omega
theorem zew(t:Tx)(s:List Coin):z16 t s=zm s-z12 t.outs:=by unfold z16;rw[z07r,z00d];omega
structure Done(l:List Coin)(t:Tx)(nm h:Int)(r s m:List Coin):Prop where
 ok:CoinsOK l
 tx:zo t=0
 nm1:1<=nm
 nm2:nm<=120
 h1:1<=h
 h2:h<=1000
 height:t.ins.length=0->t.height=h
 spent:Spent h l [] t.ins r s
 fee:t.ins.length≠0->0<=z16 t s
 brought:Brought nm h (decide ((t.ins.length:Int)=0)) r 0 t.outs m
 end_:CoinsOK m
theorem Done.run{l:List Coin}{t:Tx}{nm h:Int}{r s m:List Coin}(d:Done l t nm h r s m):zy l t nm h=(m,s,0):=by
 unfold zy;have hE:z5w s m=(m,s,0):=by unfold z5w;rw[zN (by rw[(z0m m).2 d.end_];decide)]
 have a:=d.nm1;have b:=d.nm2;have c:=d.h1;have e:=d.h2;rw[zN (by rw[(z0m l).2 d.ok];decide),zN (by rw[d.tx];decide),zN zX0];by_cases h0:(t.ins.length:Int)=0
 ·rw[zP h0,zN (by rw[d.height zX0];simp),d.spent.run,d.brought.run,hE]
 ·rw[zN h0,d.spent.run,zN (by have:=d.fee zX0;omega),d.brought.run,hE]
theorem z96{l:List Coin}{t:Tx}{nm h:Int}(h0:(zy l t nm h).2.2=0):∃r,Done l t nm h r (zy l t nm h).2.1 (zy l t nm h).1:=by
 have key:∃r s m,Done l t nm h r s m:=by
  unfold zy at h0;by_cases k1:z9 l=0
  ·rw[zN (by rw[k1];decide)]at h0;have ok:=(z0m l).1 k1;by_cases k2:zo t=0
   ·rw[zN (by rw[k2];decide)]at h0;by_cases k3:nm<1\/120<nm\/h<1\/1000<h
    ·rw[zP k3]at h0;cases h0
    ·rw[zN k3]at h0;by_cases k4:(t.ins.length:Int)=0
     ·rw[zP k4]at h0;by_cases k5:t.height≠h
      ·rw[zP k5]at h0;cases h0
      ·rw[zN k5]at h0;obtain⟨r,s,q1,q2⟩:=znr ok.sorted h0;rw[q2]at h0;obtain⟨m,q3,q4⟩:=zns h0;rw[q4]at h0;unfold z5w at h0;by_cases k6:z9 m=0
       ·exact⟨r,s,m,ok,k2,by omega,by omega,by omega,by omega,λ_=>zY0u.1 k5,q1,λh=>absurd zX0 h,q3,(z0m m).1 k6⟩
       ·rw[zP k6]at h0;exact absurd h0 k6
     ·rw[zN k4]at h0;obtain⟨r,s,q1,q2⟩:=znr ok.sorted h0;rw[q2]at h0;by_cases k5:z16 t s<0
      ·simp only[zP k5]at h0;cases h0
      ·simp only[zN k5]at h0;obtain⟨m,q3,q4⟩:=zns h0;rw[q4]at h0;unfold z5w at h0;by_cases k6:z9 m=0
       ·exact⟨r,s,m,ok,k2,by omega,by omega,by omega,by omega,λh=>absurd zX0 k4,q1,λ_=>by omega,q3,(z0m m).1 k6⟩
       ·rw[zP k6]at h0;exact absurd h0 k6
   ·rw[zP k2]at h0;exact absurd h0 k2
  ·rw[zP k1]at h0;exact absurd h0 k1
 obtain⟨r,s,m,d⟩:=key;refine⟨r,?_⟩;rw[d.run];exact d
theorem zy0{ρ:Type}{nm h:Int}{rw:Bool}{bad:Int->ρ}{K:List Coin->ρ}:∀ {os:List Out} {r m:List Coin} {i:Nat},z05 r->Brought nm h rw r i os m->z87 nm bad K m i os=K r
 | [],r,m,i,hr,hb=>by cases hb;rfl
 |o::os,r,m,i,hr,hb=>by
  have B:=hb.as hr;have hmem:z7z nm h rw i o∈m:=(B.mem _).2 (.inr ⟨0,o,rfl,rfl⟩);have hp:z1q m ⟨nm,i⟩=true:=hasP_mem.2 ⟨_,hmem,rfl⟩;have hat:m[zp m ⟨nm,i⟩]?=some (z7z nm h rw i o):=zkm B.sorted hmem;have hfree:∀c∈r,∀j,j<os.length->c.p≠⟨nm,((i+1+j:Nat):Int)⟩:=λc hc j hj=>by
   have:=B.free c hc (j+1) zX14
   rwa [show i+(j+1)=i+1+j by omega]at this
  obtain⟨m2,hb2⟩:=Brought.of (nm:=nm) (h:=h) (rw:=rw) (os:=os) (r:=r) (i:=i+1) hr hfree;have B2:=hb2.as hr;have he:m.take (zp m ⟨nm,i⟩)++m.drop (zp m ⟨nm,i⟩+1)=m2:=by
   refine zia (z7d B.sorted _) B2.sorted λc=>?_;rw[zrv B.sorted hat,B.mem,B2.mem];constructor
   ·rintro⟨h1|⟨j,q,h1,rfl⟩,h2⟩
    ·exact .inl h1
    ·cases j with
     |zero=>exact absurd rfl h2
     |succ j=>exact .inr ⟨j,q,by simpa using h1,by rw[show i+1+j=i+(j+1)by omega]⟩
   ·rintro(h1|⟨j,q,h1,rfl⟩)
    ·exact⟨.inl h1,by have:=B.free c h1 0 zX4;exact this⟩
    ·refine⟨.inr ⟨j+1,q,by simpa using h1,by rw[show i+1+j=i+(j+1)by omega]⟩,?_⟩;simp only[z7z,ne_eq,Point.mk.injEq,not_and];intro _;omega
  rw[z87,zP hp,hat];simp only[zY1f];rw[zP (by simp[z7z]),he];exact zy0 hr hb2
theorem zy1{ρ:Type}{ins:List In}{bad:Int->ρ}{K:List Coin->ρ}:∀ {cs r:List Coin} {k:Nat},z05 r->(∀c∈cs,∀d∈r,d.p≠c.p)->cs.Pairwise (λc d=>c.p≠d.p)->(∀(j:Nat) (c:Coin),cs[j]?=some c->∃x,ins[k+j]?=some x/\x.p=c.p)->∃q,z6t ins bad K r k cs=K q/\z05 q/\∀c,c∈q↔c∈r\/c∈cs
 | [],r,k,hr,_,_,_=>⟨r,rfl,hr,λc=>by simp⟩
 |c::cs,r,k,hr,hd,hp,hi=>by
  have hn:z1q r c.p=false:=hasP_not.2 λd hd'=>hd c (zY0i ..) d hd';obtain⟨x,hx,hxp⟩:=hi 0 c rfl;have hp':=zY1h.1 hp;obtain⟨q,h1,h2,h3⟩:=zy1 (bad:=bad) (K:=K) (cs:=cs) (r:=r.take (zp r c.p)++[c]++r.drop (zp r c.p)) (k:=k+1) (z69 hr hn) (λe he d hd'=>by
   rcases put_mem.1 hd' with rfl|hd'
   ·exact hp'.1 e he
   ·exact hd e (zY0h _ he) d hd') hp'.2 λj e he=>by obtain⟨y,hy,hyp⟩:=hi (j+1) e zX1h;exact⟨y,by rwa [show k+(j+1)=k+1+j by omega]at hy,hyp⟩
  refine⟨q,?_,h2,λe=>?_⟩
  ·rw[z6t,zN (by simp[hn]),show k=k+0 from rfl,hx];simp only[zY1f];rw[zN (by simp[hxp])];exact h1
  ·rw[h3,put_mem,zY0g];constructor
   ·rintro((rfl|h)|h)
    ·exact .inr (.inl rfl)
    ·exact .inl h
    ·exact .inr (.inr h)
   ·rintro(h|rfl|h)
    ·exact .inl (.inr h)
    ·exact .inl (.inl rfl)
    ·exact .inr h
theorem SpentAs.apart'{h:Int}{l:List Coin}{xs:List In}{r cs:List Coin}(S:SpentAs h l xs r cs):cs.Pairwise λc d=>c.p≠d.p:=by rw[zY2t];intro i j hi hj hij;have hl:=S.len;obtain⟨c,h1,_,h2⟩:=S.fine i xs[i] (zY03 zX0);obtain⟨d,h3,_,h4⟩:=S.fine j xs[j] (zY03 zX0);rw[zY03 hi]at h1;rw[zY03 hj]at h3;injection h1 with h1;injection h3 with h3;rw[h1,h3,h2.p,h4.p];exact zY2t.1 S.apart i j zX0 zX0 hij
theorem SpentAs.from{h:Int}{l:List Coin}{xs:List In}{r cs:List Coin}(S:SpentAs h l xs r cs){c:Coin}(hc:c∈cs):c∈l/\∃x∈xs,x.p=c.p:=by obtain⟨i,hi,rfl⟩:=zY23 hc;have hl:=S.len;obtain⟨c,h1,h2,h3⟩:=S.fine i xs[i] (zY03 zX0);rw[zY03 hi]at h1;injection h1 with h1;rw[h1];exact⟨h2,_,zY1y _,h3.p.symm⟩
theorem SpentAs.all{h:Int}{l:List Coin}{xs:List In}{r cs:List Coin}(S:SpentAs h l xs r cs)(hs:z05 l){c:Coin}:c∈l↔c∈r\/c∈cs:=by
 constructor
 ·intro hc;by_cases hx:∃x∈xs,x.p=c.p
  ·obtain⟨x,hx,he⟩:=hx;obtain⟨i,hi⟩:=zY27 hx;obtain⟨d,h1,h2,h3⟩:=S.fine i x hi;have:d=c:=zmg hs h2 hc (h3.p.trans he);subst this;exact .inr (zY06 h1)
  ·exact .inl ((S.mem c).2 ⟨hc,λx hx' he=>hx ⟨x,hx',he⟩⟩)
 ·rintro(hc|hc)
  ·exact((S.mem c).1 hc).1
  ·exact(S.from hc).1
theorem Done.spentAs{l:List Coin}{t:Tx}{nm h:Int}{r s m:List Coin}(d:Done l t nm h r s m):SpentAs h l t.ins r s:=by obtain⟨cs,e,S⟩:=d.spent.as d.ok.sorted;rw[zY16]at e;exact e▸S
theorem Done.broughtAs{l:List Coin}{t:Tx}{nm h:Int}{r s m:List Coin}(d:Done l t nm h r s m):BroughtAs nm h (decide ((t.ins.length:Int)=0)) r 0 t.outs m:=d.brought.as d.spentAs.sorted
theorem Done.back{l:List Coin}{t:Tx}{nm h:Int}{r s m:List Coin}(d:Done l t nm h r s m):z1i m t nm s=(l,0):=by
 have S:=d.spentAs;unfold z1i;rw[zN (by rw[(z0m m).2 d.end_];decide),zN (by rw[d.tx];decide),zN (by have:=S.len;omega),zy0 S.sorted d.brought];obtain⟨q,h1,h2,h3⟩:=zy1 (ins:=t.ins) (bad:=z5x) (K:=za5) (cs:=s) (r:=r) (k:=0) S.sorted (λc hc e he=>by obtain⟨_,x,hx,hxp⟩:=S.from hc;rw[<- hxp];exact λe'=>((S.mem e).1 he).2 x hx e'.symm) S.apart' λj c hc=>by have hj:=(zY02.1 hc).1;have hl:=S.len;obtain⟨c',k1,_,k3⟩:=S.fine j t.ins[j] (zY03 zX0);rw[hc]at k1;injection k1 with k1;exact⟨t.ins[j],by rw[zY0z];exact zY03 zX0,by rw[k1,k3.p]⟩
 rw[h1];have:q=l:=zia h2 d.ok.sorted λc=>by rw[h3,S.all d.ok.sorted]
 subst this;unfold za5;rw[zN (by rw[(z0m q).2 d.ok];decide)]
theorem Done.short{l:List Coin}{t:Tx}{nm h:Int}{r s m:List Coin}(d:Done l t nm h r s m):z54 s:=by have S:=d.spentAs;exact⟨by have:=S.len;have:=(z3t d.tx).ins;omega,λc hc=>d.ok.short.2 c (S.from hc).1⟩
theorem zy2{t:Tx}(ok:TxOK t):0<z12 t.outs:=by
 have key:∀os:List Out,(∀o∈os,1<=o.coin)->(os.length:Int)<=z12 os:=by
  intro os;induction os with
  |nil=>intro _;simp[z12]
  |cons o os ih =>intro h;have h1:=h o (zY0i ..);have h2:=ih λx hx=>h x (zY0h _ hx);simp only[z12,zY1n,List.sum_cons,zY08]at h2⊢;omega
 have:=key t.outs λo ho=>(ok.good o ho).1;have:=ok.some;omega
theorem z07s{m:List Coin}{p:Point}(ok:CoinsOK m)(h:z1q m p=false):zgx m p=(z6s,7):=by unfold zgx;rw[zN (by rw[(z0m m).2 ok];decide),zN (by simp[h])]
theorem z04f{m:List Coin}{c:Coin}(ok:CoinsOK m)(h:c∈m):zgx m c.p=(c,0):=by unfold zgx;rw[zN (by rw[(z0m m).2 ok];decide),zP (hasP_mem.2 ⟨c,h,rfl⟩),zkm ok.sorted h];rfl
theorem Done.gone{l:List Coin}{t:Tx}{nm h:Int}{r s m:List Coin}(d:Done l t nm h r s m){x:In}(hx:x∈t.ins)(hn:x.p.tx≠nm):zgx m x.p=(z6s,7):=by
 have S:=d.spentAs;have B:=d.broughtAs;refine z07s d.end_ (hasP_not.2 λc hc e=>?_);rcases(B.mem c).1 hc with hc|⟨j,o,_,rfl⟩
 ·exact((S.mem c).1 hc).2 x hx e.symm
 ·exact hn (by rw[<- e];rfl)
theorem Done.was{l:List Coin}{t:Tx}{nm h:Int}{r s m:List Coin}(d:Done l t nm h r s m){x:In}(hx:x∈t.ins):∃c,zgx l x.p=(c,0):=by obtain⟨i,hi⟩:=zY27 hx;obtain⟨c,_,hc,hf⟩:=d.spentAs.fine i x hi;exact⟨c,by rw[<- hf.p];exact z04f d.ok hc⟩
section
open Go.Lib (itoa)
def zc0(b:Block)(ns:List Int)(l:List Coin)(us:List Undo)(most:Int):List Coin×List Undo×Int :=
 if most < -z16 (b.txs.getD 0 zTx) []then([],[],9)else
 if(zy l (b.txs.getD 0 zTx) (ns.getD 0 0) b.height).2.2≠0 then([],[],(zy l (b.txs.getD 0 zTx) (ns.getD 0 0) b.height).2.2)else
 ((zy l (b.txs.getD 0 zTx) (ns.getD 0 0) b.height).1,us.set 0 ⟨(zy l (b.txs.getD 0 zTx) (ns.getD 0 0) b.height).2.1⟩,0)
def z5n(b:Block)(ns:List Int)(l:List Coin)(us:List Undo)(most:Int)(i:Nat):List Tx->List Coin×List Undo×Int
 | []=>zc0 b ns l us most
 |t::r=>if(zy l t (ns.getD i 0) b.height).2.2≠0 then([],[],(zy l t (ns.getD i 0) b.height).2.2)else
  z5n b ns (zy l t (ns.getD i 0) b.height).1 (us.set i ⟨(zy l t (ns.getD i 0) b.height).2.1⟩) (most+z16 t (zy l t (ns.getD i 0) b.height).2.1) (i+1) r
def z03(k:Book)(l:List Coin)(b:Block):List Coin×List Undo×Int :=
 if z9 l≠0 then([],[],z9 l)else
 if(z0c k b).2.2.2≠0 then([],[],(z0c k b).2.2.2)else
 z5n b (z0c k b).2.2.1 l (List.replicate b.txs.length ⟨[]⟩) (z0z b.height) 1 (b.txs.drop 1)
theorem zbc{k:Book}{b:Block}(h:(z0c k b).2.2.2=0):zf b=0/\(z0c k b).2.2.1.length=b.txs.length:=by
 unfold z0c at h⊢;by_cases hp:(z18 b).2=0
 ·rw[zN (λk=>k hp)]at h⊢;refine⟨ziu hp,?_⟩;unfold zes at h⊢;by_cases ha:(z2v k (zh2 b++[(z18 b).1])).2.2=0
  ·rw[zN (λk=>k ha)];have:=zmc ha;have h1:(zh2 b).length=b.txs.length:=by simp[zh2]
   show(List.take _ _).length=_;rw[zY0d,this,zY04,h1,zY1c];omega
  ·rw[zP ha]at h;exact absurd h ha
 ·rw[zP hp]at h;exact absurd h hp
theorem z0ax{t:Tx}(h:zo t=0):z9l (t,[]):=by have ok:=z3t h;exact⟨by simp,by simp,by have:=ok.outs;simp only;omega,λo ho=>by have:=ok.good o ho;omega⟩
theorem z0dy{t:Tx}(ok:TxOK t):z12 t.outs<=1000000000*t.outs.length:=by
 have key:∀os:List Out,(∀o∈os,o.coin<=1000000000)->z12 os<=1000000000*os.length:=by
  intro os;induction os with
  |nil=>intro _;simp[z12]
  |cons o os ih =>intro h;have h1:=h o (zY0i ..);have h2:=ih λx hx=>h x (zY0h _ hx);simp only[z12,zY1n,List.sum_cons,zY08]at h2⊢;omega
 exact key t.outs λo ho=>(ok.good o ho).2.1
theorem z0dz{t:Tx}(h:zo t=0): -10000000000<=z16 t []/\z16 t []<0:=by have ok:=z3t h;have h1:=zy2 ok;have h2:=z0dy ok;have h3:=ok.outs;rw[zew];simp only[zm];omega
theorem ztv{l:List Coin}{t:Tx}{nm h:Int}(h0:(zy l t nm h).2.2=0):z9l (t,(zy l t nm h).2.1) /\ -10000000000<=z16 t (zy l t nm h).2.1/\z16 t (zy l t nm h).2.1<=10000000000:=by obtain⟨r,d⟩:=z96 h0;generalize(zy l t nm h).2.1=s at *;generalize(zy l t nm h).1=m at *;have ok:=z3t d.tx;have S:=d.spentAs;have B:=d.broughtAs;have h1:=S.total;have h2:=B.total;have hl:=d.ok.total;have hm:=d.end_.total;have hr:0<=zm r:=zek λc hc=>d.ok.good c ((S.mem c).1 hc).1;have hs:0<=zm s:=zek λc hc=>d.ok.good c (S.from hc).1;have ho:=zy2 ok;have hsl:=S.len;have:=ok.ins;have:=ok.outs;refine⟨⟨by simp only;omega,λc hc=>by have:=z49 (d.ok.good c (S.from hc).1);omega,by simp only;omega,λo ho=>by have:=ok.good o ho;omega⟩,?_⟩;rw[zew];omega
section
variable {sp:Nat->zd} {N:Nat} {E E':Env} {ks:List (List Dt->Option (List Dt))} {res:Option (List Dt)} {k:T}
theorem zy3{a:Atom}{n:Nat}(ha:a.val E=some (I n))(h:n<=1000):denX sp E (.mkz 1 [.nil 6] a)=some (.l 1 ((List.replicate n (⟨[]⟩:Undo)).map z6q)):=by rw[z0fr (sz:=1) (z:=[.nil 6]) ha zX0 zX0 rfl,zY1d,List.map_replicate];rfl
theorem zh8{α:Type}{f:α->List Dt}{l:List α}{x y:α}{sz j n:Nat}{m:Int}{a b:Atom}{vs:List Atom}{ds:List Dt}(hm:m.toNat=n)(ha:a.val E=some (.l sz (l.map f)))(hb:b.val E=some (I m))(hv:vals E vs=some ds)(h0:0<=m)(hs:j+ds.length<=sz)(hx:l[n]?=some x)(hy:z81 (f x) j ds=f y):denX sp E (.set a b j vs)=some (.l sz ((l.set n y).map f)):=by subst hm;exact z06l ha hb hv h0 hs hx hy
theorem dqs{x:X}(hk:den sp N k E ks=res)(h:denX sp E x=some (.b true)):den sp N (.W [] [x] k) E ks=res:=z26 (by with_unfolding_all simp only[z0w,h]) hk
theorem znt{σ ρ:Type}[Enc ρ]{ats:List Atom}{body:T}(enc:σ->Int->List Dt)(go:σ->Nat->ρ)(Inv:σ->Nat->Prop)(s0:σ)(n:Nat)(h:vals E ats=some (enc s0 n))(h0:Inv s0 n)(hN:n<N)
  (step:∀(s:σ) (i:Nat),i<n->Inv s (i+1)->∀again:List Dt->Option (List Dt),(∀s',Inv s' i->again (enc s' i)=ret (go s' i))->den sp N body (E++enc s ((i:Int)+1)) (ks++[again])=ret (go s (i+1)))
  (last:∀(s:σ),Inv s 0->∀again:List Dt->Option (List Dt),den sp N body (E++enc s 0) (ks++[again])=ret (go s 0)):den sp N (.loop ats body) E ks=ret (go s0 n):=by
 refine z0y h ?_;have key:∀(i:Nat) (s:σ),i<=n->Inv s i->∀M,i<M->z04 (λagain ds=>den sp N body (E++ds) (ks++[again])) M (enc s i)=ret (go s i):=by
  intro i;induction i with
  |zero =>
   intro s _ hi M hM;obtain⟨M,rfl⟩:∃j,M=j+1:=⟨M-1,by omega⟩
   rw[z04];exact last s hi _
  |succ i ih =>
   intro s hn hi M hM;obtain⟨M,rfl⟩:∃j,M=j+1:=⟨M-1,by omega⟩
   rw[z04];exact step s i zX0 hi _ λs' hi'=>ih s' zX0 hi' M zX0
 exact key n s0 (zY0k _) h0 N hN
end
theorem z1r{α:Type}{l:List α}{i:Nat}(d:α)(h:i<l.length):l[i]?=some (l.getD i d):=by rw[zY0r,zY03 h];rfl
def zbd(b:Block)(ns:List Int)(us:List Undo)(l:List Coin):Nat->List Coin×Int
 |0=>(l,0)
 |i+1=>if(z1i l (b.txs.getD (i+1) zTx) (ns.getD (i+1) 0) (us.getD (i+1) ⟨[]⟩).spent).2≠0 then([],(z1i l (b.txs.getD (i+1) zTx) (ns.getD (i+1) 0) (us.getD (i+1) ⟨[]⟩).spent).2)else
  zbd b ns us (z1i l (b.txs.getD (i+1) zTx) (ns.getD (i+1) 0) (us.getD (i+1) ⟨[]⟩).spent).1 i
def z1o(k:Book)(l:List Coin)(b:Block)(us:List Undo):List Coin×Int :=
 if z9 l≠0 then([],z9 l)else
 if(z0c k b).2.2.2≠0 then([],(z0c k b).2.2.2)else
 if(us.length:Int)≠b.txs.length then([],4)else
 if(z1i l (b.txs.getD 0 zTx) ((z0c k b).2.2.1.getD 0 0) (us.getD 0 ⟨[]⟩).spent).2≠0 then([],(z1i l (b.txs.getD 0 zTx) ((z0c k b).2.2.1.getD 0 0) (us.getD 0 ⟨[]⟩).spent).2)else
 zbd b (z0c k b).2.2.1 us (z1i l (b.txs.getD 0 zTx) ((z0c k b).2.2.1.getD 0 0) (us.getD 0 ⟨[]⟩).spent).1 (b.txs.length-1)
noncomputable def z4v:zd:=spD (λ_:Book×List Coin×Block=>True) λx=>z03 x.1 x.2.1 x.2.2
theorem zex(k:Book)(l:List Coin)(b:Block):z4v [.l 1 (k.texts.map z0a),.l 6 (l.map za),I b.parent,I b.height,I b.work,I b.nonce,.l 3 (b.txs.map eTx)]=some [.l 6 ((z03 k l b).1.map za),.l 1 ((z03 k l b).2.1.map z6q),I (z03 k l b).2.2]:=zi (f:=λx:Book×List Coin×Block=>z03 x.1 x.2.1 x.2.2) (k,l,b) trivial
def z3f(us:List Undo):Prop:=∀u∈us,zev u.spent
noncomputable def zbe:zd:=spD (λx:Book×List Coin×Block×List Undo=>z3f x.2.2.2) λx=>z1o x.1 x.2.1 x.2.2.1 x.2.2.2
theorem z9w(k:Book)(l:List Coin)(b:Block)(us:List Undo)(h:z3f us):zbe [.l 1 (k.texts.map z0a),.l 6 (l.map za),I b.parent,I b.height,I b.work,I b.nonce,.l 3 (b.txs.map eTx),.l 1 (us.map z6q)]=some [.l 6 ((z1o k l b us).1.map za),I (z1o k l b us).2]:=zi (p:=λx:Book×List Coin×Block×List Undo=>z3f x.2.2.2) (f:=λx:Book×List Coin×Block×List Undo=>z1o x.1 x.2.1 x.2.2.1 x.2.2.2) (k,l,b,us) h
theorem short_nil:z54 []:=⟨by simp,by simp⟩
theorem z07t{E:Env}{as0:List Atom}{l:List Coin}{n m:Int}(h:vals E as0=some [.l 6 (l.map za),I 0,.l 6 [],I 0,I n])(e:n=m):vals E as0=some [.l 6 (l.map za),I 0,.l 6 [],I 0,I m]:=e▸h
theorem zy4(n:Int):0<=z0z n/\z0z n<=1000:=by have h:=zfj n;exact h
theorem zy5{us:List Undo}(h:z3f us)(i:Nat):zev (us.getD i ⟨[]⟩).spent:=by
 rw[zY0r];cases hi:us[i]? with
 |none=>exact short_nil.2
 |some u=>exact h u (zY06 hi)
attribute [local irreducible] den denX z0s z0w z09 spD zy z1i z16 z0c z9 z0z
def zrw:T:=.W (zK 17 [18,26,27,28,29,3] 3) [] (.W [] [.inr 1 20 23] (zS (.set 20 23 0 [31]) (zQ .neq 32 (zI 0) 34 (.ret [.c (.nil 6),.c (.nil 1),32]) (zE 3 6 23 (zE 1 33 23 (zC 12 [35,36,37,38] (zB .add 22 39 (zB .add 23 (zI 1) (.again 0 [30,19,33,32,40,41])))))))))
def zrx:T:=zC 12 [26,27,28,.c (.nil 6)] (zS (.neg 29) (zQ .gtr 30 22 31 (.ret [.c (.nil 6),.c (.nil 1),zI 9]) (zE 3 6 (zI 0) (zE 1 11 (zI 0) (.W (zK 17 [18,32,33,34,35,3] 3) [] (.W [] [.inr 1 20 (zI 0)] (zS (.set 20 (zI 0) 0 [37]) (zUl 38 40 (.c (.nil 1)) 36 39))))))))
def zry:T:=.W (zK 60 [0,2,3,4,5,6] 4) [] (zQ .neq 12 (zI 0) 13 (.ret [.c (.nil 6),.c (.nil 1),12]) (.W (zK 61 [3] 2) [] (zL 6 (zS (.mkz 1 [.nil 6] 16) (.loop [1,.c (.nil 6),17,12,14,zI 1] (zL 6 (zQ .lss 23 24 25 (zE 3 6 23 (zE 1 11 23 zrw)) (zE 3 6 (zI 0) zrx))))))))
def zey:T:=zC 8 [1] (zQ .neq 7 (zI 0) 8 (.ret [.c (.nil 6),.c (.nil 1),7]) zry)
def z00s:T:=zB .sub 26 (zI 1) (.loop [23,24,.c (.nil 6),zI 0,27] (zQ .gtr 32 (zI 0) 33 (zE 3 6 32 (zE 1 12 32 (zE 1 7 32 (.W (zK 28 [28,34,35,36,37,38] 2) [] (zQ .neq 40 (zI 0) 41 (.ret [.c (.nil 6),40]) (zB .sub 32 (zI 1) (.again 0 [39,40,30,31,42]))))))) (.ret [28,zI 0])))
def z00t:T:=zQ .neq 13 (zI 0) 14 (.ret [.c (.nil 6),13]) (zL 7 (zL 6 (zQ .neq 15 16 17 (.ret [.c (.nil 6),zI 4]) (zE 3 6 (zI 0) (zE 1 12 (zI 0) (zE 1 7 (zI 0) (.W (zK 28 [1,18,19,20,21,22] 2) [] (zQ .neq 24 (zI 0) 25 (.ret [.c (.nil 6),24]) (zL 6 z00s)))))))))
def zkn:T:=zC 8 [1] (zQ .neq 8 (zI 0) 9 (.ret [.c (.nil 6),8]) (.W (zK 60 [0,2,3,4,5,6] 4) [] z00t))
attribute [local irreducible] z3o z7l zbb z3s za1
theorem zko:Meets Tryz.prog z4v 41 zW0i:=by
 refine zg (sp:=(zx [(8,z3s),(12,za1),(17,zbb),(60,z3o),(61,z7l)])) (sigs:=z02) (cut:=[]) (hints:=[⟨10,[.t 1,.r 6 84 6,.r 7 99 1,.t 8,.t 13,.t 15,.z 41]⟩]) (fn:=Tryz.f41) (t:=zey) ?_ ?_
 ·exact(zq (L:=[(8,z3s),(12,za1),(17,zbb),(60,z3o),(61,z7l)]) ⟨z7 rfl zfd,z7 rfl z026,z7 rfl z07o,z7 rfl zi3,z7 rfl zxp,trivial⟩)
 ·rintro ds rs hok h;obtain⟨⟨k,l,b⟩,-,rfl,rfl⟩:=zh h;clear h;refine⟨⟨100,?_⟩,z11 ⟨rfl,trivial⟩⟩;show den _ _ zey [.l 1 (k.texts.map z0a),.l 6 (l.map za),I b.parent,I b.height,I b.work,I b.nonce,.l 3 (b.txs.map eTx)] []=ret (z03 k l b);have a1:=z4s l;have a2:=z94 k b;have a3:=znn b.height;have hnm:=zbc (k:=k) (b:=b);have hrw:0<=z0z b.height/\z0z b.height<=1000:=zy4 b.height;unfold zey z03;generalize z0c k b=nm at *;obtain⟨tx,n0,ns,e⟩:=nm;generalize z0z b.height=rw0 at *;simp only at *;by_cases hc:z9 l=0
  rotate_left
  ·repeat'(first|refine dq1 ?_|refine dqk rfl (a1) ?_|exact z5 rfl rfl|refine tR (λh=>?_) λh=>?_|fail)
   all_goals(exfalso;omega)
  by_cases he:e=0
  rotate_left
  ·repeat'(first|refine dq1 ?_|refine dqk rfl (a1) ?_|refine dqK rfl (a2) ?_|exact z5 rfl rfl|refine tR (λh=>?_) λh=>?_|fail)
   all_goals(exfalso;omega)
  obtain⟨hb,hnl⟩:=hnm he;have ok:=z1b hb;have hl4:=ok.len;have hl1:=ok.some;subst he;repeat'(first|refine dq1 ?_|refine dqk rfl (a1) ?_|refine dqK rfl (a2) ?_|refine dqK rfl (a3) ?_|refine z4 (zy3 rfl zX0) ?_|exact z5 rfl rfl|refine tR (λh=>?_) λh=>?_|fail)
  have hdl:(b.txs.drop 1).length=b.txs.length-1:=zX4
  (refine zj (λ(a:List Coin×List Undo×Int) k=>[.l 6 (a.1.map za),.l 6 [],.l 1 (a.2.1.map z6q),I 0,I a.2.2,I (k+1)]) (λ(a:List Coin×List Undo×Int) k (r:List Tx)=>z5n b ns a.1 a.2.1 a.2.2 (k+1) r) (λa k=>a.2.1.length=b.txs.length /\ -(10000000000*((k:Int)+1))<=a.2.2/\a.2.2<=10000000000*((k:Int)+1)) (l,List.replicate b.txs.length ⟨[]⟩,rw0) (b.txs.drop 1) ?_ ?_ ?_ ?_ ?_;rfl;exact⟨by simp,by simp only;omega,by simp only;omega⟩;omega)
  ·rintro⟨l,us,most⟩ i x r hx hd hk ⟨hu,m1,m2⟩ again hag;simp only at hu m1 m2 hag⊢;have hx':b.txs[((i:Int)+1).toNat]?=some x:=by rw[show((i:Int)+1).toNat=1+i by omega,<- zY1p];exact hx
   have hn':ns[((i:Int)+1).toNat]?=some (ns.getD (i+1) 0):=by rw[show((i:Int)+1).toNat=i+1 by omega];exact z1r 0 zX0
   have hu':us[i+1]?=some (us.getD (i+1) ⟨[]⟩):=z1r _ zX0;rw[z5n];have a4:=ziw l x (ns.getD (i+1) 0) b.height;have hfee:=ztv (l:=l) (t:=x) (nm:=ns.getD (i+1) 0) (h:=b.height);generalize ns.getD (i+1) 0=nm at *;generalize us.getD (i+1) ⟨[]⟩=u0 at *;generalize zy l x nm b.height=q at *;obtain⟨l2,sp,f⟩:=q;simp only at a4 hfee⊢;by_cases hf:f=0
   ·obtain⟨hd1,hd2,hd3⟩:=hfee hf;subst hf;rw[zN (λh=>h rfl)];have a5:=zg2 x sp hd1;have hs1:(us.set (i+1) (⟨sp⟩:Undo))[((i:Int)+1).toNat]?=some ⟨sp⟩:=by rw[show((i:Int)+1).toNat=i+1 by omega];exact zY0f zX0
    have hsl:(us.set (i+1) (⟨sp⟩:Undo)).length=us.length:=zY2q ..;generalize z16 x sp=fe at *;repeat'(first|refine dq1 ?_|refine dqc ?_|refine dqm ?_|refine dqK rfl (a4) ?_|refine dqk rfl (a5) ?_|refine z4 (zh8 (n:=i+1) (x:=u0) (y:=⟨sp⟩) zX0 rfl rfl rfl zX0 (zY0k _) hu' rfl) ?_|refine dqT ?_|refine dqF ?_|fail)
    exact z6 rfl rfl (hag (l2,us.set (i+1) ⟨sp⟩,most+fe) ⟨by simpa using hu,by simp only;omega,by simp only;omega⟩)
   ·rw[zP hf];repeat'(first|refine dq1 ?_|refine dqc ?_|refine dqm ?_|refine dqK rfl (a4) ?_|refine z4 (zh8 (n:=i+1) (x:=u0) (y:=⟨sp⟩) zX0 rfl rfl rfl zX0 (zY0k _) hu' rfl) ?_|exact z5 rfl rfl|refine dqT ?_|fail)
  ·rintro⟨l,us,most⟩ ⟨hu,m1,m2⟩ again;simp only at hu m1 m2⊢;have ht0:b.txs[(0:Int).toNat]?=some (b.txs.getD 0 zTx):=z1r _ hl1;have hn0:ns[(0:Int).toNat]?=some (ns.getD 0 0):=z1r _ zX0;have hu0:us[0]?=some (us.getD 0 ⟨[]⟩):=z1r _ zX0;have e0:z5n b ns l us most ((b.txs.drop 1).length+1) []=zc0 b ns l us most:=by rw[z5n]
   rw[e0];unfold zc0;have hct:=ok.each (b.txs.getD 0 zTx) (zY06 ht0);obtain⟨f1,f2⟩:=z0dz hct;have a5:=zg2 (b.txs.getD 0 zTx) [] (z0ax hct);have a4:=ziw l (b.txs.getD 0 zTx) (ns.getD 0 0) b.height;generalize b.txs.getD 0 zTx=t0 at *;generalize ns.getD 0 0=nm at *;generalize us.getD 0 ⟨[]⟩=u0 at *;generalize z16 t0 []=fe at *;generalize zy l t0 nm b.height=q at *;obtain⟨l2,sp,f⟩:=q;simp only at a4⊢;repeat'(first|refine dq1 ?_|refine dqc ?_|refine dqm ?_|refine dqK rfl (a4) ?_|refine dqk rfl (a5) ?_|refine z4 (zh8 (n:=0) (x:=u0) (y:=⟨sp⟩) rfl rfl rfl rfl zX0 (zY0k _) hu0 rfl) ?_|exact z5 rfl rfl|refine tR (λh=>?_) λh=>?_|refine dqF ?_|fail)
attribute [local irreducible] z9n
theorem z07u:Meets Tryz.prog zbe 17 zW0x:=by
 refine zg (sp:=(zx [(8,z3s),(28,z9n),(60,z3o)])) (sigs:=z02) (cut:=[]) (hints:=[⟨13,[.t 1,.t 14,.r 8 84 6,.t 9,.t 15]⟩]) (fn:=Tryz.f17) (t:=zkn) ?_ ?_
 ·exact(zq (L:=[(8,z3s),(28,z9n),(60,z3o)]) ⟨z7 rfl zfd,z7 rfl z04e,z7 rfl zi3,trivial⟩)
 ·rintro ds rs hok h;obtain⟨⟨k,l,b,us⟩,hus,rfl,rfl⟩:=zh h;clear h;simp only at hus;refine⟨⟨100,?_⟩,z11 ⟨rfl,trivial⟩⟩;show den _ _ zkn [.l 1 (k.texts.map z0a),.l 6 (l.map za),I b.parent,I b.height,I b.work,I b.nonce,.l 3 (b.txs.map eTx),.l 1 (us.map z6q)] []=ret (z1o k l b us);have a1:=z4s l;have a2:=z94 k b;have hnm:=zbc (k:=k) (b:=b);unfold zkn z1o;generalize z0c k b=nm at *;obtain⟨tx,n0,ns,e⟩:=nm;simp only at *;by_cases hc:z9 l=0
  rotate_left
  ·repeat'(first|refine dq1 ?_|refine dqk rfl (a1) ?_|exact z5 rfl rfl|refine tR (λh=>?_) λh=>?_|fail)
   all_goals(exfalso;omega)
  by_cases he:e=0
  rotate_left
  ·repeat'(first|refine dq1 ?_|refine dqc ?_|refine dqk rfl (a1) ?_|refine dqK rfl (a2) ?_|exact z5 rfl rfl|refine tR (λh=>?_) λh=>?_|fail)
   all_goals(exfalso;omega)
  obtain⟨hb,hnl⟩:=hnm he;have ok:=z1b hb;have hl4:=ok.len;have hl1:=ok.some;subst he;by_cases hul:us.length=b.txs.length
  rotate_left
  ·repeat'(first|refine dq1 ?_|refine dqc ?_|refine dqk rfl (a1) ?_|refine dqK rfl (a2) ?_|exact z5 rfl rfl|refine tR (λh=>?_) λh=>?_|fail)
   all_goals(exfalso;omega)
  have ht0:b.txs[(0:Int).toNat]?=some (b.txs.getD 0 zTx):=z1r _ hl1;have hn0:ns[(0:Int).toNat]?=some (ns.getD 0 0):=z1r _ zX0;have hu0:us[(0:Int).toNat]?=some (us.getD 0 ⟨[]⟩):=z1r _ zX0;have a3:=zfn l (b.txs.getD 0 zTx) (ns.getD 0 0) (us.getD 0 ⟨[]⟩).spent (zy5 hus 0);generalize hT:b.txs.getD 0 zTx=t0 at *;generalize ns.getD 0 0=nm at *;generalize us.getD 0 ⟨[]⟩=u0 at *;generalize z1i l t0 nm u0.spent=q at *;obtain⟨l1,f⟩:=q;simp only at a3⊢;by_cases hf:f=0
  rotate_left
  ·repeat'(first|refine dq1 ?_|refine dqc ?_|refine dqm ?_|refine dqk rfl (a1) ?_|refine dqK rfl (a2) ?_|refine dqK rfl (a3) ?_|exact z5 rfl rfl|refine tR (λh=>?_) λh=>?_|fail)
   all_goals(exfalso;omega)
  subst hf;repeat'(first|refine dq1 ?_|refine dqc ?_|refine dqm ?_|refine dqk rfl (a1) ?_|refine dqK rfl (a2) ?_|refine dqK rfl (a3) ?_|exact z5 rfl rfl|refine tR (λh=>?_) λh=>?_|fail)
  (refine znt (λ(l:List Coin) k=>[.l 6 (l.map za),I 0,.l 6 [],I 0,I k]) (λ(l:List Coin) i=>zbd b ns us l i) (λ_ _=>True) l1 (b.txs.length-1) ?_ ?_ ?_ ?_ ?_;exact z07t rfl zX0;exact trivial;omega)
  ·rintro l i hi-again hag;have hti:b.txs[((i:Int)+1).toNat]?=some (b.txs.getD (i+1) zTx):=by rw[show((i:Int)+1).toNat=i+1 by omega];exact z1r _ zX0
   have hni:ns[((i:Int)+1).toNat]?=some (ns.getD (i+1) 0):=by rw[show((i:Int)+1).toNat=i+1 by omega];exact z1r _ zX0
   have hui:us[((i:Int)+1).toNat]?=some (us.getD (i+1) ⟨[]⟩):=by rw[show((i:Int)+1).toNat=i+1 by omega];exact z1r _ zX0
   have a4:=zfn l (b.txs.getD (i+1) zTx) (ns.getD (i+1) 0) (us.getD (i+1) ⟨[]⟩).spent (zy5 hus (i+1));rw[zbd];generalize b.txs.getD (i+1) zTx=ti at *;generalize ns.getD (i+1) 0=ni at *;generalize us.getD (i+1) ⟨[]⟩=ui at *;generalize z1i l ti ni ui.spent=q at *;obtain⟨l2,f⟩:=q;simp only at a4⊢;by_cases hf:f=0
   ·subst hf;rw[zN (λh=>h rfl)];have hag':=hag l2 trivial;rw[show((i:Nat):Int)=(i:Int)+1-1 by omega]at hag';repeat'(first|refine dq1 ?_|refine dqc ?_|refine dqm ?_|refine dqK rfl (a4) ?_|refine dqT ?_|refine dqF ?_|fail)
    exact z6 rfl rfl hag'
   ·rw[zP hf];repeat'(first|refine dq1 ?_|refine dqc ?_|refine dqm ?_|refine dqK rfl (a4) ?_|exact z5 rfl rfl|refine dqT ?_|fail)
  ·rintro l-again;rw[zbd];repeat'(first|refine dq1 ?_|exact z5 rfl rfl|refine dqF ?_|fail)
end
section
open Go.Lib (itoa)
def z8n(l:List Coin):Prop:=l.length<=2199023255552/\∀c∈l,c.o.lock.length<=8796093022208
def z0o(k:Book)(t:Tree)(n:Int):List Int×Int:=if zk k≠0 then([],zk k)else z3e t n
def z1l(k:Book)(t:Tree):List Coin->List Int->List Coin×Int
 |l,[]=>(l,0)
 |l,n::r=>if(z03 k l (ze t n)).2.2≠0 then([],(z03 k l (ze t n)).2.2)else z1l k t (z03 k l (ze t n)).1 r
def z0g(k:Book)(t:Tree)(n:Int):List Coin×Int:=if(z0o k t n).2≠0 then([],(z0o k t n).2)else z1l k t [] (z0o k t n).1
def z1e(k:Book)(t:Tree)(b:Block):List Undo×Int:=if(z0g k t b.parent).2≠0 then([],(z0g k t b.parent).2)else((z03 k (z0g k t b.parent).1 b).2.1,(z03 k (z0g k t b.parent).1 b).2.2)
def z97(t:Tree)(n tip:Int):Int×Int:=if(z3e t tip).2≠0 then(0,(z3e t tip).2)else if idx (z3e t tip).1 n<0 then(0,5)else(((z3e t tip).1.length:Int)-1-idx (z3e t tip).1 n,0)
def z0i:List Int->List Int->Nat
 |a::x,b::y=>if a=b then z0i x y+1 else 0
 |_,_=>0
def z33(k:Book)(t:Tree)(K:List Coin->List Coin×Int):List Coin->List Int->List Coin×Int
 |l,[]=>K l
 |l,n::r=>if(z1e k t (ze t n)).2≠0 then([],(z1e k t (ze t n)).2)else
  if(z1o k l (ze t n) (z1e k t (ze t n)).1).2≠0 then([],(z1o k l (ze t n) (z1e k t (ze t n)).1).2)else
  z33 k t K (z1o k l (ze t n) (z1e k t (ze t n)).1).1 r
def zcv(k:Book)(t:Tree)(l:List Coin)(x y:List Int):List Coin×Int:=z33 k t (λl=>z1l k t l (y.drop (z0i x y))) l (x.drop (z0i x y)).reverse
def z7m(k:Book)(t:Tree)(W:List Int->List Int->List Coin×Int)(s:List Int×List Int)(i:Nat):List Int->List Coin×Int
 | []=>W s.1 s.2
 |n::r=>if(z0o k t n).2≠0 then([],(z0o k t n).2)else z7m k t W (if i=0 then((z0o k t n).1,s.2)else(s.1,(z0o k t n).1)) (i+1) r
def z4y(k:Book)(t:Tree)(l:List Coin)(a b:Int):List Coin×Int:=z7m k t (zcv k t l) ([],[]) 0 [a,b]
theorem ztw(t:Tree)(n:Int):(z3e t n).1.length<=24:=by
 unfold z3e;split
 ·simp
 rename_i h1;split
 ·simp
 rename_i h2;exact zcu ((z2j _ _).1 (zY0u.1 h1)) (by by_cases h:n=0;exact .inl h;exact .inr zX0)
theorem z00u(k:Book)(t:Tree)(n:Int):(z0o k t n).1.length<=24:=by
 unfold z0o;split
 ·simp
 ·exact ztw t n
theorem zq6(n:Nat):z3f (List.replicate n ⟨[]⟩):=λu hu=>by rw[(List.mem_replicate.1 hu).2];exact short_nil.2
theorem ztx{us:List Undo}(h:z3f us){s:List Coin}(hs:z54 s)(i:Nat):z3f (us.set i ⟨s⟩):=λu hu=>by
 rcases List.mem_or_eq_of_mem_set hu with hu|rfl
 ·exact h u hu
 ·exact hs.2
theorem zmh{l:List Coin}{t:Tx}{nm h:Int}(h0:(zy l t nm h).2.2=0):z54 (zy l t nm h).2.1:=(z96 h0).choose_spec.short
theorem zkp(b:Block)(ns:List Int):∀(r:List Tx) (l:List Coin) (us:List Undo) (most:Int) (i:Nat),z3f us->z3f (z5n b ns l us most i r).2.1
 | [],l,us,most,i,h=>by
  rw[z5n];unfold zc0;split
  ·exact λu hu=>by cases hu
  split
  ·exact λu hu=>by cases hu
  ·rename_i h1;exact ztx h (zmh (zY0u.1 h1)) 0
 |t::r,l,us,most,i,h=>by
  rw[z5n];split
  ·exact λu hu=>by cases hu
  ·rename_i h1;exact zkp b ns r _ _ _ _ (ztx h (zmh (zY0u.1 h1)) i)
theorem zkq(k:Book)(l:List Coin)(b:Block):z3f (z03 k l b).2.1:=by
 unfold z03;split
 ·exact λu hu=>by cases hu
 split
 ·exact λu hu=>by cases hu
 ·exact zkp _ _ _ _ _ _ _ (zq6 _)
theorem z9x(k:Book)(t:Tree)(b:Block):z3f (z1e k t b).1:=by
 unfold z1e;split
 ·exact λu hu=>by cases hu
 ·exact zkq _ _ _
theorem zq7:∀ {x y:List Int} {i:Nat},i<z0i x y->∃v,x[i]?=some v/\y[i]?=some v
 |a::x,b::y,i,h=>by
  rw[z0i]at h;by_cases e:a=b
  ·subst e;rw[zP rfl]at h;cases i with
   |zero=>exact⟨a,rfl,rfl⟩
   |succ i =>obtain⟨v,h1,h2⟩:=zq7 (x:=x) (y:=y) (i:=i) zX0;exact⟨v,by simpa using h1,by simpa using h2⟩
  ·rw[zN e]at h;omega
 | [],_,i,h=>by rw[z0i]at h;omega;simp
 |_::_,[],i,h=>by rw[z0i]at h;omega;simp
theorem zrz:∀(x y:List Int),z0i x y<=x.length/\z0i x y<=y.length/\(x.length=z0i x y\/y.length=z0i x y\/∃a b,x[z0i x y]?=some a/\y[z0i x y]?=some b/\a≠b)
 |a::x,b::y=>by
  rw[z0i];by_cases e:a=b
  ·obtain⟨h1,h2,h3⟩:=zrz x y;rw[zP e];refine⟨by simp only[zY08];omega,by simp only[zY08];omega,?_⟩;rcases h3 with h3|h3|⟨p,q,h3,h4,h5⟩
   ·exact .inl zX1e
   ·exact .inr (.inl zX1e)
   ·exact .inr (.inr ⟨p,q,by simpa using h3,by simpa using h4,h5⟩)
  ·rw[zN e];exact⟨by omega,by omega,.inr (.inr ⟨a,b,rfl,rfl,e⟩)⟩
 | [],y=>by
  have e:z0i [] y=0:=by unfold z0i;rfl
  rw[e];exact⟨by omega,by omega,.inl rfl⟩
 |a::x,[]=>by
  have e:z0i (a::x) []=0:=by unfold z0i;rfl
  rw[e];exact⟨by omega,by omega,.inr (.inl rfl)⟩
section
variable {α:Type} {f:α->List Dt} {sp:Nat->zd} {E:Env}
theorem zai{sz n:Nat}{a lo:Atom}{l:List α}{m:Int}(ha:a.val E=some (.l sz (l.map f)))(hl:lo.val E=some (I m))(hm:m=(n:Int))(h:n<=l.length):denX sp E (.sub sz a (some lo) none)=some (.l sz ((l.drop n).map f)):=by
 subst hm;have hb:bndI E 0 (some lo)=some (n:Int):=by show asI (lo.val E)=some (n:Int);rw[hl];rfl
 rw[zei (lo:=some lo) (hi:=none) (m:=(n:Int)) (n:=(l.length:Int)) ha hb rfl zX0 zX0 zX0];simp
end
noncomputable def zbf:zd:=spD (λl:List Coin=>l.length<=2199023255552) λl=>l
theorem zux(l:List Coin)(h:l.length<=2199023255552):zbf [.l 6 (l.map za)]=some [.l 6 (l.map za)]:=zi (p:=λl:List Coin=>l.length<=2199023255552) (f:=λl:List Coin=>l) l h
theorem z07v:Meets Tryz.prog zbf 37 zW03 :=
 z39 (e:=λx:{ l:List Coin // l.length<=2199023255552 }=>Enc.e x.1) (xs:=λx=>x.1) she_coin rfl rfl zX9 (z25 (fn:=Tryz.f37) ) λx W F us hF h=>by obtain⟨v,us,rfl,h1,h⟩:=z1c h;obtain rfl:=z1y h;obtain⟨A,n,c,rfl,k1⟩:=z2u she_coin h1;have:=x.2;have:=k1.1;exact(zhm x.1 A n c W F k1 hF zX0).mono λr W' h=>⟨n,h⟩
attribute [local irreducible] den denX z0s z0w z09 spD z03 z1o ze z3e zk z0i
noncomputable def zds:zd:=spD z8n λl=>l
theorem zuy(l:List Coin)(h:z8n l):zds [.l 6 (l.map za)]=some [.l 6 (l.map za)]:=zi (p:=z8n) (f:=λl:List Coin=>l) l h
attribute [local irreducible] zbf z61
theorem z07w:Meets Tryz.prog zds 12 zW03:=by
 refine zg (sp:=(zx [(9,zbf),(10,z61)])) (sigs:=z02) (cut:=[]) (hints:=[⟨3,[.t 9,.o 6]⟩]) (fn:=Tryz.f12) (t:=zbz) ?_ ?_
 ·exact(zq (L:=[(9,zbf),(10,z61)]) ⟨z7 rfl z07v,z7 rfl zpc,trivial⟩)
 ·rintro ds rs-h;obtain⟨l,⟨hl,hk⟩,rfl,rfl⟩:=zh h;clear h;refine⟨⟨l.length+1,?_⟩,zm3 (by simp[zu,CF.isScal])⟩;show den _ _ zbz [.l 6 (l.map za)] []=ret l;unfold zbz;repeat'(first|refine dq1 ?_|refine dqk rfl (zux _ hl) ?_|fail)
  (refine zj (λ(_:Unit) k=>[I k,.l 6 (l.map za)]) (λ_ _ _=>l) (λ_ _=>True) () l ?_ ?_ ?_ ?_ ?_;rfl;exact trivial;exact zY29 _)
  ·rintro _ k c r hx hd hkl-again hag;repeat'(first|refine dq1 ?_|refine dqc ?_|refine dqm ?_|refine dqk rfl (z90 _ (hk c (zY06 hx))) ?_|refine dqT ?_|fail)
   refine z4 (z8y rfl rfl rfl zX0 zX4 (by exact hx) rfl) ?_;repeat'(first|refine dq1 ?_|exact z6 rfl rfl (hag () trivial)|fail)
  ·intro _ _ again;repeat'(first|refine dq1 ?_|exact z5 rfl rfl|refine dqF ?_|fail)
noncomputable def z98:zd:=spD (λ_:Book×Tree×Int=>True) λx=>z0o x.1 x.2.1 x.2.2
theorem ziy(k:Book)(t:Tree)(n:Int):z98 [.l 1 (k.texts.map z0a),.l 1 (t.names.map zl),.l 5 (t.blocks.map z08),I n]=some [.l 1 ((z0o k t n).1.map zl),I (z0o k t n).2]:=zi (f:=λx:Book×Tree×Int=>z0o x.1 x.2.1 x.2.2) (k,t,n) trivial
noncomputable def z99:zd:=spD (λ_:Book×Tree×List Coin×List Int=>True) λx=>z1l x.1 x.2.1 x.2.2.1 x.2.2.2
theorem z7n(k:Book)(t:Tree)(l:List Coin)(r:List Int):z99 [.l 1 (k.texts.map z0a),.l 1 (t.names.map zl),.l 5 (t.blocks.map z08),.l 6 (l.map za),.l 1 (r.map zl)]=some [.l 6 ((z1l k t l r).1.map za),I (z1l k t l r).2]:=zi (f:=λx:Book×Tree×List Coin×List Int=>z1l x.1 x.2.1 x.2.2.1 x.2.2.2) (k,t,l,r) trivial
noncomputable def z6a:zd:=spD (λ_:Book×Tree×Int=>True) λx=>z0g x.1 x.2.1 x.2.2
theorem ziz(k:Book)(t:Tree)(n:Int):z6a [.l 1 (k.texts.map z0a),.l 1 (t.names.map zl),.l 5 (t.blocks.map z08),I n]=some [.l 6 ((z0g k t n).1.map za),I (z0g k t n).2]:=zi (f:=λx:Book×Tree×Int=>z0g x.1 x.2.1 x.2.2) (k,t,n) trivial
noncomputable def zdt:zd:=spD (λ_:Book×Tree×Block=>True) λx=>z1e x.1 x.2.1 x.2.2
theorem z9y(k:Book)(t:Tree)(b:Block):zdt [.l 1 (k.texts.map z0a),.l 1 (t.names.map zl),.l 5 (t.blocks.map z08),I b.parent,I b.height,I b.work,I b.nonce,.l 3 (b.txs.map eTx)]=some [.l 1 ((z1e k t b).1.map z6q),I (z1e k t b).2]:=zi (f:=λx:Book×Tree×Block=>z1e x.1 x.2.1 x.2.2) (k,t,b) trivial
noncomputable def zbg:zd:=spD (λ_:Tree×Int×Int=>True) λx=>z97 x.1 x.2.1 x.2.2
theorem zuz(t:Tree)(n m:Int):zbg [.l 1 (t.names.map zl),.l 5 (t.blocks.map z08),I n,I m]=some [I (z97 t n m).1,I (z97 t n m).2]:=zi (f:=λx:Tree×Int×Int=>z97 x.1 x.2.1 x.2.2) (t,n,m) trivial
noncomputable def zcw:zd:=spD (λx:Book×Tree×List Coin×Int×Int=>z8n x.2.2.1) λx=>z4y x.1 x.2.1 x.2.2.1 x.2.2.2.1 x.2.2.2.2
theorem zv0(k:Book)(t:Tree)(l:List Coin)(a b:Int)(h:z8n l):zcw [.l 1 (k.texts.map z0a),.l 1 (t.names.map zl),.l 5 (t.blocks.map z08),.l 6 (l.map za),I a,I b]=some [.l 6 ((z4y k t l a b).1.map za),I (z4y k t l a b).2]:=zi (p:=λx:Book×Tree×List Coin×Int×Int=>z8n x.2.2.1) (f:=λx:Book×Tree×List Coin×Int×Int=>z4y x.1 x.2.1 x.2.2.1 x.2.2.2.1 x.2.2.2.2) (k,t,l,a,b) h
def zkr:T:=zC 57 [0] (zQ .neq 4 (zI 0) 5 (.ret [.c (.nil 1),4]) (.W (zK 68 [1,2,3] 2) [] (.ret [6,7])))
def zks:T:=zL 4 (.loop [.c (.nil 6),zI 0,3,zI 0] (zQ .lss 9 5 10 (zE 1 4 9 (.W (zK 69 [1,2,11] 6) [] (.W (zK 62 [0,8,12,13,14,15,16] 3) [] (zQ .neq 20 (zI 0) 21 (.ret [.c (.nil 6),20]) (zUn 9 6 7 18 22))))) (.ret [8,zI 0])))
def zkt:T:=.W (zK 73 [0,1,2,3] 2) [] (zQ .neq 5 (zI 0) 6 (.ret [.c (.nil 6),5]) (.W (zK 74 [0,1,2,.c (.nil 6),4] 2) [] (.ret [7,8])))
def zku:T:=.W (zK 75 [0,1,2,3] 2) [] (zQ .neq 9 (zI 0) 10 (.ret [.c (.nil 1),9]) (.W (zK 62 [0,8,3,4,5,6,7] 3) [] (.ret [12,13])))
def zkv:T:=.W (zK 68 [0,1,3] 2) [] (zQ .neq 5 (zI 0) 6 (.ret [zI 0,5]) (zC 67 [4,2] (zQ .lss 7 (zI 0) 8 (.ret [zI 0,zI 5]) (zL 4 (zB .sub 9 (zI 1) (zB .sub 10 7 (.ret [11,zI 0])))))))
def zU19(a:Nat):T:=.ite (.v (a+18)) (.ret [.c (.nil 6),.v (a+17)]) (.W (zK 72 [0,.v (a+4),.v (a+10),.v (a+11),.v (a+12),.v (a+13),.v (a+14),.v (a+16)] 2) [] (zQ .neq (.v (a+20)) (zI 0) (.v (a+21)) (.ret [.c (.nil 6),.v (a+20)]) (zB .add (.v (a+7)) (zI 1) (.again 2 [.v (a+19),.v (a+5),.v (a+6),.v (a+22)]))))
def zU1a(a:Nat):T:=.ite (.v (a+8)) (zE 1 (.v (a+2)) (.v (a+7)) (.W (zK 69 [1,2,.v (a+9)] 6) [] (.W (zK 76 [0,1,2,.v (a+10),.v (a+11),.v (a+12),.v (a+13),.v (a+14)] 2) [] (zB .neq (.v (a+17)) (zI 0) (zU19 a))))) (zS (.sub 1 13 (some 15) none) (.W (zK 74 [0,1,2,.v (a+4),.v (a+9)] 2) [] (.ret [.v (a+10),.v (a+11)])))
def zUb(a:Nat):T:=zS (.sub 1 12 (some 15) none) (zC 65 [.v a] (zC 66 [.v (a+1)] (zL (.v (a+2)) (.loop [14,6,7,zI 0] (zB .lss (.v (a+7)) (.v (a+3)) (zU1a a))))))
def z04g:T:=.W [] [.sel [.c (.b true),.c (.b true)] (zI 1)] (zS (.sel [9,10] (zI 1)) (zC 11 [3] (.loop [zI 0] (zL 12 (zQ .lss 15 16 17 (zL 13 (zQ .lss 15 18 19 (zE 1 12 15 (zE 1 13 15 (zQ .eql 20 21 22 (zB .add 15 (zI 1) (.again 1 [23])) (zUb 23)))) (zUb 20))) (zUb 18))))))
def z04h:T:=.ite 11 (zS (.sel [4,5] 8) (.W (zK 73 [0,1,2,12] 2) [] (zQ .neq 14 (zI 0) 15 (.ret [.c (.nil 6),14]) (.W [] [.sel [.c (.b true),.c (.b true)] 8] (.W [.sel [13,9] 8,.sel [10,13] 8] [] (zB .add 8 (zI 1) (.again 0 [6,7,18,16,17]))))))) (.W [] [.sel [.c (.b true),.c (.b true)] (zI 0)] (zS (.sel [9,10] (zI 0)) z04g))
def znu:T:=.loop [.c (.nil 6),zI 0,zI 0,.c (.nil 1),.c (.nil 1)] (zB .lss 8 (zI 2) z04h)
attribute [local irreducible] z4h z6o
theorem zty:Meets Tryz.prog z98 11 zW08:=by
 refine zg (sp:=(zx [(57,z4h),(68,z6o)])) (sigs:=z02) (cut:=[]) (hints:=[]) (fn:=Tryz.f11) (t:=zkr) ?_ ?_
 ·exact(zq (L:=[(57,z4h),(68,z6o)]) ⟨z7 rfl zm9,z7 rfl zq2,trivial⟩)
 ·rintro ds rs-h;obtain⟨⟨k,t,n⟩,-,rfl,rfl⟩:=zh h;clear h;refine⟨⟨1,?_⟩,z11 ⟨rfl,trivial⟩⟩;show den _ _ zkr [.l 1 (k.texts.map z0a),.l 1 (t.names.map zl),.l 5 (t.blocks.map z08),I n] []=ret (z0o k t n);unfold zkr z0o;repeat'(first|refine dq1 ?_|refine dqk rfl (zfh k) ?_|refine dqK rfl (zh6 t n) ?_|exact z5 rfl rfl|refine tR (λh=>?_) λh=>?_|fail)
attribute [local irreducible] z4v z5m
theorem ztz:Meets Tryz.prog z99 18 zW0y:=by
 refine zg (sp:=(zx [(62,z4v),(69,z5m)])) (sigs:=z02) (cut:=[]) (hints:=[⟨2,[.r 8 84 6,.t 9,.t 2,.t 19]⟩]) (fn:=Tryz.f18) (t:=zks) ?_ ?_
 ·exact(zq (L:=[(62,z4v),(69,z5m)]) ⟨z7 rfl zko,z7 rfl zmd,trivial⟩)
 ·rintro ds rs hok h;obtain⟨⟨k,t,l,r⟩,-,rfl,rfl⟩:=zh h;clear h;have hll:=zxg (hok (.l 1 (r.map zl)) (zY3k _ (zY3k _ (zY3k _ (zY12.2 rfl)))));refine⟨⟨r.length+1,?_⟩,z11 ⟨rfl,trivial⟩⟩;show den _ _ zks [.l 1 (k.texts.map z0a),.l 1 (t.names.map zl),.l 5 (t.blocks.map z08),.l 6 (l.map za),.l 1 (r.map zl)] []=ret (z1l k t l r);unfold zks;repeat'(first|refine dq1 ?_|fail)
  (refine zj (λ(l:List Coin) k=>[.l 6 [],I 0,.l 6 (l.map za),I k]) (λ(l:List Coin) _ (r:List Int)=>z1l k t l r) (λ_ _=>True) l r ?_ ?_ ?_ ?_ ?_;rfl;exact trivial;omega)
  ·rintro l i n r hx hd hk-again hag;have a1:=z68 t n;have a2:=zex k l (ze t n);rw[z1l];have hag':=hag (z03 k l (ze t n)).1 trivial;generalize z03 k l (ze t n)=q at *;obtain⟨l2,us,e⟩:=q;generalize ze t n=b at *;simp only at *;repeat'(first|refine dq1 ?_|refine dqc ?_|refine dqK rfl (a1) ?_|refine dqK rfl (a2) ?_|exact z5 rfl rfl|refine tR (λh=>?_) λh=>?_|refine dqT ?_|fail)
   exact z6 rfl rfl hag'
  ·rintro l-again;rw[z1l];repeat'(first|refine dq1 ?_|exact z5 rfl rfl|refine dqF ?_|fail)
theorem zu0:Meets Tryz.prog z6a 25 zW08:=by
 refine zg (sp:=(zx [(73,z98),(74,z99)])) (sigs:=z02) (cut:=[]) (hints:=[]) (fn:=Tryz.f25) (t:=zkt) ?_ ?_
 ·exact(zq (L:=[(73,z98),(74,z99)]) ⟨z7 rfl zty,z7 rfl ztz,trivial⟩)
 ·rintro ds rs-h;obtain⟨⟨k,t,n⟩,-,rfl,rfl⟩:=zh h;clear h;refine⟨⟨1,?_⟩,z11 ⟨rfl,trivial⟩⟩;show den _ _ zkt [.l 1 (k.texts.map z0a),.l 1 (t.names.map zl),.l 5 (t.blocks.map z08),I n] []=ret (z0g k t n);have a1:=ziy k t n;have a2:=z7n k t [] (z0o k t n).1;unfold zkt z0g;generalize z0o k t n=q at *;obtain⟨r,e⟩:=q;simp only at *;repeat'(first|refine dq1 ?_|refine dqK rfl (a1) ?_|refine dqK rfl (a2) ?_|exact z5 rfl rfl|refine tR (λh=>?_) λh=>?_|fail)
attribute [local irreducible] z6a
theorem z07x:Meets Tryz.prog zdt 16 zW10:=by
 refine zg (sp:=(zx [(62,z4v),(75,z6a)])) (sigs:=z02) (cut:=[]) (hints:=[]) (fn:=Tryz.f16) (t:=zku) ?_ ?_
 ·exact(zq (L:=[(62,z4v),(75,z6a)]) ⟨z7 rfl zko,z7 rfl zu0,trivial⟩)
 ·rintro ds rs-h;obtain⟨⟨k,t,b⟩,-,rfl,rfl⟩:=zh h;clear h;refine⟨⟨1,?_⟩,z11 ⟨rfl,trivial⟩⟩;show den _ _ zku [.l 1 (k.texts.map z0a),.l 1 (t.names.map zl),.l 5 (t.blocks.map z08),I b.parent,I b.height,I b.work,I b.nonce,.l 3 (b.txs.map eTx)] []=ret (z1e k t b);have a1:=ziz k t b.parent;have a2:=zex k (z0g k t b.parent).1 b;unfold zku z1e;generalize z0g k t b.parent=q at *;obtain⟨l,e⟩:=q;simp only at *;repeat'(first|refine dq1 ?_|refine dqK rfl (a1) ?_|refine dqK rfl (a2) ?_|exact z5 rfl rfl|refine tR (λh=>?_) λh=>?_|fail)
attribute [local irreducible] z1k
theorem z07y:Meets Tryz.prog zbg 26 zW12:=by
 refine zg (sp:=(zx [(67,z1k),(68,z6o)])) (sigs:=z02) (cut:=[]) (hints:=[]) (fn:=Tryz.f26) (t:=zkv) ?_ ?_
 ·exact(zq (L:=[(67,z1k),(68,z6o)]) ⟨z7 rfl z8m,z7 rfl zq2,trivial⟩)
 ·rintro ds rs-h;obtain⟨⟨t,n,m⟩,-,rfl,rfl⟩:=zh h;clear h;refine⟨⟨1,?_⟩,zbw rfl rfl⟩;show den _ _ zkv [.l 1 (t.names.map zl),.l 5 (t.blocks.map z08),I n,I m] []=ret (z97 t n m);have a1:=zh6 t m;have a2:=z3b (z3e t m).1 n;have hl:=ztw t m;have hi:=zju (z3e t m).1 n;unfold zkv z97;generalize z3e t m=q at *;obtain⟨l,e⟩:=q;simp only at *;generalize idx l n=j at *;repeat'(first|refine dq1 ?_|refine dqK rfl (a1) ?_|refine dqk rfl (a2) ?_|exact z5 rfl rfl|refine tR (λh=>?_) λh=>?_|fail)
attribute [local irreducible] zbe z7c z75
theorem z0ay:Meets Tryz.prog zcw 4 zW0l:=by
 refine zg (sp:=(zx [(11,zds),(65,z7c),(66,z75),(69,z5m),(72,zbe),(73,z98),(74,z99),(76,zdt)])) (sigs:=z0c3) (cut:=[]) (hints:=[⟨3,[.r 10 84 6,.t 11,.t 30,.o 12]⟩,⟨13,[.t 19]⟩,⟨18,[.t 2,.r 10 84 6,.t 11,.t 85]⟩]) (fn:=Tryz.f4) (t:=znu) ?_ ?_
 ·exact(zq (L:=[(11,zds),(65,z7c),(66,z75),(69,z5m),(72,zbe),(73,z98),(74,z99),(76,zdt)]) ⟨z7 rfl (zt7 rfl z07w),z7 rfl z02b,z7 rfl zxr,z7 rfl zmd,z7 rfl z07u,z7 rfl zty,z7 rfl ztz,z7 rfl z07x,trivial⟩)
 ·rintro ds rs hok h;obtain⟨⟨k,t,l,a,b⟩,hsl,rfl,rfl⟩:=zh h;clear h;simp only at hsl;refine⟨⟨100,?_⟩,z11 ⟨rfl,trivial⟩⟩;show den _ _ znu [.l 1 (k.texts.map z0a),.l 1 (t.names.map zl),.l 5 (t.blocks.map z08),.l 6 (l.map za),I a,I b] []=ret (z7m k t (zcv k t l) ([],[]) 0 [a,b]);unfold znu
  (refine zj (λ(s:List Int×List Int) k=>[.l 6 [],I 0,I k,.l 1 (s.1.map zl),.l 1 (s.2.map zl)]) (λ(s:List Int×List Int) i (r:List Int)=>z7m k t (zcv k t l) s i r) (λs _=>s.1.length<=24/\s.2.length<=24) ([],[]) [a,b] ?_ ?_ ?_ ?_ ?_;rfl;exact⟨by simp,by simp⟩;simp)
  ·rintro⟨x,y⟩ i n r hx hd hk ⟨h1,h2⟩ again hag;simp only at h1 h2;have a1:=ziy k t n;have hl:=z00u k t n;rw[z7m]
   match i,hk,hx with
   |0,_,hx =>
    obtain rfl:a=n:=Option.some.inj hx;generalize z0o k t a=q at *;obtain⟨p,e⟩:=q;simp only at *;have hag':=hag (p,y) ⟨hl,h2⟩;repeat'(first|refine dq1 ?_|refine dqK rfl (a1) ?_|refine dqs ?_ (zaw rfl rfl zX9 rfl)|refine z3g (z0d (zaw rfl rfl zX9 rfl) (z0d (zaw rfl rfl zX9 rfl) z3y)) ?_ rfl|exact z5 rfl rfl|refine tR (λh=>?_) λh=>?_|refine dqT ?_|fail)
    exact z6 rfl rfl hag'
   |1,_,hx =>
    obtain rfl:b=n:=Option.some.inj hx;generalize z0o k t b=q at *;obtain⟨p,e⟩:=q;simp only at *;have hag':=hag (x,p) ⟨h1,hl⟩;repeat'(first|refine dq1 ?_|refine dqK rfl (a1) ?_|refine dqs ?_ (zaw rfl rfl zX9 rfl)|refine z3g (z0d (zaw rfl rfl zX9 rfl) (z0d (zaw rfl rfl zX9 rfl) z3y)) ?_ rfl|exact z5 rfl rfl|refine tR (λh=>?_) λh=>?_|refine dqT ?_|fail)
    exact z6 rfl rfl hag'
   |i+2,hk,_=>exact absurd hk (by simp only[zY08,zY0p];omega)
  ·rintro⟨x,y⟩ ⟨hx24,hy24⟩ again;simp only at hx24 hy24⊢;rw[z7m];show _=ret (zcv k t l x y);unfold zcv;obtain⟨e1,e2,e3⟩:=zrz x y;have hcom:=λi (h:i<z0i x y)=>zq7 h;have c0:=zuy l hsl;have c1:=zmb (x.drop (z0i x y)) (by rw[zY0w];omega);have c2:=zkf (x.drop (z0i x y));have hrl:(x.drop (z0i x y)).reverse.length<=24:=by rw[List.length_reverse,zY0w];omega
   repeat'(first|refine dq1 ?_|refine dqk rfl (c0) ?_|refine dqs ?_ (zaw rfl rfl zX9 rfl)|refine z0e rfl ?_|fail)
   (refine z06c (st:=λi=>[I i]) (n:=z0i x y) rfl zX0 ?_ ?_)
   ·intro i hi again' hag';obtain⟨v,h1,h2⟩:=hcom i hi;have h1':x[((i:Int)).toNat]?=some v:=by rw[zY1d];exact h1
    have h2':y[((i:Int)).toNat]?=some v:=by rw[zY1d];exact h2
    have hag':again' [I ((i:Int)+1)]=_:=hag';repeat'(first|refine dq1 ?_|refine dqc ?_|refine dqT ?_|refine z0h rfl ?_|fail)
    exact z6 rfl rfl hag'
   ·intro again';rcases e3 with e3|e3|⟨p,q,e3,e4,e5⟩
    ·repeat'(first|refine dq1 ?_|refine dqk rfl (c1) ?_|refine dqk rfl (c2) ?_|refine z4 (zai (n:=z0i x y) rfl rfl rfl zX0) ?_|refine dqF ?_|fail)
     (refine zj (λ(l:List Coin) k=>[.l 6 (l.map za),.l 6 [],I 0,I k]) (λ(l:List Coin) _ (r:List Int)=>z33 k t (λl=>z1l k t l (y.drop (z0i x y))) l r) (λ_ _=>True) l ((x.drop (z0i x y)).reverse) ?_ ?_ ?_ ?_ ?_;rfl;exact trivial;omega)
     ·rintro l i n r hx hd hk-again hag;have a1:=z68 t n;have a2:=z9y k t (ze t n);have a3:=z9w k l (ze t n) (z1e k t (ze t n)).1 (z9x k t (ze t n));rw[z33];have hag':=hag (z1o k l (ze t n) (z1e k t (ze t n)).1).1 trivial;generalize z1o k l (ze t n) (z1e k t (ze t n)).1=q at *;obtain⟨l2,f⟩:=q;generalize z1e k t (ze t n)=q at *;obtain⟨us,e⟩:=q;generalize ze t n=b at *;simp only at *;repeat'(first|refine dq1 ?_|refine dqc ?_|refine dqK rfl (a1) ?_|refine dqK rfl (a2) ?_|refine dqK rfl (a3) ?_|exact z5 rfl rfl|refine tR (λh=>?_) λh=>?_|refine dqT ?_|fail)
      exact z6 rfl rfl hag'
     ·rintro l-again;rw[z33];have a4:=z7n k t l (y.drop (z0i x y));repeat'(first|refine dq1 ?_|refine dqK rfl (a4) ?_|refine z4 (zai (n:=z0i x y) rfl rfl rfl zX0) ?_|exact z5 rfl rfl|refine dqF ?_|fail)
    ·by_cases hxl:z0i x y=x.length
     ·repeat'(first|refine dq1 ?_|refine dqk rfl (c1) ?_|refine dqk rfl (c2) ?_|refine z4 (zai (n:=z0i x y) rfl rfl rfl zX0) ?_|refine dqF ?_|fail)
      (refine zj (λ(l:List Coin) k=>[.l 6 (l.map za),.l 6 [],I 0,I k]) (λ(l:List Coin) _ (r:List Int)=>z33 k t (λl=>z1l k t l (y.drop (z0i x y))) l r) (λ_ _=>True) l ((x.drop (z0i x y)).reverse) ?_ ?_ ?_ ?_ ?_;rfl;exact trivial;omega)
      ·rintro l i n r hx hd hk-again hag;have a1:=z68 t n;have a2:=z9y k t (ze t n);have a3:=z9w k l (ze t n) (z1e k t (ze t n)).1 (z9x k t (ze t n));rw[z33];have hag':=hag (z1o k l (ze t n) (z1e k t (ze t n)).1).1 trivial;generalize z1o k l (ze t n) (z1e k t (ze t n)).1=q at *;obtain⟨l2,f⟩:=q;generalize z1e k t (ze t n)=q at *;obtain⟨us,e⟩:=q;generalize ze t n=b at *;simp only at *;repeat'(first|refine dq1 ?_|refine dqc ?_|refine dqK rfl (a1) ?_|refine dqK rfl (a2) ?_|refine dqK rfl (a3) ?_|exact z5 rfl rfl|refine tR (λh=>?_) λh=>?_|refine dqT ?_|fail)
       exact z6 rfl rfl hag'
      ·rintro l-again;rw[z33];have a4:=z7n k t l (y.drop (z0i x y));repeat'(first|refine dq1 ?_|refine dqK rfl (a4) ?_|refine z4 (zai (n:=z0i x y) rfl rfl rfl zX0) ?_|exact z5 rfl rfl|refine dqF ?_|fail)
     ·repeat'(first|refine dq1 ?_|refine dqk rfl (c1) ?_|refine dqk rfl (c2) ?_|refine z4 (zai (n:=z0i x y) rfl rfl rfl zX0) ?_|refine dqT ?_|refine dqF ?_|fail)
      (refine zj (λ(l:List Coin) k=>[.l 6 (l.map za),.l 6 [],I 0,I k]) (λ(l:List Coin) _ (r:List Int)=>z33 k t (λl=>z1l k t l (y.drop (z0i x y))) l r) (λ_ _=>True) l ((x.drop (z0i x y)).reverse) ?_ ?_ ?_ ?_ ?_;rfl;exact trivial;omega)
      ·rintro l i n r hx hd hk-again hag;have a1:=z68 t n;have a2:=z9y k t (ze t n);have a3:=z9w k l (ze t n) (z1e k t (ze t n)).1 (z9x k t (ze t n));rw[z33];have hag':=hag (z1o k l (ze t n) (z1e k t (ze t n)).1).1 trivial;generalize z1o k l (ze t n) (z1e k t (ze t n)).1=q at *;obtain⟨l2,f⟩:=q;generalize z1e k t (ze t n)=q at *;obtain⟨us,e⟩:=q;generalize ze t n=b at *;simp only at *;repeat'(first|refine dq1 ?_|refine dqc ?_|refine dqK rfl (a1) ?_|refine dqK rfl (a2) ?_|refine dqK rfl (a3) ?_|exact z5 rfl rfl|refine tR (λh=>?_) λh=>?_|refine dqT ?_|fail)
       exact z6 rfl rfl hag'
      ·rintro l-again;rw[z33];have a4:=z7n k t l (y.drop (z0i x y));repeat'(first|refine dq1 ?_|refine dqK rfl (a4) ?_|refine z4 (zai (n:=z0i x y) rfl rfl rfl zX0) ?_|exact z5 rfl rfl|refine dqF ?_|fail)
    ·have h1':x[((z0i x y:Nat):Int).toNat]?=some p:=by rw[zY1d];exact e3
     have h2':y[((z0i x y:Nat):Int).toNat]?=some q:=by rw[zY1d];exact e4
     have hlx:=(zY02.1 e3).1;have hly:=(zY02.1 e4).1;repeat'(first|refine dq1 ?_|refine dqc ?_|refine dqk rfl (c1) ?_|refine dqk rfl (c2) ?_|refine z4 (zai (n:=z0i x y) rfl rfl rfl zX0) ?_|refine dqT ?_|refine dqF ?_|fail)
     (refine zj (λ(l:List Coin) k=>[.l 6 (l.map za),.l 6 [],I 0,I k]) (λ(l:List Coin) _ (r:List Int)=>z33 k t (λl=>z1l k t l (y.drop (z0i x y))) l r) (λ_ _=>True) l ((x.drop (z0i x y)).reverse) ?_ ?_ ?_ ?_ ?_;rfl;exact trivial;omega)
     ·rintro l i n r hx hd hk-again hag;have a1:=z68 t n;have a2:=z9y k t (ze t n);have a3:=z9w k l (ze t n) (z1e k t (ze t n)).1 (z9x k t (ze t n));rw[z33];have hag':=hag (z1o k l (ze t n) (z1e k t (ze t n)).1).1 trivial;generalize z1o k l (ze t n) (z1e k t (ze t n)).1=q at *;obtain⟨l2,f⟩:=q;generalize z1e k t (ze t n)=q at *;obtain⟨us,e⟩:=q;generalize ze t n=b at *;simp only at *;repeat'(first|refine dq1 ?_|refine dqc ?_|refine dqK rfl (a1) ?_|refine dqK rfl (a2) ?_|refine dqK rfl (a3) ?_|exact z5 rfl rfl|refine tR (λh=>?_) λh=>?_|refine dqT ?_|fail)
      exact z6 rfl rfl hag'
     ·rintro l-again;rw[z33];have a4:=z7n k t l (y.drop (z0i x y));repeat'(first|refine dq1 ?_|refine dqK rfl (a4) ?_|refine z4 (zai (n:=z0i x y) rfl rfl rfl zX0) ?_|exact z5 rfl rfl|refine dqF ?_|fail)
end
section
open Go.Lib (itoa)
attribute [local irreducible] den denX z0s z0w
end
section
open Go.Lib (itoa)
def zq8(x:List (List UInt8))(l:List Coin)(t:Tx)(h:Int):List (List UInt8)×List Coin×Int×Int :=
 if(z0q t).2≠0 then(x,[],0,(z0q t).2)else if(t.ins.length:Int)=0 then(x,[],0,4)else
 if zwm ⟨x⟩ (z0q t).1≠0 then(x,[],0,zwm ⟨x⟩ (z0q t).1)else
 if(zy l t (zjw ⟨x⟩ (z0q t).1) h).2.2≠0 then(x,[],0,(zy l t (zjw ⟨x⟩ (z0q t).1) h).2.2)else
 (z06o ⟨x⟩ (z0q t).1,(zy l t (zjw ⟨x⟩ (z0q t).1) h).1,z16 t (zy l t (zjw ⟨x⟩ (z0q t).1) h).2.1,0)
abbrev z0c4:=List (List UInt8)×List Tx×List Coin×Int×Int
structure Sw where
 x:List (List UInt8)
 s:List Tx
 m:List Coin
 f:Int
def zs0(h:Int):Sw->List Tx->z0c4
 |a,[]=>(a.x,a.s,a.m,a.f,0)
 |a,t::r=>if(zq8 a.x a.m t h).2.2.2≠0 then zs0 h a r else
  zs0 h ⟨(zq8 a.x a.m t h).1,a.s++[t],(zq8 a.x a.m t h).2.1,a.f+(zq8 a.x a.m t h).2.2.1⟩ r
def z0e0(k:Book)(l:List Coin)(p:List Tx)(h:Int):z0c4 :=
 if zk k≠0 then([],[],[],0,zk k)else if z9 l≠0 then([],[],[],0,z9 l)else
 if h<1 then([],[],[],0,3)else if h>1000 then([],[],[],0,3)else if(p.length:Int)>8 then([],[],[],0,2)else
 zs0 h ⟨k.texts,[],l,0⟩ p
attribute [local irreducible] z09 spD z0q zy z16 zwm z06o zjw zk z9 zf z0z z5z den denX z0s z0w
end
section
open Go.Lib (itoa)
attribute [local irreducible] z09 spD z0e0 zq8 z0q zy z16 zk z9 zf z0z z5z den denX z0s z0w
end
section
open Go.Lib (itoa)
end
theorem Done.total{l:List Coin}{t:Tx}{nm h:Int}{r s m:List Coin}(d:Done l t nm h r s m):zm m=zm l-z16 t s:=by have h1:=d.spentAs.total;have h2:=d.broughtAs.total;rw[zew];omega
theorem Done.most{l:List Coin}{t:Tx}{nm h:Int}{r s m:List Coin}(d:Done l t nm h r s m):zm m<=zm l-z16 t []:=by have S:=d.spentAs;have h1:=S.total;have h2:=d.broughtAs.total;have hs:0<=zm s:=zek λc hc=>d.ok.good c (S.from hc).1;rw[zew];simp only[zm];omega
theorem zj0{α:Type}{l:List α}{i:Nat}{x d:α}(h:i<l.length):(l.set i x).getD i d=x:=by rw[zY0r,zY0f h];rfl
theorem getD_set_ne{α:Type}{l:List α}{i j:Nat}{x d:α}(h:i≠j):(l.set i x).getD j d=l.getD j d:=by rw[zY0r,zY0j h,<- zY0r]
theorem zmi{b:Block}{ns:List Int}{m:List Coin}{us':List Undo}:∀(r:List Tx) (l:List Coin) (us:List Undo) (most:Int) (j:Nat),z5n b ns l us most (j+1) r=(m,us',0)->b.txs.drop (j+1)=r->us.length=b.txs.length->j+1<=b.txs.length ->
  ∃l1 us1 most1,zc0 b ns l1 us1 most1=(m,us',0)/\us1.length=b.txs.length/\(∀i,i<=j->us1.getD i ⟨[]⟩=us.getD i ⟨[]⟩)/\zm l1=zm l-(most1-most) /\
   ∀U:List Undo,(∀i,1<=i->U.getD i ⟨[]⟩=us1.getD i ⟨[]⟩)->zbd b ns U l1 (b.txs.length-1)=zbd b ns U l j
 | [],l,us,most,j,h,hd,hu,hj=>by rw[z5n]at h;have hl:=congrArg List.length hd;rw[zY0w,zY0p]at hl;have e:b.txs.length-1=j:=zX0;exact⟨l,us,most,h,hu,λ_ _=>rfl,by omega,λU _=>by rw[e]⟩
 |t::r,l,us,most,j,h,hd,hu,hj=>by
  rw[z5n]at h;by_cases he:(zy l t (ns.getD (j+1) 0) b.height).2.2=0
  rotate_left
  ·rw[zP he]at h;exact absurd (congrArg (λx=>x.2.2) h) he
  rw[zN (λk=>k he)]at h;obtain⟨rr,d⟩:=z96 he;have hl:=congrArg List.length hd;rw[zY0w,zY08]at hl;have hd2:b.txs.drop (j+1+1)=r:=by rw[<- zY3q,hd];rfl
  have ht:b.txs.getD (j+1) zTx=t:=by
   rw[zY0r];have:(b.txs.drop (j+1))[0]?=some t:=by rw[hd];rfl
   rw[zY1p]at this;rw[show j+1=j+1+0 by omega,this];rfl
  obtain⟨l1,us1,most1,h1,h2,h3,h4,h5⟩:=zmi r _ _ _ (j+1) h hd2 (by rw[zY2q];exact hu) zX0;refine⟨l1,us1,most1,h1,h2,λi hi=>?_,by rw[h4,d.total];omega,λU hU=>?_⟩
  ·rw[h3 i zX0,getD_set_ne zX0]
  ·rw[h5 U hU,zbd,ht,hU (j+1) zX0,h3 (j+1) (zY0k _),zj0 zX0,d.back];exact zN λk=>k rfl
theorem z07z{k:Book}{l m:List Coin}{b:Block}{us:List Undo}(h:z03 k l b=(m,us,0)):z1o k m b us=(l,0)/\CoinsOK l/\CoinsOK m/\zm m<=zm l+z0z b.height/\zf b=0/\z3f us:=by
 have hsh:=zkq k l b;rw[h]at hsh;unfold z03 at h;by_cases hc:z9 l=0
 rotate_left
 ·rw[zP hc]at h;exact absurd (congrArg (λx=>x.2.2) h) hc
 rw[zN (λk=>k hc)]at h;by_cases he:(z0c k b).2.2.2=0
 rotate_left
 ·rw[zP he]at h;exact absurd (congrArg (λx=>x.2.2) h) he
 rw[zN (λk=>k he)]at h;obtain⟨hb,hn⟩:=zbc he;have ok:=z1b hb;obtain⟨l1,us1,most1,h1,h2,-,h4,h5⟩:=zmi _ _ _ _ 0 h rfl zX4 ok.some;unfold zc0 at h1;by_cases hm:most1 < -z16 (b.txs.getD 0 zTx) []
 ·rw[zP hm]at h1;exact absurd (congrArg (λx=>x.2.2) h1) (by show ¬(9:Int)=0;decide)
 rw[zN hm]at h1;by_cases ha:(zy l1 (b.txs.getD 0 zTx) ((z0c k b).2.2.1.getD 0 0) b.height).2.2=0
 rotate_left
 ·rw[zP ha]at h1;exact absurd (congrArg (λx=>x.2.2) h1) ha
 rw[zN (λk=>k ha)]at h1;obtain⟨rr,d⟩:=z96 ha;have e1:(zy l1 (b.txs.getD 0 zTx) ((z0c k b).2.2.1.getD 0 0) b.height).1=m:=congrArg (λx=>x.1) h1;have e2:us1.set 0 ⟨(zy l1 (b.txs.getD 0 zTx) ((z0c k b).2.2.1.getD 0 0) b.height).2.1⟩=us:=congrArg (λx=>x.2.1) h1;generalize zy l1 (b.txs.getD 0 zTx) ((z0c k b).2.2.1.getD 0 0) b.height=q at *;obtain⟨m',sp,f⟩:=q;simp only at e1 e2 d;subst e1;have hl0:=ok.some;refine⟨?_,(z0m l).1 hc,d.end_,?_,hb,hsh⟩
 ·unfold z1o;rw[zN (by rw[(z0m m').2 d.end_];decide),zN (λk=>k he)];have hul:us.length=b.txs.length:=by rw[<- e2,zY2q,h2]
  rw[zN zX0];have hu0:us.getD 0 ⟨[]⟩=⟨sp⟩:=by rw[<- e2];exact zj0 zX0
  rw[hu0,d.back,zN (λk=>k rfl),h5 us λi hi=>by rw[<- e2];exact getD_set_ne zX0];rfl
 ·have:=d.most;omega
theorem zj1{t:Tree}{n:Int}(ok:TreeOK t.names t.blocks)(hn:0<=idx t.names n):(ze t n).parent=z0x t.names t.blocks n/\z7x t n=0/\ze t n=z00 t.blocks (idx t.names n):=by
 have e:z7x t n=0:=by unfold z7x;rw[zN (λk=>k ((z2j _ _).2 ok)),zN zX0]
 have e2:ze t n=z00 t.blocks (idx t.names n):=by unfold ze;rw[zP e]
 exact⟨by rw[e2];rfl,e,e2⟩

inductive RunC(h:Int)(y:List Text):List Coin->List Tx->List Coin->Int->Prop where
 |nil (m:List Coin):RunC h y m [] m 0
 |cons {m m1 m' sp:List Coin} {t:Tx} {K:List Tx} {f:Int}:zo t=0->t.ins.length≠0->(z0t t).length<=4000->0<=idx y (z0t t)->zy m t (idx y (z0t t)+1) h=(m1,sp,0)->RunC h y m1 K m' f->RunC h y m (t::K) m' (z16 t sp+f)
theorem RunC.more{h:Int}{y z:List Text}{m m':List Coin}{K:List Tx}{f:Int}(hp:y <+: z)(R:RunC h y m K m' f):RunC h z m K m' f:=by
 induction R with
 |nil m=>exact .nil m
 |cons h1 h2 h3 h4 h5 _ ih =>have e:=zdr hp h4;exact .cons h1 h2 h3 zX0 (by rw[e];exact h5) ih
theorem z00v{m m1 sp:List Coin}{t:Tx}{nm h:Int}(hi:t.ins.length≠0)(h0:zy m t nm h=(m1,sp,0)):CoinsOK m/\CoinsOK m1/\0<=z16 t sp/\zm m1=zm m-z16 t sp:=by obtain⟨r,d⟩:=z96 (l:=m) (t:=t) (nm:=nm) (h:=h) (by rw[h0]);rw[h0]at d;exact⟨d.ok,d.end_,d.fee hi,d.total⟩
theorem RunC.facts{h:Int}{y:List Text}{m m':List Coin}{K:List Tx}{f:Int}(R:RunC h y m K m' f):0<=f/\zm m'=zm m-f/\(CoinsOK m->CoinsOK m'):=by
 induction R with
 |nil m=>exact⟨by omega,by omega,λh=>h⟩
 |cons h1 h2 h3 h4 h5 _ ih =>obtain⟨a,b,c,d⟩:=z00v h2 h5;obtain⟨e,f,g⟩:=ih;exact⟨by omega,by omega,λ_=>g b⟩
theorem RunC.part{h:Int}{y:List Text}{m':List Coin}{L:List Tx}:∀ {K:List Tx} {m:List Coin} {f:Int},RunC h y m (K++L) m' f->∃m1 f1 f2,RunC h y m K m1 f1/\RunC h y m1 L m' f2
 | [],m,f,R=>⟨m,0,f,.nil m,R⟩
 |t::K,m,f,R=>by
  rw[zY1g]at R;cases R with
  |cons h1 h2 h3 h4 h5 R =>obtain⟨m1,f1,f2,a,b⟩:=RunC.part R;exact⟨m1,_,f2,.cons h1 h2 h3 h4 h5 a,b⟩


def z04i(x:Node):List Dt:=zc9 x.t++[.l 3 (x.pool.map eTx),I x.tip]
theorem z080(x y:Node)(h:z04i x=z04i y):x=y:=by obtain⟨t,p,n⟩:=x;obtain⟨t',p',n'⟩:=y;obtain⟨h1,h2⟩:=List.append_inj' h rfl;simp only[zY22,Dt.l.injEq,true_and,and_true]at h2;obtain rfl:=zt1 t t' h1;obtain rfl:=z4m zr1 h2.1;obtain rfl:=zn8 n n' (by unfold zl;rw[h2.2]);rfl
instance:Enc Node:=⟨z04i,4,λ_=>rfl,z080⟩
section
attribute [local irreducible] z09 spD den denX z0s z0w
end
section
noncomputable def z5o:zd:=spD (λ_:List Op=>True) λl=>zb l
theorem z6b(l:List Op):z5o [.l 2 (l.map eOp)]=some [I (zb l)]:=zi (f:=λl:List Op=>zb l) l trivial
theorem zmj:Meets Tryz.prog z5o 56 zW01 :=
 zcb (e:=λx:{ x:List Op // True }=>Enc.e x.1) (d:=λx=>I (zb x.1)) rfl (z25 (fn:=Tryz.f56) ) (λ_=>rfl) λx W F us hF h=>by obtain⟨v,us,rfl,h1,h⟩:=z1c h;obtain rfl:=z1y h;obtain⟨A,n,c,rfl,k1⟩:=z2u zar h1;exact(z03y x.1 A n c W F k1 hF).mono λe w' h=>⟨_,h.1,h.2,.i _ _ (wrap_i64 (zpb x.1).i64)⟩
noncomputable def z9a:zd:=spD (λ_:Point×Point=>True) λx=>decide (ltP x.1 x.2)
theorem zj2(p q:Point):z9a [I p.tx,I p.at_,I q.tx,I q.at_]=some [.b (decide (ltP p q))]:=zi (f:=λx:Point×Point=>decide (ltP x.1 x.2)) (p,q) trivial
attribute [local irreducible] z09 spD z1w
def zq9:T:=.ite 20 (.ret [zI 3]) (zQ .gtr 12 (zI 1000) 21 (.ret [zI 3]) (zC 23 [11] (zQ .neq 22 (zI 0) 23 (.ret [22]) (zQ .gtr 6 (zI 0) 24 (zB .sub 6 (zI 1) (.W [] [.inr 6 0 25] (.W (zD 0 25 2) [] (zC 24 [26,27,8,9] (zS (.not 28) (.ite 29 (.ret [zI 6]) (zUf 30))))))) (zUf 25)))))
def zqa:T:=.ite 14 (.ret [zI 3]) (zQ .gtr 8 (zI 120) 15 (.ret [zI 3]) (zQ .lss 9 (zI 0) 16 (.ret [zI 3]) (zQ .gtr 9 (zI 5) 17 (.ret [zI 3]) (zQ .lss 10 (zI 1) 18 (.ret [zI 3]) (zQ .gtr 10 (zI 1000000000) 19 (.ret [zI 3]) (zB .lss 12 (zI 1) zq9))))))
def zda:T:=zL 0 (zQ .gtr 1 (zI 720) 2 (.ret [zI 2]) (zL 0 (.loop [zI 0,zI 0,zI 0] (zQ .lss 6 3 7 (zE 6 0 6 (zB .lss 8 (zI 1) zqa)) (.ret [zI 0])))))
theorem z0e1(p q:Point):(decide (p.tx<q.tx)||(decide (p.tx=q.tx)&&decide (p.at_<q.at_)))=decide (ltP p q):=by unfold ltP;by_cases h1:p.tx<q.tx<;>by_cases h2:p.tx=q.tx<;>by_cases h3:p.at_<q.at_<;>simp[h1,h2,h3]
theorem zu1:Meets Tryz.prog z9a 57 zW02:=by
 refine zg (sp:=(zx [])) (sigs:=z02) (cut:=[]) (hints:=[]) (fn:=Tryz.f57) (t:=zkc) ?_ ?_
 ·exact(zq (L:=[]) trivial)
 ·rintro ds rs-h;obtain⟨⟨p,q⟩,-,rfl,rfl⟩:=zh h;clear h;refine⟨⟨1,?_⟩,z0b rfl⟩;show den _ _ zkc [I p.tx,I p.at_,I q.tx,I q.at_] []=ret (decide (ltP p q));rw[<- z0e1];unfold zkc;repeat'(first|refine dq1 ?_|refine dqc ?_|refine dqm ?_|exact z5 rfl rfl|((first|refine tR ?_ ?_|refine tB ?_ ?_|refine tC ?_ ?_|refine tN ?_ ?_|refine tF ?_ ?_|refine tG ?_ ?_|refine tP ?_ ?_|refine tQ ?_ ?_|refine tA ?_ ?_|refine tO ?_ ?_|refine tU ?_ ?_|refine tV ?_ ?_)<;>intro h)|refine dqT ?_|refine dqF ?_|refine z0h rfl ?_|refine z0e rfl ?_|refine zax ?_|refine z5u ?_)
def zc1:Point->Int->List Coin->Int
 |_,_,[]=>0
 |pv,s,c::r=>if c.p.tx<1\/120<c.p.tx\/c.p.at_<0\/5<c.p.at_\/c.o.coin<1\/1000000000<c.o.coin\/c.height<1\/1000<c.height then 3
  else if zb c.o.lock≠0 then zb c.o.lock else if decide (ltP pv c.p)=true then(if 1000000000<s+c.o.coin then 12 else zc1 c.p (s+c.o.coin) r)else 6
theorem zmk:∀(l:List Coin) (p:Point) (s:Int),zc1 p s l=z7u p s l
 | [],p,s=>rfl
 |c::l,p,s=>by
  rw[zc1,z7u,zmk l];have e:5<c.p.at_↔6<=c.p.at_:=zX0;have ho:=zln p c.p;simp only[e];by_cases h:ltP p c.p
  ·have:=ho.2 h;rw[zP (c:=decide (ltP p c.p)=true) zXt,zN (c:=0<=z1w p c.p) zX0]
  ·have:¬z1w p c.p<0:=λhh=>h (ho.1 hh);rw[zN (c:=decide (ltP p c.p)=true) zXt,zP (c:=0<=z1w p c.p) zX0]
noncomputable def z29:zd:=spD (λ_:List Coin=>True) λl=>z9 l
theorem z3w(l:List Coin):z29 [.l 6 (l.map za)]=some [I (z9 l)]:=zi (f:=λl:List Coin=>z9 l) l trivial
theorem zdb:Meets Tryz.prog z29 30 zW01:=by
 refine zg (sp:=(zx [(23,z5o),(24,z9a)])) (sigs:=z02) (cut:=[]) (hints:=[⟨5,[.t 3,.t 2,.t 12]⟩]) (fn:=Tryz.f30) (t:=zda) ?_ ?_
 ·exact(zq (L:=[(23,z5o),(24,z9a)]) ⟨z7 rfl zmj,z7 rfl zu1,trivial⟩)
 ·rintro ds rs-h;obtain⟨l,-,rfl,rfl⟩:=zh h;clear h;refine⟨⟨l.length+1,?_⟩,z0b rfl⟩;show den _ _ zda [.l 6 (l.map za)] []=ret (z9 l);unfold zda z9;repeat'(first|refine dq1 ?_|refine dqc ?_|refine dqm ?_|exact z5 rfl rfl|((first|refine tR ?_ ?_|refine tB ?_ ?_|refine tC ?_ ?_|refine tN ?_ ?_|refine tF ?_ ?_|refine tG ?_ ?_|refine tP ?_ ?_|refine tQ ?_ ?_|refine tA ?_ ?_|refine tO ?_ ?_|refine tU ?_ ?_|refine tV ?_ ?_)<;>intro h)|refine dqT ?_|refine dqF ?_|refine z0h rfl ?_|refine z0e rfl ?_|refine zax ?_|refine z5u ?_)
  rw[<- zmk]
  (refine zj (λ(st:Point×Int) k=>[I st.2,I 0,I k]) (λst k (r:List Coin)=>zc1 st.1 st.2 r) (λst k=>((k=0/\st.1=⟨0,0⟩)\/(0<k/\∃d,l[((k:Int)-1).toNat]?=some d/\d.p=st.1))/\0<=st.2/\st.2<=1000000000) (⟨0,0⟩,0) l ?_ ?_ ?_ ?_ ?_;rfl;exact⟨.inl ⟨rfl,rfl⟩,by decide,by decide⟩;first|exact zY29 _|omega)
  ·rintro⟨pv,s⟩ k c r hx hd hk ⟨hp,hs0,hs1⟩ again hag;simp only at hp hs0 hs1⊢;rw[zc1];repeat'(first|refine dq1 ?_|refine dqc ?_|refine dqm ?_|refine dqK rfl (z6b _) ?_|exact z5 rfl rfl|((first|refine tR ?_ ?_|refine tB ?_ ?_|refine tC ?_ ?_|refine tN ?_ ?_|refine tF ?_ ?_|refine tG ?_ ?_|refine tP ?_ ?_|refine tQ ?_ ?_|refine tA ?_ ?_|refine tO ?_ ?_|refine tU ?_ ?_|refine tV ?_ ?_)<;>intro h)|refine dqT ?_|refine dqF ?_|refine z0h rfl ?_|refine z0e rfl ?_|refine zax ?_|refine z5u ?_)
   refine z3r rfl (λh=>?_) (λh=>?_)
   ·obtain⟨hk0,-⟩|⟨hk0,d,hd',rfl⟩:=hp
    ·omega
    repeat'(first|refine dq1 ?_|refine dqc ?_|refine dqm ?_|refine dqK rfl (zj2 _ _) ?_|exact z5 rfl rfl|((first|refine tR ?_ ?_|refine tB ?_ ?_|refine tC ?_ ?_|refine tN ?_ ?_|refine tF ?_ ?_|refine tG ?_ ?_|refine tP ?_ ?_|refine tQ ?_ ?_|refine tA ?_ ?_|refine tO ?_ ?_|refine tU ?_ ?_|refine tV ?_ ?_)<;>intro h)|refine dqT ?_|refine dqF ?_|refine z0h rfl ?_|refine z0e rfl ?_|refine zax ?_|refine z5u ?_)
    exact z6 rfl rfl (hag (c.p,s+c.o.coin) ⟨.inr ⟨by omega,c,by simpa using hx,rfl⟩,by simp only;omega,by simp only;omega⟩)
   ·obtain⟨rfl,rfl⟩|⟨hk0,-⟩:=hp
    ·have ho:ltP ⟨0,0⟩ c.p:=by unfold ltP;simp only;omega
     rw[zP zX1g];repeat'(first|refine dq1 ?_|refine dqc ?_|refine dqm ?_|exact z5 rfl rfl|((first|refine tR ?_ ?_|refine tB ?_ ?_|refine tC ?_ ?_|refine tN ?_ ?_|refine tF ?_ ?_|refine tG ?_ ?_|refine tP ?_ ?_|refine tQ ?_ ?_|refine tA ?_ ?_|refine tO ?_ ?_|refine tU ?_ ?_|refine tV ?_ ?_)<;>intro h)|refine dqT ?_|refine dqF ?_|refine z0h rfl ?_|refine z0e rfl ?_|refine zax ?_|refine z5u ?_)
     exact z6 rfl rfl (hag (c.p,s+c.o.coin) ⟨.inr ⟨by omega,c,by simpa using hx,rfl⟩,by simp only;omega,by simp only;omega⟩)
    ·omega
  ·intro st hI again;simp only[zc1];repeat'(first|refine dq1 ?_|refine dqc ?_|refine dqm ?_|exact z5 rfl rfl|((first|refine tR ?_ ?_|refine tB ?_ ?_|refine tC ?_ ?_|refine tN ?_ ?_|refine tF ?_ ?_|refine tG ?_ ?_|refine tP ?_ ?_|refine tQ ?_ ?_|refine tA ?_ ?_|refine tO ?_ ?_|refine tU ?_ ?_|refine tV ?_ ?_)<;>intro h)|refine dqT ?_|refine dqF ?_|refine z0h rfl ?_|refine z0e rfl ?_|refine zax ?_|refine z5u ?_)
end
section
open Go.Lib (itoa atoiAll atoiSat)
def zfo:List UInt8:=[45,32,45,32,100,117,112,32,115,119,97,112,32,100,114,111,112,32,97,100,100,32,115,117,98,32,115,97,109,101,32,108,101,115,115,32,110,111,116,32,97,110,100,32,118,101,114,105,102,121,32,104,101,105,103,104,116,32,109,105,120]
def wordsL:List (List UInt8):=[45]::[45]::opNames.drop 2
theorem zez:Go.Lib.fields zfo=wordsL:=by decide +kernel
theorem z00w:∀b∈zfo,b.toNat<128:=zX9
theorem z00x:∀y∈wordsL,y.length<=1000000:=zX9
theorem z0az:z6x [.s zfo]=some [.l 1 (wordsL.map z0a)]:=by have h:=zph zfo ⟨by decide,z00w,by rw[zez];decide,by rw[zez];exact z00x⟩;rw[zez]at h;exact h
theorem zu2{k:Int}(h0:2<=k)(h1:k<=13):wordsL[k.toNat]?=some ((opNames[k.toNat]?).getD []):=by have hk:k=2\/k=3\/k=4\/k=5\/k=6\/k=7\/k=8\/k=9\/k=10\/k=11\/k=12\/k=13:=zX0;rcases hk with rfl|rfl|rfl|rfl|rfl|rfl|rfl|rfl|rfl|rfl|rfl|rfl<;>rfl
def joinTail(acc:List UInt8)(first:Bool):List (List UInt8)->List UInt8
 | []=>acc
 |x::r=>joinTail (if first then acc++x else acc++[32]++x) false r
theorem zj3:∀(r:List (List UInt8)) (acc:List UInt8),joinTail acc false r=acc++(match r with | []=>[]|_=>32::z4n 32 r)
 | [],acc=>by simp[joinTail]
 |x::r,acc=>by
  rw[joinTail,zj3 r];cases r with
  |nil=>simp[z4n]
  |cons y r=>simp[z4n]
theorem zy6(l:List (List UInt8)):joinTail [] true l=z4n 32 l:=by
 cases l with
 |nil=>rfl
 |cons x r =>
  rw[joinTail,zj3];cases r with
  |nil=>simp[z4n]
  |cons y r=>simp[z4n]
noncomputable def z9o:zd:=spD (λl:List Op=>zb l=0) λl=>z6v l
theorem zh9(l:List Op)(h:zb l=0):z9o [.l 2 (l.map eOp)]=some [.s (z6v l)]:=zi (p:=λl:List Op=>zb l=0) (f:=λl:List Op=>z6v l) l h
attribute [local irreducible] z09 spD z1w itoa zb z2e z4n z4f zxb zel z84 zjx zjy joinTail den denX z0s z0w
def zy7:T:=zQ .gtr 4 (zI 0) 8 (zB .add 3 (.c (.s [32])) (zQ .eql 6 (zI 1) 10 (zC 38 [7] (zB .add 9 11 (zUa 4 12 13))) (zE 1 1 6 (zB .add 9 11 (zUa 4 12 13))))) (zQ .eql 6 (zI 1) 9 (zC 38 [7] (zB .add 3 10 (zUa 4 11 12))) (zE 1 1 6 (zB .add 3 10 (zUa 4 11 12))))
def zib:T:=zC 45 [.c (.s [45,32,45,32,100,117,112,32,115,119,97,112,32,100,114,111,112,32,97,100,100,32,115,117,98,32,115,97,109,101,32,108,101,115,115,32,110,111,116,32,97,110,100,32,118,101,114,105,102,121,32,104,101,105,103,104,116,32,109,105,120])] (zL 0 (.loop [.c (.s []),zI 0] (zQ .lss 4 2 5 (zE 2 0 4 zy7) (.ret [3]))))
section
variable {sp:Nat->zd} {N:Nat} {E E':Env} {ks:List (List Dt->Option (List Dt))} {res:Option (List Dt)}
theorem z8o{a b:Atom}{x y:List UInt8}(ha:a.val E=some (.s x))(hb:b.val E=some (.s y))(h:x.length+y.length<=1000000000):denX sp E (.B .add a b)=some (.s (x++y)):=by
 have e:denX sp E (.B .add a b)=(if x.length+y.length<=1000000000 then some (.s (x++y))else none):=by with_unfolding_all simp only[denX,ha,hb,zY0a,zY07];with_unfolding_all rfl
 rw[e,zP h]
end
attribute [local irreducible] z5e z6x
theorem z04j:Meets Tryz.prog z9o 108 zW01:=by
 refine zg (sp:=(zx [(38,z5e),(45,z6x)])) (sigs:=z02) (cut:=[]) (hints:=[⟨4,[.t 4,.t 10]⟩]) (fn:=Tryz.f108) (t:=zib) ?_ ?_
 ·exact(zq (L:=[(38,z5e),(45,z6x)]) ⟨z7 rfl zpg,z7 rfl zzq,trivial⟩)
 ·rintro ds rs-h;obtain⟨l,hc0,rfl,rfl⟩:=zh h;clear h;refine⟨⟨l.length+1,?_⟩,z0b rfl⟩;show den _ _ zib [.l 2 (l.map eOp)] []=ret (z6v l);obtain⟨hl16,hall⟩:=zej hc0;have et:z6v l=joinTail [] true (l.map z28):=by rw[zy6];with_unfolding_all rfl
  rw[et];have a1:=z0az;unfold zib;repeat'(first|refine dq1 ?_|refine dqk rfl (a1) ?_|fail)
  (refine zj (λ(a:List UInt8) k=>[.s a,I k]) (λ(a:List UInt8) k (r:List Op)=>joinTail a (decide (k=0)) (r.map z28)) (λa k=>a.length<=100*k) [] l ?_ ?_ ?_ ?_ ?_;rfl;exact Nat.zero_le _;omega)
  ·rintro a k o r hx hd hk ha again hag;have hbad:=hall o (zY06 hx);have ho:=zng hbad;obtain⟨ho1,ho2,-⟩:=ho;have hto:=zp7 hbad;have e1:joinTail a (decide (k=0)) (z28 o::r.map z28)=joinTail (if decide (k=0)=true then a++z28 o else a++[32]++z28 o) false (r.map z28):=by with_unfolding_all rfl
   rw[zY1n,e1];have hk1:decide (k+1=0)=false:=rfl;by_cases hk0:k=0
   ·rw[zP (decide_eq_true hk0)];have ha':=hag (a++z28 o) (by rw[zY04];omega);rw[hk1]at ha';repeat'(first|refine dq1 ?_|refine dqc ?_|refine dqm ?_|refine dqT ?_|refine dqF ?_|fail)
    refine z3r rfl (λh=>?_) (λh=>?_)
    ·have ht:z28 o=itoa o.n:=by with_unfolding_all exact zP h
     rw[ht]at ha' hto⊢;repeat'(first|refine dq1 ?_|refine dqk rfl (z7b _) ?_|refine z4 (z8o rfl rfl zX0) ?_|fail)
     exact z6 rfl rfl ha'
    ·have hw:=zu2 (k:=o.kind) zX0 ho2;have ht:z28 o=(opNames[o.kind.toNat]?).getD []:=by with_unfolding_all exact zN h
     rw[ht]at ha' hto⊢;have hwl:wordsL.length=14:=rfl;repeat'(first|refine dq1 ?_|refine dqc ?_|refine z4 (z8o rfl rfl zX0) ?_|fail)
     exact z6 rfl rfl ha'
   ·rw[zN (by simpa using hk0)];have ha':=hag (a++[32]++z28 o) zX8;rw[hk1]at ha';repeat'(first|refine dq1 ?_|refine dqc ?_|refine dqm ?_|refine dqT ?_|fail)
    refine z4 (z8o rfl rfl (by simp only[zY08,zY0p];omega)) ?_;have hal:(a++[32]).length<=2000:=by simp only[zY04,zY08,zY0p];omega
    generalize a++[32]=a2 at *;repeat'(first|refine dq1 ?_|fail)
    refine z3r rfl (λh=>?_) (λh=>?_)
    ·have ht:z28 o=itoa o.n:=by with_unfolding_all exact zP h
     rw[ht]at ha' hto⊢;repeat'(first|refine dq1 ?_|refine dqk rfl (z7b _) ?_|refine z4 (z8o rfl rfl zX0) ?_|fail)
     exact z6 rfl rfl ha'
    ·have hw:=zu2 (k:=o.kind) zX0 ho2;have ht:z28 o=(opNames[o.kind.toNat]?).getD []:=by with_unfolding_all exact zN h
     rw[ht]at ha' hto⊢;have hwl:wordsL.length=14:=rfl;repeat'(first|refine dq1 ?_|refine dqc ?_|refine z4 (z8o rfl rfl zX0) ?_|fail)
     exact z6 rfl rfl ha'
  ·rintro a ha again;have e0:∀b:Bool,joinTail a b []=a:=λb=>by with_unfolding_all rfl
   simp only[zY2o,e0];repeat'(first|refine dq1 ?_|exact z5 rfl rfl|refine dqF ?_|fail)
def z0g8(w:List UInt8):Int×Bool:=((zel w).1,!(zel w).2.is&&decide (itoa (zel w).1=w))
attribute [local irreducible] z0g8 zwn
end
section
def z5t:List Out->List Int->Int
 | [],l=>(z46 l).2
 |o::r,l=>if o.coin<1 then 3 else if zb o.lock≠0 then zb o.lock else z5t r (l++[o.coin])
def zc2(K:Int):List In->List Point->Int
 | [],_=>K
 |x::r,sn=>if x.p.tx<1 then 3 else if x.p.tx>120 then 3 else if x.p.at_<0 then 3 else if x.p.at_>5 then 3 else if zb x.key≠0 then zb x.key else if z15 sn x.p=true then 6 else zc2 K r (sn++[x.p])
theorem znv:∀(r:List Out) (l:List Int),z5t r l=if z2l r≠0 then z2l r else(z46 (l++r.map Out.coin)).2
 | [],l=>by rw[z5t,z2l];simp
 |o::r,l=>by
  rw[z5t,z2l,znv r];unfold z6w;by_cases h1:o.coin<1
  ·rw[zP h1,zP h1];rfl
  rw[zN h1,zN h1];by_cases h2:zb o.lock≠0
  ·rw[zP h2,zP h2,zP h2]
  rw[zN h2,zN h2];simp
theorem zu3:∀(s:List In) (p:Point) (k:Nat),(0<=z52 s p k↔p∈s.map (·.p))
 | [],p,k=>by simp[z52]
 |y::s,p,k=>by
  rw[z52];by_cases h:y.p=p
  ·rw[zP h];simp[h]
  ·rw[zN h,zu3 s p (k+1),zY1n,zY0g];exact⟨.inr,λx=>x.resolve_left λe=>h e.symm⟩
theorem z02c(K:Int):∀(r s:List In),zc2 K r (s.map (·.p))=if z2w r s≠0 then z2w r s else K
 | [],s=>by rw[zc2,z2w];simp
 |x::r,s=>by
  have hm:(z15 (s.map (·.p)) x.p=true)=(0<=z52 s x.p 0):=by unfold z15;rw[decide_eq_true_eq,zu3 s x.p 0]
  have ih:=z02c K r (s++[x]);rw[zY24]at ih;rw[zc2,z2w];simp only[hm];unfold z53;by_cases h0:x.p.tx<1\/120<x.p.tx\/x.p.at_<0\/6<=x.p.at_
  ·rw[zP h0,zP (show(3:Int)≠0 by decide),zP (show(3:Int)≠0 by decide)];by_cases h1:x.p.tx<1
   ·rw[zP h1]
   by_cases h2:x.p.tx>120
   ·rw[zN h1,zP h2]
   by_cases h3:x.p.at_<0
   ·rw[zN h1,zN h2,zP h3]
   ·rw[zN h1,zN h2,zN h3,zP zX0]
  ·rw[zN h0,zN (show ¬x.p.tx<1 by omega),zN (show ¬x.p.tx>120 by omega),zN (show ¬x.p.at_<0 by omega),zN (show ¬x.p.at_>5 by omega)];by_cases h1:zb x.key≠0
   ·rw[zP h1,zP h1,zP h1]
   rw[zN h1,zN h1];by_cases h2:0<=z52 s x.p 0
   ·rw[zP h2,zP h2];rfl
   ·rw[zN h2,zN h2];exact ih
theorem z00y(t:Tx):zo t=if 6<t.ins.length\/6<t.outs.length then 2 else if t.outs.length=0 then 4 else if(t.ins.length=0/\(t.height<1\/1000<t.height))\/(0<t.ins.length/\t.height≠0)then 3 else zc2 (z5t t.outs []) t.ins []:=by
 have e:=z02c (z5t t.outs []) t.ins [];rw[znv]at e;simp only[zY2o,zY16]at e;rw[znv];simp only[zY16];rw[e];unfold zo z2m;split
 ·simp
 split
 ·simp
 split
 ·simp
 ·simp
attribute [local irreducible] z09 spD z1w z9 zb zo den denX z0s z0w
noncomputable def zha:zd:=spD (λ_:List Point×Point=>True) λx=>z15 x.1 x.2
theorem zqb(l:List Point)(p:Point):zha [.l 2 (l.map z3k),I p.tx,I p.at_]=some [.b (z15 l p)]:=zi (f:=λx:List Point×Point=>z15 x.1 x.2) (l,p) trivial
theorem z081(q:Point)(r:List Point)(p:Point):z15 (q::r) p=if p=q then true else z15 r p:=by
 unfold z15;by_cases h:p=q
 ·rw[zP h];simp[h]
 ·rw[zN h];simp[h]
def zy8:T:=zL 0 (.loop [zI 0,zI 0] (zQ .lss 5 3 6 (zE 2 0 5 (zS (.eqs false [(1,7),(2,8)]) (.ite 9 (zB .geq 5 (zI 0) (.ret [10])) (zUa 5 4 10)))) (zB .geq (zI (-1)) (zI 0) (.ret [7]))))
theorem z0g9:Meets Tryz.prog zha 73 zW0r:=by
 refine z73 (sp:=(zx [])) (sigs:=z02) (cut:=[]) (hints:=[]) (fns:=[za0 103 Tryz.f103 [⟨2,[.t 4,.t 8]⟩] []]) (dep:=1) (pool:=60) (fn:=Tryz.f73) (t:=zy8) ?_ ?_ ?_
 ·exact(z2q (fn:=Tryz.f103) zX1 zX1 zX1 zX1 zX1 z8e)
 ·exact(zq (L:=[]) trivial)
 ·rintro ds rs hok h;obtain⟨⟨l,p⟩,-,rfl,rfl⟩:=zh h;have hl:=zxg (hok (.l 2 (l.map z3k)) (zY0i ..));clear hok h;refine⟨⟨l.length+1,?_⟩,z0b rfl⟩;show den _ _ zy8 [.l 2 (l.map z3k),I p.tx,I p.at_] []=ret (z15 l p);unfold zy8;repeat'(first|refine dq1 ?_|fail)
  (refine zj (λ(_:Unit) k=>[I 0,I k]) (λ(_:Unit) k (r:List Point)=>z15 r p) (λ_ _=>True) () l ?_ ?_ ?_ ?_ ?_;rfl;exact trivial;omega)
  ·rintro _ k c r hx hd hk-again hag;rw[z081];have hag:=hag () trivial;by_cases hc:p=c
   ·subst hc;rw[zP rfl];repeat'(first|refine dq1 ?_|refine dqc ?_|refine dqm ?_|exact z5 rfl rfl|refine dqT ?_|refine z0h rfl ?_|fail)
   ·rw[zN hc];repeat'(first|refine dq1 ?_|refine dqc ?_|refine dqm ?_|exact z6 rfl rfl hag|refine dqT ?_|refine dqF ?_|fail)
  ·rintro _-again;have e:z15 [] p=false:=by with_unfolding_all rfl
   rw[e];repeat'(first|refine dq1 ?_|exact z5 rfl rfl|refine dqF ?_|fail)
noncomputable def zcx:zd:=spD (λ_:List Int=>True) λl=>z46 l
theorem zkw(l:List Int):zcx [.l 1 (l.map zl)]=some [I (z46 l).1,I (z46 l).2]:=zi (f:=λl:List Int=>z46 l) l trivial
def z04k:T:=.loop [zI 0,zI 0,zI 0,zI 0] (zQ .lss 5 1 6 (zE 1 0 5 (zQ .geq 7 (zI 0) 8 (zB .leq 7 (zI 1000000000) (zS (.not 9) (.ite 10 (.ret [zI 0,zI 3]) (zB .add 2 7 (zQ .gtr 11 (zI 1000000000) 12 (.ret [zI 0,zI 12]) (zUn 5 11 3 4 13)))))) (.ret [zI 0,zI 3]))) (.ret [2,zI 0]))
def znw:T:=zL 0 z04k
theorem z0b0:Meets Tryz.prog zcx 74 zW0a:=by
 refine z73 (sp:=(zx [])) (sigs:=z02) (cut:=[]) (hints:=[⟨3,[.t 4,.t 2,.t 3,.t 9]⟩]) (fns:=[za0 44 Tryz.f44 [] []]) (dep:=1) (pool:=40) (fn:=Tryz.f74) (t:=znw) ?_ ?_ ?_
 ·exact(z2q (fn:=Tryz.f44) zX1 zX1 zX1 zX1 zX1 z8e)
 ·exact(zq (L:=[]) trivial)
 ·rintro ds rs hok h;obtain⟨l,-,rfl,rfl⟩:=zh h;have hl:=zxg (hok (.l 1 (l.map zl)) (zY0i ..));clear hok h;refine⟨⟨l.length+1,?_⟩,zbw rfl rfl⟩;show den _ _ znw [.l 1 (l.map zl)] []=ret (z9u l 0);unfold znw;repeat'(first|refine dq1 ?_|fail)
  (refine zj (λ(s:Int) k=>[I s,I 0,I 0,I k]) (λ(s:Int) k (r:List Int)=>z9u r s) (λs _=>0<=s/\s<=1000000000) 0 l ?_ ?_ ?_ ?_ ?_;rfl;exact⟨by omega,by omega⟩;omega)
  ·rintro s k x r hx hd hk ⟨s1,s2⟩ again hag;rw[z9u];by_cases h1:0<=x/\x<=1000000000
   ·obtain⟨x1,x2⟩:=h1;rw[zP ⟨x1,x2⟩];by_cases h2:1000000000<s+x
    ·rw[zP h2];repeat'(first|refine dq1 ?_|refine dqc ?_|exact z5 rfl rfl|refine dqT ?_|refine z5u ?_|fail)
    ·rw[zN h2];have hag:=hag (s+x) ⟨by omega,by omega⟩;repeat'(first|refine dq1 ?_|refine dqc ?_|exact z6 rfl rfl hag|refine dqT ?_|refine dqF ?_|refine z5u ?_|fail)
   ·rw[zN h1];by_cases h3:0<=x
    ·have h4:¬x<=1000000000:=λh=>h1 ⟨h3,h⟩;clear h1;repeat'(first|refine dq1 ?_|refine dqc ?_|exact z5 rfl rfl|refine dqT ?_|refine zax ?_|fail)
    ·clear h1;repeat'(first|refine dq1 ?_|refine dqc ?_|exact z5 rfl rfl|refine dqT ?_|refine dqF ?_|fail)
  ·rintro s ⟨s1,s2⟩ again;rw[z9u];repeat'(first|refine dq1 ?_|exact z5 rfl rfl|refine dqF ?_|fail)
noncomputable def zci:zd:=spD (λ_:Tx=>True) λt=>zo t
theorem zs1(t:Tx):zci [I t.height,.l 3 (t.ins.map eIn),.l 2 (t.outs.map z30)]=some [I (zo t)]:=zi (f:=λt:Tx=>zo t) t trivial
def zU1b(a:Nat):T:=zQ .neq (.v (a+12)) (zI 0) (.v (a+13)) (.ret [.v (a+12)]) (zC 106 [.v (a+2),.v (a+5),.v (a+6)] (.ite (.v (a+14)) (.ret [zI 6]) (zS (.mk 2 [[.v (a+5),.v (a+6)]]) (zS (.app 2 (.v (a+2)) (.v (a+15))) (zUz (.v (a+3)) (.v (a+1)) (.v (a+16)) (.v (a+17)))))))
def zU1c(a:Nat):T:=.W (zD 1 (.v (a+3)) 3) [] (zQ .lss (.v (a+5)) (zI 1) (.v (a+8)) (.ret [zI 3]) (zQ .gtr (.v (a+5)) (zI 120) (.v (a+9)) (.ret [zI 3]) (zQ .lss (.v (a+6)) (zI 0) (.v (a+10)) (.ret [zI 3]) (zQ .gtr (.v (a+6)) (zI 5) (.v (a+11)) (.ret [zI 3]) (zC 23 [.v (a+7)] (zU1b a))))))
def zU1d(a:Nat):T:=zQ .lss (.v (a+10)) (zI 1) (.v (a+12)) (.ret [zI 3]) (zC 23 [.v (a+11)] (zQ .neq (.v (a+13)) (zI 0) (.v (a+14)) (.ret [.v (a+13)]) (zS (.mk 1 [[.v (a+10)]]) (zS (.app 1 (.v (a+7)) (.v (a+15))) (zB .add (.v (a+8)) (zI 1) (.again 1 [.v (a+6),.v (a+16),.v (a+17)]))))))
def zU1e(a:Nat):T:=.loop [zI 0,.c (.nil 2),zI 0] (zQ .lss (.v (a+3)) (.v a) (.v (a+4)) (.W [] [.inr 3 1 (.v (a+3))] (zU1c a)) (zL 2 (.loop [.v (a+1),.c (.nil 1),zI 0] (zQ .lss (.v (a+8)) (.v (a+5)) (.v (a+9)) (zE 2 2 (.v (a+8)) (zU1d a)) (.W (zK 107 [.v (a+7)] 2) [] (.ret [.v (a+11)]))))))
def zU4(a:Nat):T:=zL 1 (zU1e a)
def zUu(a:Nat):T:=zL 1 (zQ .eql (.v a) (zI 0) (.v (a+1)) (zQ .lss 0 (zI 1) (.v (a+2)) (.ret [zI 3]) (zQ .gtr 0 (zI 1000) (.v (a+3)) (.ret [zI 3]) (zU4 (a+4)))) (zU4 (a+2)))
def zic:T:=zL 1 (zQ .gtr 3 (zI 6) 4 (.ret [zI 2]) (zL 2 (zQ .gtr 5 (zI 6) 6 (.ret [zI 2]) (zL 2 (zQ .eql 7 (zI 0) 8 (.ret [zI 4]) (zL 1 (zQ .gtr 9 (zI 0) 10 (zQ .neq 0 (zI 0) 11 (.ret [zI 3]) (zUu 12)) (zUu 11))))))))
attribute [local irreducible] zha z5o zcx
theorem z04l:Meets Tryz.prog zci 45 zW0c:=by
 refine zg (sp:=(zx [(23,z5o),(106,zha),(107,zcx)])) (sigs:=z02) (cut:=[]) (hints:=[⟨9,[.t 2,.r 3 79 2,.t 55]⟩,⟨22,[.t 2,.r 7 3 1,.t 100]⟩]) (fn:=Tryz.f45) (t:=zic) ?_ ?_
 ·exact(zq (L:=[(23,z5o),(106,zha),(107,zcx)]) ⟨z7 rfl zmj,z7 rfl z0g9,z7 rfl z0b0,trivial⟩)
 ·rintro ds rs-h;obtain⟨⟨th,ins,outs⟩,-,rfl,rfl⟩:=zh h;clear h;refine⟨⟨20,?_⟩,z0b rfl⟩;show den _ _ zic [I th,.l 3 (ins.map eIn),.l 2 (outs.map z30)] []=ret (zo ⟨th,ins,outs⟩);rw[z00y];simp only;unfold zic;by_cases h1:6<ins.length
  ·rw[zP (.inl h1)];repeat'(first|refine dq1 ?_|exact z5 rfl rfl|refine dqT ?_|fail)
  by_cases h2:6<outs.length
  ·rw[zP (.inr h2)];repeat'(first|refine dq1 ?_|exact z5 rfl rfl|refine dqT ?_|refine dqF ?_|fail)
  rw[zN zX0];by_cases h3:outs.length=0
  ·rw[zP h3];repeat'(first|refine dq1 ?_|exact z5 rfl rfl|refine dqT ?_|refine dqF ?_|fail)
  rw[zN h3];by_cases h4:ins.length=0
  ·by_cases h5:th<1
   ·rw[zP (.inl ⟨h4,.inl h5⟩)];repeat'(first|refine dq1 ?_|exact z5 rfl rfl|refine dqT ?_|refine dqF ?_|fail)
   by_cases h6:1000<th
   ·rw[zP (.inl ⟨h4,.inr h6⟩)];repeat'(first|refine dq1 ?_|exact z5 rfl rfl|refine dqT ?_|refine dqF ?_|fail)
   rw[zN zX0];repeat'(first|refine dq1 ?_|refine dqT ?_|refine dqF ?_|fail)
   (refine zj (λ(sn:List Point) k=>[I 0,.l 2 (sn.map z3k),I k]) (λ(sn:List Point) _ (r:List In)=>zc2 (z5t outs []) r sn) (λsn k=>sn.length=k) [] ins ?_ ?_ ?_ ?_ ?_;rfl;exact rfl;omega)
   ·rintro sn k x r hx hd hk hs again hag;have b1:=z6b x.key;have b2:=zqb sn x.p;have hag:=hag (sn++[x.p]) zXa;rw[zc2];generalize zc2 (z5t outs []) r (sn++[x.p])=R at *;generalize zb x.key=e at *;generalize z15 sn x.p=mb at *;repeat'(first|refine dq1 ?_|refine dqc ?_|refine dqm ?_|refine dqk rfl (b1) ?_|refine dqk rfl (b2) ?_|refine z4 (z1p (r:=([x.p].map z3k)) rfl rfl zX4) ?_|exact z6 rfl rfl hag|exact z5 rfl rfl|((first|refine tR ?_ ?_|refine tB ?_ ?_)<;>intro h)|refine dqT ?_|fail)
   ·rintro sn hs again;rw[zc2];repeat'(first|refine dq1 ?_|refine dqF ?_|fail)
    (refine zj (λ(l:List Int) k=>[I 0,.l 1 (l.map zl),I k]) (λ(l:List Int) _ (r:List Out)=>z5t r l) (λl k=>l.length=k) [] outs ?_ ?_ ?_ ?_ ?_;rfl;exact rfl;omega)
    ·rintro l k x r hx hd hk hs2 again2 hag;have b1:=z6b x.lock;have hag:=hag (l++[x.coin]) zXa;rw[z5t];generalize z5t r (l++[x.coin])=R at *;generalize zb x.lock=e at *;repeat'(first|refine dq1 ?_|refine dqc ?_|refine dqm ?_|refine dqk rfl (b1) ?_|exact z6 rfl rfl hag|exact z5 rfl rfl|refine tR (λh=>?_) λh=>?_|refine dqT ?_|fail)
    ·rintro l hs2 again2;rw[z5t];have b1:=zkw l;generalize z46 l=q at *;obtain⟨q1,q2⟩:=q;simp only at b1⊢;repeat'(first|refine dq1 ?_|refine dqK rfl (b1) ?_|exact z5 rfl rfl|refine dqF ?_|fail)
  ·by_cases h5:th=0
   rotate_left
   ·rw[zP (.inr ⟨by omega,h5⟩)];repeat'(first|refine dq1 ?_|exact z5 rfl rfl|refine dqT ?_|refine dqF ?_|fail)
   rw[zN zX0];repeat'(first|refine dq1 ?_|refine dqT ?_|refine dqF ?_|fail)
   (refine zj (λ(sn:List Point) k=>[I 0,.l 2 (sn.map z3k),I k]) (λ(sn:List Point) _ (r:List In)=>zc2 (z5t outs []) r sn) (λsn k=>sn.length=k) [] ins ?_ ?_ ?_ ?_ ?_;rfl;exact rfl;omega)
   ·rintro sn k x r hx hd hk hs again hag;have b1:=z6b x.key;have b2:=zqb sn x.p;have hag:=hag (sn++[x.p]) zXa;rw[zc2];generalize zc2 (z5t outs []) r (sn++[x.p])=R at *;generalize zb x.key=e at *;generalize z15 sn x.p=mb at *;repeat'(first|refine dq1 ?_|refine dqc ?_|refine dqm ?_|refine dqk rfl (b1) ?_|refine dqk rfl (b2) ?_|refine z4 (z1p (r:=([x.p].map z3k)) rfl rfl zX4) ?_|exact z6 rfl rfl hag|exact z5 rfl rfl|((first|refine tR ?_ ?_|refine tB ?_ ?_)<;>intro h)|refine dqT ?_|fail)
   ·rintro sn hs again;rw[zc2];repeat'(first|refine dq1 ?_|refine dqF ?_|fail)
    (refine zj (λ(l:List Int) k=>[I 0,.l 1 (l.map zl),I k]) (λ(l:List Int) _ (r:List Out)=>z5t r l) (λl k=>l.length=k) [] outs ?_ ?_ ?_ ?_ ?_;rfl;exact rfl;omega)
    ·rintro l k x r hx hd hk hs2 again2 hag;have b1:=z6b x.lock;have hag:=hag (l++[x.coin]) zXa;rw[z5t];generalize z5t r (l++[x.coin])=R at *;generalize zb x.lock=e at *;repeat'(first|refine dq1 ?_|refine dqc ?_|refine dqm ?_|refine dqk rfl (b1) ?_|exact z6 rfl rfl hag|exact z5 rfl rfl|refine tR (λh=>?_) λh=>?_|refine dqT ?_|fail)
    ·rintro l hs2 again2;rw[z5t];have b1:=zkw l;generalize z46 l=q at *;obtain⟨q1,q2⟩:=q;simp only at b1⊢;repeat'(first|refine dq1 ?_|refine dqK rfl (b1) ?_|exact z5 rfl rfl|refine dqF ?_|fail)
end
section
open Go.Lib (itoa)
attribute [local irreducible] z09 spD z1w itoa zb z2e z4n z4f zxb zel z84 zjx zjy zo zp6 den denX z0s z0w
theorem z04m{x:In}(h:zb x.key=0):z43 x=[105,110,32]++itoa x.p.tx++[32]++itoa x.p.at_++[58]++z6v x.key++[10]:=by unfold z43 z3v;rw[zN (λk=>k h)]
theorem z00z{x:Out}(h:zb x.lock=0):z32 x=[111,117,116,32]++itoa x.coin++[58]++z6v x.lock++[10]:=by unfold z32 z3v;rw[zN (λk=>k h)]
noncomputable def z6c:zd:=spD (λt:Tx=>zo t=0) λt=>z0t t
theorem zj4(t:Tx)(h:zo t=0):z6c [I t.height,.l 3 (t.ins.map eIn),.l 2 (t.outs.map z30)]=some [.s (z0t t)]:=zi (p:=λt:Tx=>zo t=0) (f:=λt:Tx=>z0t t) t h
def z010:T:=.ite 9 (zE 3 1 8 (zC 38 [10] (zB .add (.c (.s [105,110,32])) 13 (zB .add 14 (.c (.s [32])) (zC 38 [11] (zB .add 15 16 (zB .add 17 (.c (.s [58])) (zC 47 [12] (zB .add 18 19 (zB .add 20 (.c (.s [10])) (zB .add 7 21 (zUa 8 22 23)))))))))))) (zL 2 (.loop [7,zI 0] (zQ .lss 12 10 13 (zE 2 2 12 (zC 38 [14] (zB .add (.c (.s [111,117,116,32])) 16 (zB .add 17 (.c (.s [58])) (zC 47 [15] (zB .add 18 19 (zB .add 20 (.c (.s [10])) (zB .add 11 21 (zUx 12 22 23))))))))) (.ret [11]))))
def zkx:T:=zC 38 [0] (zB .add (.c (.s [116,120,32])) 3 (zB .add 4 (.c (.s [10])) (zL 1 (.loop [5,zI 0] (zB .lss 8 6 z010)))))
attribute [local irreducible] z5e z9o
theorem zu4:Meets Tryz.prog z6c 82 zW0c:=by
 refine zg (sp:=(zx [(38,z5e),(47,z9o)])) (sigs:=z02) (cut:=[]) (hints:=[⟨3,[.t 3,.t 16]⟩,⟨8,[.t 3,.t 43]⟩]) (fn:=Tryz.f82) (t:=zkx) ?_ ?_
 ·exact(zq (L:=[(38,z5e),(47,z9o)]) ⟨z7 rfl zpg,z7 rfl z04j,trivial⟩)
 ·rintro ds rs-h;obtain⟨t,ht,rfl,rfl⟩:=zh h;clear h;refine⟨⟨20,?_⟩,z0b rfl⟩;show den _ _ zkx [I t.height,.l 3 (t.ins.map eIn),.l 2 (t.outs.map z30)] []=ret (z5f t++t.ins.flatMap z43++t.outs.flatMap z32);have ok:=z3t ht;have h0:=zip ok.head;have lh:=z5g (n:=t.height) zX0 zX0;have hn1:=ok.ins;have hn2:=ok.outs;have lhh:(z5f t).length<=24:=by simp only[z5f,zY04,zY08,zY0p];omega
  unfold zkx;repeat'(first|refine dq1 ?_|refine dqk rfl (z7b _) ?_|refine z4 (z8o rfl rfl zX8) ?_|fail)
  (refine zj (λ(a:List UInt8) k=>[.s a,I k]) (λ(a:List UInt8) _ (r:List In)=>a++r.flatMap z43++t.outs.flatMap z32) (λa k=>a.length<=24+200*k) (z5f t) t.ins ?_ ?_ ?_ ?_ ?_;rfl;exact zX0;omega)
  ·rintro a k x r hx hd hk ha again hag;have hxb:=znj ok.insOk x (zY06 hx);obtain⟨b1,b2,b3,b4,b5⟩:=zx0 hxb;have il:=ztj hxb;have l1:=z5g (n:=x.p.tx) zX0 zX0;have l2:=z5g (n:=x.p.at_) zX0 zX0;have ol:=zce b5;have a3:=zh9 x.key b5;have hag':=hag (a++z43 x) (by rw[zY04];omega);have e:a++(x::r).flatMap z43=(a++z43 x)++r.flatMap z43:=zX4;rw[e];rw[z04m b5]at hag' ⊢;clear hag e il;repeat'(first|refine dq1 ?_|refine dqc ?_|refine dqm ?_|refine dqk rfl (z7b _) ?_|refine dqk rfl (a3) ?_|refine z4 (z8o rfl rfl zX8) ?_|refine dqT ?_|fail)
   exact z6 rfl rfl hag'
  ·rintro a ha again;simp only[zY2r,zY1b];repeat'(first|refine dq1 ?_|refine dqF ?_|fail)
   (refine zj (λ(b:List UInt8) k=>[.s b,I k]) (λ(b:List UInt8) _ (r:List Out)=>b++r.flatMap z32) (λb k=>b.length<=a.length+200*k) a t.outs ?_ ?_ ?_ ?_ ?_;rfl;exact zX0;omega)
   ·rintro b k x r hx hd hk hb again' hag;obtain⟨b1,b2,b5⟩:=ok.good x (zY06 hx);have il:=zpi b1 b2;have l1:=z5g (n:=x.coin) zX0 zX0;have ol:=zce b5;have a3:=zh9 x.lock b5;have hag':=hag (b++z32 x) (by rw[zY04];omega);have e:b++(x::r).flatMap z32=(b++z32 x)++r.flatMap z32:=zX4;rw[e];rw[z00z b5]at hag' ⊢;clear hag e il;repeat'(first|refine dq1 ?_|refine dqc ?_|refine dqm ?_|refine dqk rfl (z7b _) ?_|refine dqk rfl (a3) ?_|refine z4 (z8o rfl rfl zX8) ?_|refine dqT ?_|fail)
    exact z6 rfl rfl hag'
   ·rintro b hb again';simp only[zY2r,zY1b];repeat'(first|refine dq1 ?_|exact z5 rfl rfl|refine dqF ?_|fail)
end

section
open Go.Lib (itoa)
section
variable {sp:Nat->zd} {E:Env}
end
attribute [local irreducible] den denX z0s z0w z09 spD z84 zel z06z zf z079 zxd z044 itoa
end
section
open Go.Lib (itoa)
noncomputable def z4j:zd:=spD (λ_:Block=>True) λb=>zf b
theorem zfp(b:Block):z4j [I b.parent,I b.height,I b.work,I b.nonce,.l 3 (b.txs.map eTx)]=some [I (zf b)]:=zi (f:=λb:Block=>zf b) b trivial
def zv1:T:=.ite 26 (.ret [25]) (zL 23 (zB .eql 27 (zI 0) (zQ .eql 20 (zI 0) 29 (zS (.not 28) (.ite 30 (.ret [zI 4]) (zQ .neq 22 1 31 (.ret [zI 4]) (zQ .gtr 20 (zI 0) 32 (znh 28 (zI 4) 19 33) (zUa 20 19 33))))) (zQ .gtr 20 (zI 0) 30 (znh 28 (zI 4) 19 31) (zUa 20 19 31)))))
def zv2:T:=zS (.not 12) (.ite 13 (.ret [zI 3]) (zL 4 (zQ .gtr 14 (zI 4) 15 (.ret [zI 2]) (zL 4 (zQ .eql 16 (zI 0) 17 (.ret [zI 4]) (zL 4 (.loop [zI 0,zI 0] (zQ .lss 20 18 21 (zE 3 4 20 (zC 52 [22,23,24] (zB .neq 25 (zI 0) zv1))) (.ret [zI 0])))))))))
def zv3:T:=zQ .gtr 0 (zI 120) 6 (.ret [zI 3]) (zQ .lss 1 (zI 1) 7 (.ret [zI 3]) (zQ .gtr 1 (zI 1000) 8 (.ret [zI 3]) (zQ .lss 2 (zI 1) 9 (.ret [zI 3]) (zQ .gtr 2 (zI 1000) 10 (.ret [zI 3]) (zQ .geq 3 (zI 0) 11 (zB .leq 3 (zI 1000000000) zv2) (.ret [zI 3]))))))
def zg7:T:=zQ .lss 0 (zI 0) 5 (.ret [zI 3]) zv3
theorem zml:Meets Tryz.prog z4j 20 zW0d:=by
 refine z73 (sp:=(zx [(52,zci)])) (sigs:=z02) (cut:=[]) (hints:=[⟨8,[.t 2,.t 52]⟩]) (fns:=[za0 44 Tryz.f44 [] []]) (dep:=1) (pool:=100) (fn:=Tryz.f20) (t:=zg7) ?_ ?_ ?_
 ·exact(z2q (fn:=Tryz.f44) zX1 zX1 zX1 zX1 zX1 z8e)
 ·exact(zq (L:=[(52,zci)]) ⟨z7 rfl z04l,trivial⟩)
 ·rintro ds rs-h;obtain⟨⟨bp,bh,bw,bn,txs⟩,-,rfl,rfl⟩:=zh h;clear h;refine⟨⟨20,?_⟩,z0b rfl⟩;show den _ _ zg7 [I bp,I bh,I bw,I bn,.l 3 (txs.map eTx)] []=ret (zf ⟨bp,bh,bw,bn,txs⟩);unfold zg7;by_cases hr:z31 ⟨bp,bh,bw,bn,txs⟩
  ·have e:zf ⟨bp,bh,bw,bn,txs⟩=3:=by unfold zf z60;rw[zP hr];rfl
   rw[e];clear e;unfold z31 at hr;simp only at hr;repeat'(first|refine dq1 ?_|exact z5 rfl rfl|refine zax ?_|refine tZ (λh=>?_) λh=>?_|fail)
   all_goals(exfalso;omega)
  ·have e:zf ⟨bp,bh,bw,bn,txs⟩=if 4<txs.length then 2 else if txs.length=0 then 4 else z79 bh txs 0:=by
    unfold zf z60;rw[zN hr];simp only;split
    ·rfl
    split
    ·rfl
    ·rfl
   rw[e];clear e;unfold z31 at hr;simp only at hr;by_cases h4:4<txs.length
   ·rw[zP h4];repeat'(first|refine dq1 ?_|exact z5 rfl rfl|refine dqT ?_|refine dqF ?_|refine z5u ?_|fail)
   rw[zN h4];by_cases h0:txs.length=0
   ·rw[zP h0];repeat'(first|refine dq1 ?_|exact z5 rfl rfl|refine dqT ?_|refine dqF ?_|refine z5u ?_|fail)
   rw[zN h0];repeat'(first|refine dq1 ?_|refine dqT ?_|refine dqF ?_|refine z5u ?_|fail)
   (refine zj (λ(_:Unit) k=>[I 0,I k]) (λ(_:Unit) k (r:List Tx)=>z79 bh r k) (λ_ _=>True) () txs ?_ ?_ ?_ ?_ ?_;rfl;exact trivial;omega)
   ·rintro _ k x r hx hd hk-again hag;have b1:=zs1 x;have hag:=hag () trivial;rw[z79];by_cases hc:zo x=0
    rotate_left
    ·rw[zP hc];generalize zo x=e at *;repeat'(first|refine dq1 ?_|refine dqc ?_|refine dqm ?_|refine dqk rfl (b1) ?_|exact z5 rfl rfl|refine dqT ?_|fail)
    rw[zN (λz=>z hc)];rw[hc]at b1;by_cases ho:zay bh x k
    ·rw[zP ho];unfold zay at ho;repeat'(first|refine dq1 ?_|refine dqc ?_|refine dqm ?_|refine dqk rfl (b1) ?_|exact z5 rfl rfl|refine dqT ?_|refine dqF ?_|refine tZ (λh=>?_) λh=>?_|refine tZn (λh=>?_) λh=>?_|fail)
     all_goals(exfalso;omega)
    ·rw[zN ho];unfold zay at ho;repeat'(first|refine dq1 ?_|refine dqc ?_|refine dqm ?_|refine dqk rfl (b1) ?_|exact z6 rfl rfl hag|refine dqT ?_|refine dqF ?_|refine z5u ?_|refine tZ (λh=>?_) λh=>?_|fail)
     all_goals(exfalso;omega)
   ·rintro _-again;rw[z79];repeat'(first|refine dq1 ?_|exact z5 rfl rfl|refine dqF ?_|fail)
attribute [local irreducible] z09 spD itoa zo zf z06z z0t zxe z84 den denX z0s z0w
theorem zy9(b:Block):z5j b=tBlk++[b.parent,b.height,b.work,b.nonce].flatMap (λn=>32::itoa n)++[10]:=by simp[z5j,tBlk]
noncomputable def z9p:zd:=spD (λb:Block=>zf b=0) λb=>z1m b
theorem zs2(b:Block)(h:zf b=0):z9p [I b.parent,I b.height,I b.work,I b.nonce,.l 3 (b.txs.map eTx)]=some [.s (z1m b)]:=zi (p:=λb:Block=>zf b=0) (f:=λb:Block=>z1m b) b h
def zya:T:=.loop [.c (.s [98,108,111,99,107]),zI 0] (zQ .lss 8 6 9 (zE 1 5 8 (zC 38 [10] (zB .add (.c (.s [32])) 11 (zB .add 7 12 (zUa 8 13 14))))) (zB .add 7 (.c (.s [10])) (zL 4 (.loop [10,zI 0] (zQ .lss 13 11 14 (zE 3 4 13 (zC 63 [15,16,17] (zB .add 12 18 (zUx 13 19 20)))) (.ret [12]))))))
def zid:T:=zS (.mk 1 [[0],[1],[2],[3]]) (zL 5 zya)
attribute [local irreducible] z5e z6c
theorem z04n:Meets Tryz.prog z9p 83 zW0d:=by
 refine zg (sp:=(zx [(38,z5e),(63,z6c)])) (sigs:=z02) (cut:=[]) (hints:=[⟨3,[.t 3,.t 18]⟩,⟨9,[.t 3,.t 33]⟩]) (fn:=Tryz.f83) (t:=zid) ?_ ?_
 ·exact(zq (L:=[(38,z5e),(63,z6c)]) ⟨z7 rfl zpg,z7 rfl zu4,trivial⟩)
 ·rintro ds rs-h;obtain⟨b,hb,rfl,rfl⟩:=zh h;clear h;refine⟨⟨20,?_⟩,z0b rfl⟩;show den _ _ zid [I b.parent,I b.height,I b.work,I b.nonce,.l 3 (b.txs.map eTx)] []=ret (z5j b++b.txs.flatMap z0t);have ok:=z1b hb;have hn:=ok.len;have hr:=ok.range;unfold z31 at hr;have htb:tBlk.length=5:=rfl;rw[zy9];unfold zid;repeat'(first|refine z4 (z1p rfl rfl zX4) ?_|fail)
  change den _ _ _ [I b.parent,I b.height,I b.work,I b.nonce,.l 3 (b.txs.map eTx),.l 1 (([b.parent,b.height,b.work,b.nonce]:List Int).map zl)] []=_;repeat'(first|refine dq1 ?_|fail)
  (refine zj (λ(a:List UInt8) k=>[.s a,I k]) (λ(a:List UInt8) _ (r:List Int)=>a++r.flatMap (λn=>32::itoa n)++[10]++b.txs.flatMap z0t) (λa k=>a.length<=5+30*k) tBlk [b.parent,b.height,b.work,b.nonce] ?_ ?_ ?_ ?_ ?_;rfl;exact zX0;simp)
  ·rintro a k x r hx hd hk ha again hag;have hxm:x∈[b.parent,b.height,b.work,b.nonce]:=zY06 hx;have hxb:0<=x/\x<=1000000000:=by simp only[zY0g,zY1k,or_false]at hxm;omega
   have l1:=z5g (n:=x) zX0 zX0;have hk4:k<4:=hk;have e:a++(x::r).flatMap (λn=>32::itoa n)++[10]++b.txs.flatMap z0t=(a++32::itoa x)++r.flatMap (λn=>32::itoa n)++[10]++b.txs.flatMap z0t:=zX4;rw[e];have hag':=hag (a++32::itoa x) zX8;clear hag e;repeat'(first|refine dq1 ?_|refine dqc ?_|refine dqk rfl (z7b _) ?_|refine z4 (z8o rfl rfl zX8) ?_|refine dqT ?_|fail)
   exact z6 rfl rfl hag'
  ·rintro a ha again;simp only[zY2r,zY1b];have ha4:a.length<=200:=by simp only[zY08,zY0p]at ha;omega
   repeat'(first|refine dq1 ?_|refine z4 (z8o rfl rfl zX8) ?_|refine dqF ?_|fail)
   (refine zj (λ(c:List UInt8) k=>[.s c,I k]) (λ(c:List UInt8) _ (r:List Tx)=>c++r.flatMap z0t) (λc k=>c.length<=300+3000*k) (a++[10]) b.txs ?_ ?_ ?_ ?_ ?_;rfl;exact zX8;omega)
   ·rintro c k x r hx hd hk hc again' hag;have hxc:=ok.each x (zY06 hx);have a3:=zj4 x hxc;have tl:=zk2 hxc;have e:c++(x::r).flatMap z0t=(c++z0t x)++r.flatMap z0t:=zX4;rw[e];have hag':=hag (c++z0t x) (by rw[zY04];omega);clear hag e;repeat'(first|refine dq1 ?_|refine dqc ?_|refine dqm ?_|refine dqk rfl (a3) ?_|refine z4 (z8o rfl rfl zX0) ?_|refine dqT ?_|fail)
    exact z6 rfl rfl hag'
   ·rintro c hc again';simp only[zY2r,zY1b];repeat'(first|refine dq1 ?_|exact z5 rfl rfl|refine dqF ?_|fail)
end
section
open Go.Lib (itoa)
theorem z082(l:List (List UInt8))(s:List UInt8):(za2 l s,za3 l s,za4 l s)=if 4000<s.length then([],0,2)else(z6r l s,z85 l s,z66 l s):=by
 unfold za2 za3 za4;by_cases h:4000<s.length
 ·rw[zP h,zP h,zP h,zP h]
 ·rw[zN h,zN h,zN h,zN h]
def namD(l:List (List UInt8))(s:List UInt8)(j:Int):List (List UInt8)×Int×Int:=if 0<=j then(l,j+1,0)else if l.length=120 then([],0,12)else(l++[s],(l.length:Int)+1,0)
theorem zmm:∀(l a b:List (List UInt8)),(∀x,x∈a↔x∈b)->z4e l a=z4e l b
 | [],_,_,_=>rfl
 |s::l,a,b,h=>by rw[z4e,z4e];have e:(s∈a)=(s∈b):=propext (h s);simp only[e];rw[zmm l (s::a) (s::b) λx=>by rw[zY0g,zY0g,h x]]
noncomputable def z8p:zd:=spD (λl:List (List (List UInt8))=>total l<=1000000) λl=>l.flatten
theorem zqc(a b:List (List UInt8))(h:a.length+b.length<=1000000):z8p [.l 1 [[.l 1 (a.map z0a)],[.l 1 (b.map z0a)]]]=some [.l 1 ((a++b).map z0a)]:=by have h1:=zi (p:=λl:List (List (List UInt8))=>total l<=1000000) (f:=λl:List (List (List UInt8))=>l.flatten) [a,b] (by simpa[total]using h);have h2:[a,b].flatten=a++b:=zX4;simp only[h2]at h1;exact h1
theorem z011:Meets Tryz.prog z8p 125 zW0u :=
 z39 (e:=λx:{ l:List (List (List UInt8)) // total l<=1000000 }=>Enc.e x.1) (xs:=λx=>x.1.flatten) ze1 rfl rfl zX9 (z25 (fn:=Tryz.f125) ) λx W F us hF h=>by obtain⟨v,us,rfl,h1,h⟩:=z1c h;obtain rfl:=z1y h;obtain⟨A,n,c,rfl,k1⟩:=z2u (z5a ze1 rfl) h1;exact(z045 x.1 A n c W F k1 hF x.2).mono λr W' h=>⟨_,h⟩
section
attribute [local irreducible] z09 spD z6r z85 z66 idx den denX z0s z0w
noncomputable def z7o:zd:=spD (λ_:Book=>True) λk=>zk k
theorem znx(k:Book):z7o [.l 1 (k.texts.map z0a)]=some [I (zk k)]:=zi (f:=λk:Book=>zk k) k trivial
def zf0:T:=zL 0 (zQ .gtr 1 (zI 120) 2 (.ret [zI 2]) (zL 0 (.loop [zI 0,zI 0] (zQ .lss 5 3 6 (zE 1 0 5 (zS (.slen 7) (zQ .gtr 8 (zI 4000) 9 (.ret [zI 2]) (zC 46 [0,7] (zB .lss 10 5 (znh 11 (zI 6) 4 12)))))) (.ret [zI 0])))))
attribute [local irreducible] z74
theorem zyb:Meets Tryz.prog z7o 5 zW0m:=by
 refine zg (sp:=(zx [(46,z74)])) (sigs:=z02) (cut:=[]) (hints:=[⟨4,[.t 2,.t 12]⟩]) (fn:=Tryz.f5) (t:=zf0) ?_ ?_
 ·exact(zq (L:=[(46,z74)]) ⟨z7 rfl zxc,trivial⟩)
 ·rintro ds rs-h;obtain⟨⟨l⟩,-,rfl,rfl⟩:=zh h;clear h;refine⟨⟨130,?_⟩,z0b rfl⟩;show den _ _ zf0 [.l 1 (l.map z0a)] []=ret (zk ⟨l⟩);unfold zf0 zk;simp only;by_cases h1:120<l.length
  ·rw[zP h1];repeat'(first|refine dq1 ?_|exact z5 rfl rfl|refine dqT ?_|fail)
  rw[zN h1];repeat'(first|refine dq1 ?_|refine dqF ?_|fail)
  (refine zj (λ(_:Unit) k=>[I 0,I k]) (λ(_:Unit) k (r:List (List UInt8))=>z4e r (l.take k)) (λ_ _=>True) () l ?_ ?_ ?_ ?_ ?_;rfl;exact trivial;omega)
  ·rintro _ k s r hx hd hk-again hag;have hag:=hag () trivial;have a1:=zka l s;have hm:idx l s<k↔s∈l.take k:=by
    have h:=z0am s l k 0 hk hx
    with_unfolding_all simpa[idx]using h
   have e:z4e r (s::l.take k)=z4e r (l.take (k+1)):=zmm _ _ _ λx=>by rw[zY37 hk,(zY02.1 hx).2,zY0g,zY13,zY12];exact Or.comm
   rw[z4e,e];generalize idx l s=j at *;by_cases h2:4000<s.length
   ·rw[zP h2];repeat'(first|refine dq1 ?_|refine dqc ?_|exact z5 rfl rfl|refine dqT ?_|fail)
   rw[zN h2];by_cases h3:j<(k:Int)
   ·rw[zP (hm.1 h3)];repeat'(first|refine dq1 ?_|refine dqc ?_|refine dqk rfl (a1) ?_|exact z5 rfl rfl|refine dqT ?_|refine dqF ?_|fail)
   ·rw[zN λz=>h3 (hm.2 z)];repeat'(first|refine dq1 ?_|refine dqc ?_|refine dqk rfl (a1) ?_|exact z6 rfl rfl hag|refine dqT ?_|refine dqF ?_|fail)
  ·rintro _-again;rw[z4e];repeat'(first|refine dq1 ?_|exact z5 rfl rfl|refine dqF ?_|fail)
noncomputable def zfq:zd:=spD (λx:List (List UInt8)×List UInt8=>x.1.length<=120) λx=>(za2 x.1 x.2,za3 x.1 x.2,za4 x.1 x.2)
theorem zyc(l:List (List UInt8))(s:List UInt8)(h:l.length<=120):zfq [.l 1 (l.map z0a),.s s]=some [.l 1 ((za2 l s).map z0a),I (za3 l s),I (za4 l s)]:=zi (p:=λx:List (List UInt8)×List UInt8=>x.1.length<=120) (f:=λx:List (List UInt8)×List UInt8=>(za2 x.1 x.2,za3 x.1 x.2,za4 x.1 x.2)) (l,s) h
def z04p:T:=.loop [.c (.nil 1),zI 0,zI 0,zI 0] (zQ .lss 8 4 9 (zE 1 0 8 (zQ .eql 10 1 11 (zU11 8 0 12) (zUn 8 5 6 7 12))) (zL 0 (zQ .geq 10 (zI 120) 11 (.ret [.c (.nil 1),zI 0,zI 12]) (zS (.mk 1 [[1]]) (zS (.mk 1 [[0],[12]]) (zC 108 [13] (zL 0 (zU11 15 14 16))))))))
def zny:T:=zS (.slen 1) (zQ .gtr 2 (zI 4000) 3 (.ret [.c (.nil 1),zI 0,zI 2]) (zL 0 z04p))
attribute [local irreducible] z8p
theorem z0b1:Meets Tryz.prog zfq 109 zW05:=by
 refine zg (sp:=(zx [(108,z8p)])) (sigs:=z02) (cut:=[]) (hints:=[⟨4,[.r 4 9 1,.t 5,.t 6,.t 14]⟩]) (fn:=Tryz.f109) (t:=zny) ?_ ?_
 ·exact(zq (L:=[(108,z8p)]) ⟨z7 rfl z011,trivial⟩)
 ·rintro ds rs-h;obtain⟨⟨l,s⟩,hl,rfl,rfl⟩:=zh h;clear h;simp only at hl;refine⟨⟨130,?_⟩,z11 ⟨rfl,rfl,trivial⟩⟩;show den _ _ zny [.l 1 (l.map z0a),.s s] []=ret (za2 l s,za3 l s,za4 l s);rw[z082,z07e];unfold zny;by_cases h1:4000<s.length
  ·rw[zP h1];repeat'(first|refine dq1 ?_|exact z5 rfl rfl|refine dqT ?_|fail)
  rw[zN h1];have e:(if 0<=idx l s then(l,idx l s+1,0)else if l.length=120 then([],0,12)else(l++[s],(l.length:Int)+1,0))=namD l s (z1a s l 0):=by with_unfolding_all rfl
  rw[e];clear e;repeat'(first|refine dq1 ?_|refine dqF ?_|fail)
  (refine zj (λ(_:Unit) k=>[.l 1 [],I 0,I 0,I k]) (λ(_:Unit) k (r:List (List UInt8))=>namD l s (z1a s r k)) (λ_ _=>True) () l ?_ ?_ ?_ ?_ ?_;rfl;exact trivial;omega)
  ·rintro _ k x r hx hd hk-again hag;have hag:=hag () trivial;rw[z1a];by_cases h2:s=x
   ·subst h2;rw[zP rfl];unfold namD;rw[zP (show 0<=(k:Int)by omega)];repeat'(first|refine dq1 ?_|refine dqc ?_|exact z5 rfl rfl|refine dqT ?_|refine z0h rfl ?_|fail)
   ·rw[zN h2];have h3:¬x=s:=λe=>h2 e.symm;repeat'(first|refine dq1 ?_|refine dqc ?_|exact z6 rfl rfl hag|refine dqT ?_|refine dqF ?_|fail)
  ·rintro _-again;rw[z1a];unfold namD;rw[zN (show ¬(0:Int) <= -1 by decide)];have a1:=zqc l [s] zXa;by_cases h2:l.length=120
   ·rw[zP h2];repeat'(first|refine dq1 ?_|exact z5 rfl rfl|refine dqT ?_|refine dqF ?_|fail)
   ·rw[zN h2];repeat'(first|refine dq1 ?_|refine dqk rfl (a1) ?_|refine z4 (z1p (r:=([s].map z0a)) rfl rfl zX4) ?_|refine z4 (z1p (r:=[[.l 1 (l.map z0a)],[.l 1 ([s].map z0a)]]) rfl rfl zX4) ?_|exact z5 rfl rfl|refine dqF ?_|fail)
noncomputable def z8q:zd:=spD (λx:List (List UInt8)×List (List UInt8)=>x.1.length<=120/\x.2.length<=999999) λx=>z2i x.2 x.1 []
theorem zqd(t l:List (List UInt8))(h:t.length<=120)(hl:l.length<=999999):z8q [.l 1 (t.map z0a),.l 1 (l.map z0a)]=some [.l 1 ((z2i l t []).1.map z0a),.l 1 ((z2i l t []).2.1.map zl),I (z2i l t []).2.2]:=zi (p:=λx:List (List UInt8)×List (List UInt8)=>x.1.length<=120/\x.2.length<=999999) (f:=λx:List (List UInt8)×List (List UInt8)=>z2i x.2 x.1 []) (t,l) ⟨h,hl⟩
def zv4:T:=.loop [.c (.nil 1),.c (.nil 1),zI 0,0,.c (.nil 1),zI 0] (zQ .lss 8 2 9 (zE 1 1 8 (.W (zK 95 [6,10] 3) [] (zQ .neq 13 (zI 0) 14 (.ret [.c (.nil 1),.c (.nil 1),13]) (zS (.mk 1 [[12]]) (zS (.app 1 7 15) (zB .add 8 (zI 1) (.again 0 [3,4,5,11,16,17]))))))) (.ret [6,7,zI 0]))
def zg8:T:=zL 1 zv4
theorem z012:Meets Tryz.prog z8q 84 zW0s:=by
 refine zg (sp:=(zx [(95,zfq)])) (sigs:=z02) (cut:=[]) (hints:=[⟨3,[.r 4 9 1,.r 5 3 1,.t 6,.t 0,.r 7 3 1,.t 15]⟩]) (fn:=Tryz.f84) (t:=zg8) ?_ ?_
 ·exact(zq (L:=[(95,zfq)]) ⟨z7 rfl z0b1,trivial⟩)
 ·rintro ds rs-h;obtain⟨⟨t,l⟩,⟨ht,hll⟩,rfl,rfl⟩:=zh h;clear h;simp only at ht hll;refine⟨⟨l.length+1,?_⟩,z11 ⟨rfl,trivial⟩⟩;show den _ _ zg8 [.l 1 (t.map z0a),.l 1 (l.map z0a)] []=ret (z2i l t []);unfold zg8;repeat'(first|refine dq1 ?_|fail)
  (refine zj (λ(a:List (List UInt8)×List Int) k=>[.l 1 [],.l 1 [],I 0,.l 1 (a.1.map z0a),.l 1 (a.2.map zl),I k]) (λ(a:List (List UInt8)×List Int) _ (r:List (List UInt8))=>z2i r a.1 a.2) (λa k=>a.1.length<=120/\a.2.length=k) (t,[]) l ?_ ?_ ?_ ?_ ?_;rfl;exact⟨ht,rfl⟩;omega)
  ·rintro⟨t,o⟩ i s r hx hd hk ⟨ht,ho⟩ again hag;simp only at ht ho;have b1:=zyc t s ht;have hnl:=ztd (t:=t) (s:=s) ht;unfold za2 za3 za4 at b1;rw[z2i];simp only;by_cases h2:4000<s.length
   ·rw[zP h2,zP h2,zP h2]at b1;rw[zP h2];repeat'(first|refine dq1 ?_|refine dqc ?_|refine dqK rfl (b1) ?_|exact z5 rfl rfl|refine dqT ?_|fail)
   rw[zN h2,zN h2,zN h2]at b1;rw[zN h2];generalize z6r t s=p at *;generalize z85 t s=q at *;generalize z66 t s=e at *;by_cases h3:e=0
   ·have hag:=hag (p,o++[q]) ⟨hnl h3,by simp;omega⟩;rw[zN (λz=>z h3)];simp only at hag;repeat'(first|refine dq1 ?_|refine dqc ?_|refine dqK rfl (b1) ?_|exact z6 rfl rfl hag|refine dqT ?_|refine dqF ?_|fail)
   ·rw[zP h3];repeat'(first|refine dq1 ?_|refine dqc ?_|refine dqK rfl (b1) ?_|exact z5 rfl rfl|refine dqT ?_|fail)
  ·rintro⟨t,o⟩ ⟨ht,ho⟩ again;rw[z2i];simp only;repeat'(first|refine dq1 ?_|exact z5 rfl rfl|refine dqF ?_|fail)
end
theorem zyd:(List.range 1000).all (λk=>decide (z0z ((k:Int)+1)=zfc ((k:Int)+1)))=true:=by decide +kernel
theorem zye(n:Int)(h0:1<=n)(h1:n<=1000):zfc n=z0z n:=by have:=zY1j.1 zyd (n-1).toNat zXa;have e:(((n-1).toNat:Nat):Int)=n-1:=zX0;rw[decide_eq_true_iff,e]at this;rw[show n-1+1=n by omega]at this;exact this.symm
noncomputable def z8r:zd:=spD (λn:Int=>1<=n/\n<=1000) λn=>z0z n
theorem zqe(n:Int)(h0:1<=n)(h1:n<=1000):z8r [I n]=some [I (z0z n)]:=zi (p:=λn:Int=>1<=n/\n<=1000) (f:=λn:Int=>z0z n) n ⟨h0,h1⟩
theorem z013:Meets Tryz.prog z8r 53 zW01 :=
 zb0 rfl (z25 (fn:=Tryz.f53) ) λn hn W F us hF h=>by obtain⟨v,us,rfl,h2,h⟩:=z1c (d:=I n) h;obtain rfl:=z1y h;obtain⟨rfl,-⟩:=ze2 h2;obtain⟨h0,h1⟩:=hn;refine⟨zke (zfj n),(zwt n W zX0 h1).mono ?_⟩;rintro e w' ⟨rfl,rfl⟩;exact⟨by rw[zye n h0 h1],Below.refl _ _⟩
def z1x(ts:List (List UInt8))(b:Block):List (List UInt8)×Int×List Int×Int :=
 if zf b≠0 then([],0,[],zf b)else
 if(z2i (b.txs.map z0t++[z1m b]) ts []).2.2≠0 then([],0,[],(z2i (b.txs.map z0t++[z1m b]) ts []).2.2)else
 ((z2i (b.txs.map z0t++[z1m b]) ts []).1,((z2i (b.txs.map z0t++[z1m b]) ts []).2.1).getD b.txs.length 0,((z2i (b.txs.map z0t++[z1m b]) ts []).2.1).take b.txs.length,0)
theorem zqf{k:Book}{b:Block}(h:zk k=0):z1x k.texts b=z0c k b:=by
 unfold z1x z0c;by_cases hb:zf b=0
 ·have ok:=z1b hb;have e1:zh2 b=b.txs.map z0t:=List.map_congr_left λt ht=>by rw[zpk (ok.each t ht)]
  rw[zN (λk=>k hb),zzr hb,zN (show ¬((z1m b,(0:Int)).2≠0)from λk=>k rfl),e1];unfold zes z2v;rw[zN (show ¬zk k≠0 from λx=>x h),zY0y]
 ·have e:z18 b=([],zf b):=by unfold z18;rw[zP hb]
  rw[zP hb,e,zP hb]
theorem zky{ts:List (List UInt8)}{b:Block}(h:(z1x ts b).2.2.2=0):zf b=0/\(z1x ts b).2.2.1.length=b.txs.length:=by
 unfold z1x at h⊢;by_cases hb:zf b=0
 ·rw[zN (λk=>k hb)]at h⊢;refine⟨hb,?_⟩;by_cases ha:(z2i (b.txs.map z0t++[z1m b]) ts []).2.2=0
  ·rw[zN (λk=>k ha)];have:=zfk _ ts [] ha;show(List.take _ _).length=_;rw[zY0d,this];simp
  ·rw[zP ha]at h;exact absurd h ha
 ·rw[zP hb]at h;exact absurd h hb
attribute [local irreducible] z09 spD z2i z0t z1m zf zo den denX z0s z0w
noncomputable def z5p:zd:=spD (λx:List (List UInt8)×Block=>x.1.length<=120) λx=>z1x x.1 x.2
theorem zfr(ts:List (List UInt8))(b:Block)(h:ts.length<=120):z5p [.l 1 (ts.map z0a),I b.parent,I b.height,I b.work,I b.nonce,.l 3 (b.txs.map eTx)]=some [.l 1 ((z1x ts b).1.map z0a),I (z1x ts b).2.1,.l 1 ((z1x ts b).2.2.1.map zl),I (z1x ts b).2.2.2]:=zi (p:=λx:List (List UInt8)×Block=>x.1.length<=120) (f:=λx:List (List UInt8)×Block=>z1x x.1 x.2) (ts,b) h
def zv5:T:=zS (.mk 1 [[12]]) (zS (.app 1 9 13) (.W (zK 96 [0,14] 3) [] (zQ .neq 17 (zI 0) 18 (.ret [.c (.nil 1),zI 0,.c (.nil 1),17]) (zL 16 (zB .sub 19 (zI 1) (zE 1 16 20 (zL 16 (zB .sub 22 (zI 1) (zS (.sub 1 16 none (some 23)) (.ret [15,21,24,zI 0]))))))))))
def zg9:T:=zC 81 [1,2,3,4,5] (zQ .neq 6 (zI 0) 7 (.ret [.c (.nil 1),zI 0,.c (.nil 1),6]) (zL 5 (.loop [.c (.nil 1),zI 0] (zQ .lss 10 8 11 (zE 3 5 10 (zC 63 [12,13,14] (zUq 15 9 16))) (zC 82 [1,2,3,4,5] zv5)))))
attribute [local irreducible] z9p z4j z8q z6c
theorem zmn:Meets Tryz.prog z5p 52 zW0g:=by
 refine zg (sp:=(zx [(63,z6c),(81,z4j),(82,z9p),(96,z8q)])) (sigs:=z02) (cut:=[]) (hints:=[⟨6,[.r 9 9 1,.t 21]⟩]) (fn:=Tryz.f52) (t:=zg9) ?_ ?_
 ·exact(zq (L:=[(63,z6c),(81,z4j),(82,z9p),(96,z8q)]) ⟨z7 rfl zu4,z7 rfl zml,z7 rfl z04n,z7 rfl z012,trivial⟩)
 ·rintro ds rs hok h;obtain⟨⟨ts,b⟩,hts,rfl,rfl⟩:=zh h;clear h;simp only at hts;refine⟨⟨100,?_⟩,z11 ⟨rfl,rfl,trivial⟩⟩;show den _ _ zg9 [.l 1 (ts.map z0a),I b.parent,I b.height,I b.work,I b.nonce,.l 3 (b.txs.map eTx)] []=ret (z1x ts b);have a1:=zfp b;unfold zg9 z1x;by_cases hb:zf b=0
  rotate_left
  ·repeat'(first|refine dq1 ?_|refine dqk rfl (a1) ?_|exact z5 rfl rfl|refine tR (λh=>?_) λh=>?_|fail)
   all_goals(exfalso;omega)
  have ok:=z1b hb;have hlen:=ok.len;rw[hb]at a1;rw[zN (λk=>k hb)];repeat'(first|refine dq1 ?_|refine dqk rfl (a1) ?_|refine dqF ?_|fail)
  (refine zj (λ(a:List (List UInt8)) k=>[.l 1 (a.map z0a),I k]) (λ(a:List (List UInt8)) _ (r:List Tx)=>if(z2i (a++r.map z0t++[z1m b]) ts []).2.2≠0 then([],0,[],(z2i (a++r.map z0t++[z1m b]) ts []).2.2)else((z2i (a++r.map z0t++[z1m b]) ts []).1,((z2i (a++r.map z0t++[z1m b]) ts []).2.1).getD b.txs.length 0,((z2i (a++r.map z0t++[z1m b]) ts []).2.1).take b.txs.length,(0:Int))) (λa k=>a.length=k) [] b.txs ?_ ?_ ?_ ?_ ?_;rfl;exact rfl;omega)
  ·rintro a i x r hx hd hk ha again hag;have a2:=zj4 x (ok.each x (zY06 hx));have e:a++((x::r).map z0t)=(a++[z0t x])++r.map z0t:=zX4;rw[e];have hag':=hag (a++[z0t x]) zXa;generalize z0t x=z at *;repeat'(first|refine dq1 ?_|refine dqc ?_|refine dqm ?_|refine dqk rfl (a2) ?_|refine z4 (z1p rfl rfl zX4) ?_|refine dqT ?_|fail)
   exact z6 rfl rfl hag'
  ·rintro a ha again;simp only[zY2o,zY1b];have a3:=zs2 b hb;have a4:=zqd ts (a++[z1m b]) hts zXa;have hl:=λh=>zfk (a++[z1m b]) ts [] h;generalize z1m b=s at *;generalize z2i (a++[s]) ts []=q at *;obtain⟨tx,ns,e2⟩:=q;simp only at *;repeat'(first|refine dq1 ?_|refine dqk rfl (a3) ?_|refine dqK rfl (a4) ?_|refine z4 (z1p rfl rfl zX4) ?_|exact z5 rfl rfl|refine tR (λh=>?_) λh=>?_|refine dqF ?_|fail)
   have hl:=hl zX0;simp only[zY04,zY08,zY0p]at hl;have hg:ns[((ns.length:Int)-1).toNat]?=some (ns.getD b.txs.length 0):=by rw[show((ns.length:Int)-1).toNat=b.txs.length by omega,zY0r,zY03 zX0];rfl
   have hn:(ns.length:Int)-1=b.txs.length:=zX0;generalize ns.getD b.txs.length 0=y at *;repeat'(first|refine dq1 ?_|refine dqc ?_|fail)
   have e:(ns.take ((ns.length:Int)-1).toNat).drop (0:Int).toNat=ns.take b.txs.length:=by rw[show((ns.length:Int)-1).toNat=b.txs.length by omega];rfl
   refine z4 (zei (l:=ns) (m:=0) (n:=(ns.length:Int)-1) rfl rfl rfl zX0 zX0 zX0) ?_;rw[e];exact z5 rfl rfl
end
section
noncomputable def z7p:zd:=spD (λl:List (List Coin)=>total l<=1000000) λl=>l.flatten
theorem znz(a b:List Coin)(h:a.length+b.length<=1000000):z7p [.l 1 [[.l 6 (a.map za)],[.l 6 (b.map za)]]]=some [.l 6 ((a++b).map za)]:=by have h1:=zi (p:=λl:List (List Coin)=>total l<=1000000) (f:=λl:List (List Coin)=>l.flatten) [a,b] (by simpa[total]using h);have h2:[a,b].flatten=a++b:=zX4;simp only[h2]at h1;exact h1
theorem zyf:Meets Tryz.prog z7p 88 zW03 :=
 z39 (e:=λx:{ l:List (List Coin) // total l<=1000000 }=>Enc.e x.1) (xs:=λx=>x.1.flatten) she_coin rfl rfl zX9 (z25 (fn:=Tryz.f88) ) λx W F us hF h=>by obtain⟨v,us,rfl,h1,h⟩:=z1c h;obtain rfl:=z1y h;obtain⟨A,n,c,rfl,k1⟩:=z2u (z5a she_coin rfl) h1;exact(z00f x.1 A n c W F k1 hF x.2).mono λr W' h=>⟨_,h⟩
attribute [local irreducible] z09 spD den denX z0s z0w
theorem z04q{P:Program}{spec:zd}{f:Nat}{a:List PK}{r:List (Bool×List CF)}{b b':Bool}(h:Meets P spec f ⟨a,r,b⟩):Meets P spec f ⟨a,r,b'⟩:=by
 refine⟨λhm W F ds args rs hF ha hs=>?_,λe sz ps he=>h.2 e sz ps he⟩;rcases h.1 hm W F ds args rs hF ha hs with⟨h1,h2⟩|⟨v,W',h1,hb,us,F',hR⟩
 ·exact .inl ⟨h1,h2.mono λe w' ⟨v,hv,hb,us,F',hR⟩=>⟨v,hv,hb,us,F',⟨hR.val,hR.lrs,hR.lus,hR.cells,hR.own,hR.apart,hR.dj⟩⟩⟩
 ·exact .inr ⟨v,W',h1,hb,us,F',⟨hR.val,hR.lrs,hR.lus,hR.cells,hR.own,hR.apart,hR.dj⟩⟩
def zkz(p:Point):List Coin->Nat->Int
 | [],_ => -1
 |c::r,k=>if c.p=p then k else zkz p r (k+1)
def z0r(l:List Coin)(p:Point):Int:=zkz p l 0
noncomputable def z76:zd:=spD (λ_:List Coin×Point=>True) λx=>z0r x.1 x.2
theorem z8s(l:List Coin)(p:Point):z76 [.l 6 (l.map za),I p.tx,I p.at_]=some [I (z0r l p)]:=zi (f:=λx:List Coin×Point=>z0r x.1 x.2) (l,p) trivial
def zo0:T:=zL 0 (.loop [zI 0,zI 0] (zQ .lss 5 3 6 (zE 6 0 5 (zS (.eqs false [(7,1),(8,2)]) (znh 13 5 4 14))) (.ret [zI (-1)])))
theorem zyg:Meets Tryz.prog z76 86 zW0r:=by
 refine z73 (sp:=(zx [])) (sigs:=z02) (cut:=[]) (hints:=[]) (fns:=[za0 110 Tryz.f110 [⟨2,[.t 4,.t 8]⟩] [],za0 111 Tryz.f111 [] []]) (dep:=2) (pool:=200) (fn:=Tryz.f86) (t:=zo0) ?_ ?_ ?_
 ·exact(z2q (fn:=Tryz.f110) zX1 zX1 zX1 zX1 zX1 (z2q (fn:=Tryz.f111) zX1 zX1 zX1 zX1 zX1 z8e))
 ·exact(zq (L:=[]) trivial)
 ·rintro ds rs hok h;obtain⟨⟨l,p⟩,-,rfl,rfl⟩:=zh h;clear h;have hl:=zxg (hok (.l 6 (l.map za)) (zY0i ..));clear hok;refine⟨⟨l.length+1,?_⟩,z0b rfl⟩;show den _ _ zo0 [.l 6 (l.map za),I p.tx,I p.at_] []=ret (z0r l p);unfold zo0 z0r;repeat'(first|refine dq1 ?_|fail)
  (refine zj (λ(_:Unit) k=>[I 0,I k]) (λ(_:Unit) k (r:List Coin)=>zkz p r k) (λ_ _=>True) () l ?_ ?_ ?_ ?_ ?_;rfl;exact trivial;omega)
  ·rintro _ k c r hx hd hk-again hag;rw[zkz];have hag:=hag () trivial;repeat'(first|refine dq1 ?_|refine dqc ?_|refine dqm ?_|exact z6 rfl rfl hag|exact z5 rfl rfl|refine tR (λh=>?_) λh=>?_|refine dqT ?_|fail)
  ·rintro _-again;rw[zkz];repeat'(first|refine dq1 ?_|exact z5 rfl rfl|refine dqF ?_|fail)
end
section
open Go.Sort
structure Fwd(B:Nat)(W W':World):Prop where
 os:W'.os=W.os
 tape:W'.tape=W.tape
 output:W'.output=W.output
 size:W.heap.size<=W'.heap.size
 same:∀b,B<=b->b<W.heap.size->W'.heap[b]?=W.heap[b]?
theorem Fwd.refl(B:Nat)(W:World):Fwd B W W:=⟨rfl,rfl,rfl,zY0k _,λ_ _ _=>rfl⟩
theorem Fwd.trans{B:Nat}{W W' W'':World}(h:Fwd B W W')(k:Fwd B W' W''):Fwd B W W'' :=
 ⟨k.os.trans h.os,k.tape.trans h.tape,k.output.trans h.output,zY3n h.size k.size,λb h1 h2=>(k.same b h1 (zY1v h2 h.size)).trans (h.same b h1 h2)⟩
theorem Fwd.below{B:Nat}{W W':World}(h:Below W.heap.size W W'):Fwd B W W':=⟨h.os,h.tape,h.output,h.size,λb _ h2=>h.block b h2⟩
structure Srt{α:Type}[Inhabited α](lt:α->α->Bool)(n B lf:Nat)(lb:Array Value)(sf:Nat)(sb:Array Value)(St:Array α->World->Prop):Prop where
 big:n<4611686018427387904
 enters:∀args w,(callFunc lf args).run Tryz.prog w=.ok (.enter lf args) w
 size:∀ {d W},St d W->d.size=n
 base:∀ {d W},St d W->B<=W.heap.size
 keep:∀ {d W W'},St d W->Below B W W'->St d W'
 less:∀ {d W} (i j:Nat),St d W->i<n->j<n->Calls Tryz.prog lf (#[.int .i64 i,.int .i64 j]++lb) W λe W'=>e=.returned (.bool (lt d[i]! d[j]!))/\St d W'/\Fwd B W W'
 swap:∀ {d W} (i j:Nat),St d W->i<n->j<n->∃W',(callFunc sf (#[.int .i64 i,.int .i64 j]++sb)).run Tryz.prog W=.ok (.value (.tuple #[])) W'/\St (swp d i j) W'/\Fwd B W W'
theorem z0e2{α:Type}[Inhabited α](d:Array α)(i j:Nat):(swp d i j).size=d.size:=by simp[swp]
section
variable {α:Type} [Inhabited α] {lt:α->α->Bool} {n B lf sf:Nat} {lb sb:Array Value} {St:Array α->World->Prop}
structure On(B lf:Nat)(lb:Array Value)(sf:Nat)(sb:Array Value)(St:Array α->World->Prop)(w:World)(d:Array α)(W:World):Prop where
 st:St d W
 fwd:Fwd B w W
 bx:W.heap[w.heap.size]?=some (.cells #[.func (.func lf) #[] lb,.func (.func sf) #[] sb] 202 (0,0))
theorem zc3(w:World)(o:Obj):(w.alloc o).heap[w.heap.size]?=some o:=Array.getElem?_push_size
theorem zc4(w:World)(o:Obj){b:Nat}(h:b<w.heap.size):(w.alloc o).heap[b]?=w.heap[b]?:=by show(w.heap.push o)[b]?=w.heap[b]?;rw[zY3r,zN zX0]
theorem z5q(w:World)(o:Obj):(w.alloc o).heap.size=w.heap.size+1:=Array.size_push ..
omit [Inhabited α]in
theorem On.start[Inhabited α]{lt:α->α->Bool}(S:Srt lt n B lf lb sf sb St){w:World}{d:Array α}(h:St d w):On B lf lb sf sb St w d (w.alloc (.cells #[.func (.func lf) #[] lb,.func (.func sf) #[] sb] 202)):=by have hb:=S.base h;refine⟨S.keep h ((Below.refl _ _).alloc hb _),⟨rfl,rfl,rfl,by rw[z5q];omega,λb _ hb'=>zc4 _ _ hb'⟩,zc3 _ _⟩
omit [Inhabited α]in
theorem On.is_lt{w W:World}{d:Array α}(h:On B lf lb sf sb St w d W):w.heap.size<W.heap.size:=by have:=h.bx;rw[zY15]at this;exact this.1
omit [Inhabited α]in
theorem On.call{w W W':World}{d d':Array α}(hw:B<=w.heap.size)(h:On B lf lb sf sb St w d W)(hs:St d' W'/\Fwd B W W'):On B lf lb sf sb St w d' W' :=
 ⟨hs.1,h.fwd.trans hs.2,(hs.2.same _ hw h.is_lt).trans h.bx⟩
omit [Inhabited α]in
theorem On.c0{w W:World}{d:Array α}(h:On B lf lb sf sb St w d W):W.cell? ⟨w.heap.size,0,none⟩=some (.func (.func lf) #[] lb):=by unfold World.cell?;rw[h.bx];rfl
omit [Inhabited α]in
theorem On.c1{w W:World}{d:Array α}(h:On B lf lb sf sb St w d W):W.cell? ⟨w.heap.size,1,none⟩=some (.func (.func sf) #[] sb):=by unfold World.cell?;rw[h.bx];rfl
theorem On.less{lt:α->α->Bool}(S:Srt lt n B lf lb sf sb St){w W:World}{d:Array α}(h:On B lf lb sf sb St w d W)(hw:B<=w.heap.size){i j:Nat}{x y:Int}{r:Bool}(hi:i<n)(hj:j<n)(hx:(i:Int)=x)(hy:(j:Int)=y)(hr:lt d[i]! d[j]! = r) :
  Calls Tryz.prog lf (#[.int .i64 x,.int .i64 y]++lb) W λe W'=>e=.returned (.bool r)/\On B lf lb sf sb St w d W':=by
 subst hx;subst hy;subst hr;exact(S.less i j h.st hi hj).mono λe W' ⟨he,hs⟩=>⟨he,h.call hw hs⟩
theorem On.swap{lt:α->α->Bool}(S:Srt lt n B lf lb sf sb St){w W:World}{d:Array α}(h:On B lf lb sf sb St w d W)(hw:B<=w.heap.size){i j:Nat}{x y:Int}(hi:i<n)(hj:j<n)(hx:(i:Int)=x)(hy:(j:Int)=y) :
  ∃W',(callFunc sf (#[.int .i64 x,.int .i64 y]++sb)).run Tryz.prog W=.ok (.value (.tuple #[])) W'/\On B lf lb sf sb St w (swp d i j) W':=by
 subst hx;subst hy;obtain⟨W',h1,h2⟩:=S.swap i j h.st hi hj;exact⟨W',h1,h.call hw h2⟩
theorem z014(lt:α->α->Bool)(a j:Nat)(d:Array α)(h:a<j)(hl:lt d[j]! d[j-1]! = true):insInner lt a j d=insInner lt a (j-1) (swp d j (j-1)):=by
 obtain⟨k,rfl⟩:∃k,j=k+1:=⟨j-1,by omega⟩
 simp only[zY30]at hl;rw[insInner,hl,zP zXa];rfl
theorem zl0(lt:α->α->Bool)(a j:Nat)(d:Array α)(h:j<=a\/lt d[j]! d[j-1]! = false):insInner lt a j d=d:=by
 cases j with
 |zero=>rfl
 |succ k =>
  rw[insInner];rcases h with h|h
  ·rw[zN zXa]
  ·simp only[zY30]at h;rw[h,zN zX4]
theorem zmo(lt:α->α->Bool)(a b i:Nat)(d:Array α)(h:i<b):insOuter lt a b i d=insOuter lt a b (i+1) (insInner lt a i d):=by rw[insOuter,zP h]
theorem zyh(lt:α->α->Bool)(a b i:Nat)(d:Array α)(h:¬i<b):insOuter lt a b i d=d:=by rw[insOuter,zN h]
theorem z083{lt:α->α->Bool}(S:Srt lt n B lf lb sf sb St){w:World}{d:Array α}(h:St d w){a b:Nat}(hab:a<=b)(hb:b<=n) :
  Calls Tryz.prog 154 #[.agg #[.func (.func lf) #[] lb,.func (.func sf) #[] sb],.int .i64 a,.int .i64 b] w λe w'=>e=.returned (.tuple #[])/\St (insertionSort lt d a b) w'/\Fwd B w w':=by
 have hw:=S.base h;have hO:=On.start S h;have hbig:=S.big;have eg:=S.enters;go_enter Tryz.func154,Tryz.ntmps154;go_wp2;go_loopg [6] (b+1-a) (λkx vi wr=>∃(i:Nat) (dk:Array α),vi=.int .i64 i/\a<i/\i<=b+1/\b+1-i<kx/\On B lf lb sf sb St w dk wr/\Hid (insOuter lt a b i dk=insOuter lt a b (a+1) d));case atStart=>exact⟨a+1,d,by go_num,by omega,by omega,by omega,hO,rfl⟩
 case round =>
  obtain⟨i,dk,rfl,hai,hib,hkx,hW,HO⟩:=hrel;clear hO;by_cases hlt:i<b
  ·have hltz:(i:Int)<(b:Int):=zX0;repeat'(first|go_step|fail)
   go_loopg [7] (i+1) (λky vj wr2=>∃(j:Nat) (dj:Array α),vj=.int .i64 j/\a<=j/\j<=i/\j<ky/\On B lf lb sf sb St w dj wr2/\Hid (insInner lt a j dj=insInner lt a i dk));case atStart=>exact⟨i,dk,rfl,by omega,zY0k _,by omega,hW,rfl⟩
   case round =>
    obtain⟨j,dj,rfl,haj,hji,hky,hW2,HI⟩:=hrel;clear hW;have c0:=hW2.c0;by_cases hja:a<j
    ·have hjz:(a:Int)<(j:Int):=zX0;cases hl:lt dj[j]! dj[j-1]! with
     |true =>
      have hc:=hW2.less S hw (i:=j) (j:=j-1) (x:=j) (y:=(j:Int)-1) zX0 zX0 rfl zX0 hl;have HL:=Lib.hid hl;clear hl;repeat'(first|(refine hc.mono ?_;rintro e w1 ⟨rfl,hW3⟩;simp only[];have c1:=hW3.c1;obtain⟨w2,hs,hW4⟩:=hW3.swap S hw (i:=j) (j:=j-1) (x:=j) (y:=(j:Int)-1) zX0 zX0 rfl zX0;have HS:=Lib.hid hs;clear hs)|(rw[HS.out,Oper.upon_value])|go_guarded|go_step|fail)
      go_roundg j;case measure=>omega
      case rel=>exact⟨j-1,_,by go_num,by omega,by omega,by omega,hW4,by show Hid _;rw[<- HI.out,z014 lt a j dj hja HL.out];exact rfl⟩
     |false =>
      have hc:=hW2.less S hw (i:=j) (j:=j-1) (x:=j) (y:=(j:Int)-1) zX0 zX0 rfl zX0 hl;have HL:=Lib.hid hl;clear hl;repeat'(first|(refine hc.mono ?_;rintro e w1 ⟨rfl,hW3⟩;simp only[])|go_guarded|go_step|fail)
      go_roundg (b+1-i);case measure=>omega
      case rel=>exact⟨i+1,dj,by go_num,by omega,by omega,by omega,hW3,by show Hid _;rw[<- HO.out,zmo lt a b i dk hlt,<- HI.out,zl0 lt a j dj (Or.inr HL.out)];exact rfl⟩
    ·have hjz:¬(a:Int)<(j:Int):=zX0;repeat'(first|go_guarded|go_step|fail)
     go_roundg (b+1-i);case measure=>omega
     case rel=>exact⟨i+1,dj,by go_num,by omega,by omega,by omega,hW2,by show Hid _;rw[<- HO.out,zmo lt a b i dk hlt,<- HI.out,zl0 lt a j dj (Or.inl zX0)];exact rfl⟩
  ·have hltz:¬(i:Int)<(b:Int):=zX0;repeat'(first|go_step|fail)
   go_end0;exact⟨rfl,by unfold insertionSort;rw[<- HO.out,zyh lt a b i dk hlt];exact hW.st,hW.fwd⟩
end
end
section
open Go.Sort
section
variable {α:Type} [Inhabited α] {lt:α->α->Bool} {n B lf sf:Nat} {lb sb:Array Value} {St:Array α->World->Prop}
theorem z04r(i j:Nat)(d:Array α)(h:i<j):reverseLoop i j d=reverseLoop (i+1) (j-1) (swp d i j):=by rw[reverseLoop,zP h]
theorem z015(i j:Nat)(d:Array α)(h:¬i<j):reverseLoop i j d=d:=by rw[reverseLoop,zN h]
def kid(lt:α->α->Bool)(hi F r:Nat)(d:Array α):Nat:=if(decide (2*r+2<hi)&&lt d[F+(2*r+1)]! d[F+(2*r+2)]!)=true then 2*r+2 else 2*r+1
theorem z0b2{hi F r:Nat}(d:Array α)(h:hi<=2*r+1):siftDown lt hi F r d=d:=by rw[siftDown,dif_pos h]
theorem zyi{hi F r c:Nat}(d:Array α)(h:¬hi<=2*r+1)(hc:kid lt hi F r d=c):siftDown lt hi F r d=if lt d[F+r]! d[F+c]! then siftDown lt hi F c (swp d (F+r) (F+c))else d:=by
 subst hc;unfold kid;rw[siftDown,dif_neg h,show F+(2*r+1)+1=F+(2*r+2)by omega];by_cases hb:(decide (2*r+2<hi)&&lt d[F+(2*r+1)]! d[F+(2*r+2)]!)=true
 ·have hb':(decide (2*r+1+1<hi)&&lt d[F+(2*r+1)]! d[F+(2*r+2)]!)=true:=hb;rw[zP hb',zP hb];have:2*r+2<hi:=by(rw[zY0e]at hb;exact of_decide_eq_true hb.1)
  cases hl:lt d[F+r]! d[F+(2*r+2)]! with
  |true=>simp only[zY3e,zY0x,if_false,if_true];rw[dif_pos this]
  |false=>simp only[Bool.not_false,zY0x,if_false,if_true]
 ·have hb':¬(decide (2*r+1+1<hi)&&lt d[F+(2*r+1)]! d[F+(2*r+2)]!)=true:=hb;rw[zN hb',zN hb];cases hl:lt d[F+r]! d[F+(2*r+1)]! with
  |true=>simp only[zY3e,zY0x,if_false,if_true]
  |false=>simp only[Bool.not_false,zY0x,if_false,if_true]
theorem z084{hi F r c:Nat}(d:Array α)(h:¬hi<=2*r+1)(hc:kid lt hi F r d=c):c<hi/\r<c:=by
 subst hc;unfold kid;split
 ·rename_i hb;have:2*r+2<hi:=by(rw[zY0e]at hb;exact of_decide_eq_true hb.1)
  omega
 ·omega
theorem z04s(S:Srt lt n B lf lb sf sb St){w:World}{d:Array α}(h:St d w){a b:Nat}(hab:a<b)(hb:b<=n) :
  Calls Tryz.prog 158 #[.agg #[.func (.func lf) #[] lb,.func (.func sf) #[] sb],.int .i64 a,.int .i64 b] w λe w'=>e=.returned (.tuple #[])/\St (reverseRange d a b) w'/\Fwd B w w':=by
 have hw:=S.base h;have hO:=On.start S h;have hbig:=S.big;go_enter Tryz.func158,Tryz.ntmps158;go_wp2;go_loopg [6,7] b (λkx vi vj wr=>∃(i j:Nat) (dk:Array α),vi=.int .i64 i/\vj=.int .i64 j/\a<=i/\j<b/\j<kx/\On B lf lb sf sb St w dk wr/\Hid (reverseLoop i j dk=reverseLoop a (b-1) d));case atStart=>exact⟨a,b-1,d,rfl,by go_num,by omega,by omega,by omega,hO,rfl⟩
 case round =>
  obtain⟨i,j,dk,rfl,rfl,hai,hjb,hkx,hW,HO⟩:=hrel;clear hO;by_cases hij:i<j
  ·have hz:(i:Int)<(j:Int):=zX0;have c1:=hW.c1;obtain⟨w2,hs,hW4⟩:=hW.swap S hw (i:=i) (j:=j) zX0 zX0 rfl rfl;have HS:=Lib.hid hs;clear hs;repeat'(first|(rw[HS.out,Oper.upon_value])|go_step|fail)
   go_roundg j;case measure=>omega
   case rel=>exact⟨i+1,j-1,_,by go_num,by go_num,by omega,by omega,by omega,hW4,by show Hid _;rw[<- HO.out,z04r i j dk hij];exact rfl⟩
  ·have hz:¬(i:Int)<(j:Int):=zX0;repeat'(first|go_step|fail)
   go_end0;exact⟨rfl,by unfold reverseRange;rw[<- HO.out,z015 i j dk hij];exact hW.st,hW.fwd⟩
theorem z085(S:Srt lt n B lf lb sf sb St){w:World}{d:Array α}(h:St d w){lo hi first:Nat}(hlo:lo<=hi)(hb:first+hi<=n) :
  Calls Tryz.prog 169 #[.agg #[.func (.func lf) #[] lb,.func (.func sf) #[] sb],.int .i64 lo,.int .i64 hi,.int .i64 first] w λe w'=>e=.returned (.tuple #[])/\St (siftDown lt hi first lo d) w'/\Fwd B w w':=by
 have hw:=S.base h;have hO:=On.start S h;have hbig:=S.big;have eg:=S.enters;go_enter Tryz.func169,Tryz.ntmps169;go_wp2;go_loopg [8] (hi-lo+1) (λkx s8 wr=>∃(root:Nat) (dk:Array α),s8=.int .i64 root/\root<=hi/\hi-root<kx/\On B lf lb sf sb St w dk wr/\Hid (siftDown lt hi first root dk=siftDown lt hi first lo d));case atStart=>exact⟨lo,d,rfl,hlo,by omega,hO,rfl⟩
 case round =>
  obtain⟨root,dk,rfl,hr,hkx,hW,HO⟩:=hrel;clear hO;have c0:=hW.c0;have c1:=hW.c1;by_cases h0:hi<=2*root+1
  ·have h0z:(hi:Int)<=2*(root:Int)+1:=zX0;repeat'(first|go_step|fail)
   go_end0;exact⟨rfl,by rw[<- HO.out,z0b2 dk h0];exact hW.st,hW.fwd⟩
  have h0z:¬((hi:Int)<=2*(root:Int)+1):=zX0;go_upto_region 4 with fail;go_cut [32] (λc wx=>c=.bool (decide (2*root+2<hi)&&lt dk[first+(2*root+1)]! dk[first+(2*root+2)]!)/\On B lf lb sf sb St w dk wx);case first =>
   by_cases h1:2*root+2<hi
   ·have h1z:2*(root:Int)+1+1<(hi:Int):=zX0;cases hL:lt dk[first+(2*root+1)]! dk[first+(2*root+2)]! with
    |true =>have hc:=hW.less S hw (i:=first+(2*root+1)) (j:=first+(2*root+2)) (x:=(first:Int)+(2*(root:Int)+1)) (y:=(first:Int)+(2*(root:Int)+1)+1) zX0 zX0 zX0 zX0 hL;have HL:=Lib.hid hL;clear hL;go_wp2_with (refine hc.mono ?_;rintro e w1 ⟨rfl,hU⟩;simp only[];clear hc);go_meet;exact⟨by rw[decide_eq_true h1,HL.out];rfl,hU⟩
    |false =>have hc:=hW.less S hw (i:=first+(2*root+1)) (j:=first+(2*root+2)) (x:=(first:Int)+(2*(root:Int)+1)) (y:=(first:Int)+(2*(root:Int)+1)+1) zX0 zX0 zX0 zX0 hL;have HL:=Lib.hid hL;clear hL;go_wp2_with (refine hc.mono ?_;rintro e w1 ⟨rfl,hU⟩;simp only[];clear hc);go_meet;exact⟨by rw[decide_eq_true h1,HL.out];rfl,hU⟩
   ·have h1z:¬(2*(root:Int)+1+1<(hi:Int)):=zX0;go_wp2_with fail;go_meet;exact⟨by rw[decide_eq_false h1];rfl,hW⟩
  case rest =>
   obtain⟨rfl,hX⟩:=hcut;clear hW c0 c1;have c0:=hX.c0;have HK:∀b,(decide (2*root+2<hi)&&lt dk[first+(2*root+1)]! dk[first+(2*root+2)]!)=b->kid lt hi first root dk=if b=true then 2*root+2 else 2*root+1:=λb hb=>by unfold kid;rw[hb]
   cases hb:(decide (2*root+2<hi)&&lt dk[first+(2*root+1)]! dk[first+(2*root+2)]!)with
   |true =>
    have hk:kid lt hi first root dk=2*root+2:=HK _ hb
    have hk1:=z084 dk h0 hk;have hk2:=Lib.hid (zyi dk h0 hk);clear hb HK hk;cases hG:lt dk[first+root]! dk[first+(2*root+2)]! with
    |true =>
     have hd:=hX.less S hw (i:=first+root) (j:=first+(2*root+2)) (x:=(first:Int)+(root:Int)) (y:=(first:Int)+(2*(root:Int)+1+1)) zX0 zX0 zX0 zX0 hG;have HG:=Lib.hid hG;clear hG;go_wp2_with (first|(refine hd.mono ?_;rintro e w2 ⟨rfl,hW2⟩;simp only[];clear hd;have c1:=hW2.c1;obtain⟨w3,hs,hW3⟩:=hW2.swap S hw (i:=first+root) (j:=first+(2*root+2)) (x:=(first:Int)+(root:Int)) (y:=(first:Int)+(2*(root:Int)+1+1)) zX0 zX0 zX0 zX0;have HS:=Lib.hid hs;clear hs)|(rw[HS.out,Oper.upon_value]));go_roundg (hi-root);case measure=>omega
     case rel=>exact⟨2*root+2,_,by go_num,by omega,by omega,hW3,by show Hid _;rw[<- HO.out,hk2.out,HG.out,zP rfl];exact rfl⟩
    |false =>
     have hd:=hX.less S hw (i:=first+root) (j:=first+(2*root+2)) (x:=(first:Int)+(root:Int)) (y:=(first:Int)+(2*(root:Int)+1+1)) zX0 zX0 zX0 zX0 hG;have HG:=Lib.hid hG;clear hG;go_wp2_with (refine hd.mono ?_;rintro e w2 ⟨rfl,hW2⟩;simp only[];clear hd)
     ((try simp only[Exit.inBlock,Exit.then]);refine bodyPost_ret (results_none rfl _ _ _) rfl ?_)
     exact⟨rfl,by rw[<- HO.out,hk2.out,HG.out,zN zY3i];exact hW2.st,hW2.fwd⟩
   |false =>
    have hk:kid lt hi first root dk=2*root+1:=HK _ hb
    have hk1:=z084 dk h0 hk;have hk2:=Lib.hid (zyi dk h0 hk);clear hb HK hk;cases hG:lt dk[first+root]! dk[first+(2*root+1)]! with
    |true =>
     have hd:=hX.less S hw (i:=first+root) (j:=first+(2*root+1)) (x:=(first:Int)+(root:Int)) (y:=(first:Int)+(2*(root:Int)+1)) zX0 zX0 zX0 zX0 hG;have HG:=Lib.hid hG;clear hG;go_wp2_with (first|(refine hd.mono ?_;rintro e w2 ⟨rfl,hW2⟩;simp only[];clear hd;have c1:=hW2.c1;obtain⟨w3,hs,hW3⟩:=hW2.swap S hw (i:=first+root) (j:=first+(2*root+1)) (x:=(first:Int)+(root:Int)) (y:=(first:Int)+(2*(root:Int)+1)) zX0 zX0 zX0 zX0;have HS:=Lib.hid hs;clear hs)|(rw[HS.out,Oper.upon_value]));go_roundg (hi-root);case measure=>omega
     case rel=>exact⟨2*root+1,_,by go_num,by omega,by omega,hW3,by show Hid _;rw[<- HO.out,hk2.out,HG.out,zP rfl];exact rfl⟩
    |false =>
     have hd:=hX.less S hw (i:=first+root) (j:=first+(2*root+1)) (x:=(first:Int)+(root:Int)) (y:=(first:Int)+(2*(root:Int)+1)) zX0 zX0 zX0 zX0 hG;have HG:=Lib.hid hG;clear hG;go_wp2_with (refine hd.mono ?_;rintro e w2 ⟨rfl,hW2⟩;simp only[];clear hd)
     ((try simp only[Exit.inBlock,Exit.then]);refine bodyPost_ret (results_none rfl _ _ _) rfl ?_)
     exact⟨rfl,by rw[<- HO.out,hk2.out,HG.out,zN zY3i];exact hW2.st,hW2.fwd⟩
theorem z0b3(lt:α->α->Bool)(hi F k:Nat)(d:Array α)(h:k≠0):heapBuild lt hi F k d=heapBuild lt hi F (k-1) (siftDown lt hi F (k-1) d):=by
 obtain⟨j,rfl⟩:∃j,k=j+1:=⟨k-1,by omega⟩
 rfl
theorem z0ga(lt:α->α->Bool)(F k:Nat)(d:Array α)(h:k≠0):heapPop lt F k d=heapPop lt F (k-1) (siftDown lt (k-1) F 0 (swp d F (F+(k-1)))):=by
 obtain⟨j,rfl⟩:∃j,k=j+1:=⟨k-1,by omega⟩
 rfl
theorem z0gb(S:Srt lt n B lf lb sf sb St){w:World}{d:Array α}(h:St d w){a b:Nat}(hab:a<b)(hb:b<=n) :
  Calls Tryz.prog 155 #[.agg #[.func (.func lf) #[] lb,.func (.func sf) #[] sb],.int .i64 a,.int .i64 b] w λe w'=>e=.returned (.tuple #[])/\St (heapSort lt d a b) w'/\Fwd B w w':=by
 have hw:=S.base h;have hO:=On.start S h;have hbig:=S.big;obtain⟨m,hm⟩:∃m,m=(b-a-1)/2+1:=⟨_,rfl⟩
 have hmz:((b:Int)-(a:Int)-1)/2=(m:Int)-1:=zX0;have hsz:((b-a:Nat):Int)=(b:Int)-(a:Int):=zX0;have H0:heapSort lt d a b=heapPop lt a (b-a) (heapBuild lt (b-a) a m d):=by rw[hm];rfl
 rw[H0];clear H0;have hml:m<=b-a:=zX0;clear hm;go_enter Tryz.func155,Tryz.ntmps155;go_wp2;go_loopg [9] (m+1) (λkx v wr=>∃(k:Nat) (dk:Array α),v=.int .i64 ((k:Int)-1)/\k<=m/\k<kx/\On B lf lb sf sb St w dk wr/\Hid (heapBuild lt (b-a) a k dk=heapBuild lt (b-a) a m d));case atStart=>exact⟨m,d,by go_num,zY0k _,zY29 _,hO,rfl⟩
 case round =>
  obtain⟨k,dk,rfl,hkm,hkx,hW,HO⟩:=hrel;clear hO;have c0:=hW.c0;have c1:=hW.c1;by_cases h0:k=0
  ·have hz:¬(0:Int)<=(k:Int)-1:=zX0;have hD:Hid (heapBuild lt (b-a) a m d=dk):=by(show _=_;rw[<- HO.out,h0];rfl)
   clear HO c0 c1;go_wp2;go_loopg [10] (b-a+1) (λkx v wr=>∃(k:Nat) (dj:Array α),v=.int .i64 ((k:Int)-1)/\k<=b-a/\k<kx/\On B lf lb sf sb St w dj wr/\Hid (heapPop lt a k dj=heapPop lt a (b-a) dk));case atStart=>exact⟨b-a,dk,by go_num,zY0k _,zY29 _,hW,rfl⟩
   case round =>
    obtain⟨j,dj,rfl,hjm,hjx,hW2,HP⟩:=hrel;clear hW;have c1:=hW2.c1;by_cases h1:j=0
    ·have hz1:¬(0:Int)<=(j:Int)-1:=zX0;go_wp2;go_end0;exact⟨rfl,by rw[hD.out,<- HP.out,h1];exact hW2.st,hW2.fwd⟩
    ·have hz1:(0:Int)<=(j:Int)-1:=zX0;obtain⟨w2,hs,hV⟩:=hW2.swap S hw (i:=a) (j:=a+(j-1)) (x:=a) (y:=(a:Int)+((j:Int)-1)) zX0 zX0 rfl zX0;have HS:=Lib.hid hs;clear hs;have hc:=z085 S hV.st (lo:=0) (hi:=j-1) (first:=a) zX0 zX0;rw[show((j-1:Nat):Int)=(j:Int)-1 by omega,show((0:Nat):Int)=0 from rfl]at hc;have d0:=hV.c0;have d1:=hV.c1;go_wp2_with (first|(rw[HS.out,Oper.upon_value])|(refine hc.mono ?_;rintro e w3 ⟨rfl,hU⟩;simp only[];have hU:=hV.call hw hU;clear hc d0 d1));go_roundg j;case measure=>omega
     case rel=>exact⟨j-1,_,by go_num,by omega,by omega,hU,by show Hid _;rw[<- HP.out,z0ga lt a j dj h1];exact rfl⟩
  ·have hz:(0:Int)<=(k:Int)-1:=zX0;have hc:=z085 S hW.st (lo:=k-1) (hi:=b-a) (first:=a) zX0 zX0;rw[show((k-1:Nat):Int)=(k:Int)-1 by omega,hsz]at hc;go_wp2_with (refine hc.mono ?_;rintro e w3 ⟨rfl,hU⟩;simp only[];have hU:=hW.call hw hU;clear hc);go_roundg k;case measure=>omega
   case rel=>exact⟨k-1,_,by go_num,by omega,by omega,hU,by show Hid _;rw[<- HO.out,z0b3 lt (b-a) a k dk h0];exact rfl⟩
end
end
end Go.Proofs.YtmjelcjgllkapaaGreatDoor
