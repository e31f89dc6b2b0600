/- Own texts, put together by wip/bundle.py: VU3, VU4, VB5, VC0, VEr, VC1, VB6, VCT, VU7, VRow, VDel, VIns, VU8, VU9, VPU, VPB, VC2, VC3, VC5, VC8, VC9, VC10, VR2, VR3, VR4, VR5, VR7, VR8, VN0, VSB, VU5, VL8, VCk, VB7, VS5, VC4, VB8, VE1, VUA, VQ1, VQ2, VQ3, VQ4. -/
import Derived.Laws.IdiomCopy
import Derived.Lib.AppendZerosOnto
import Derived.Deep.RegionLaw
import Derived.Lib.Hide
import Derived.Laws.Externs
import Derived.Laws.NewBlocks
import Derived.Test.YtaddehddalnliaaGreatDoorProg
import Derived.Sort.Defs
import Derived.Deep.DeepCutAuto
import Derived.Deep.Light
import Derived.Test.YtaddehddalnliaaGreatDoorBCOwnB
import Derived.Test.YtaddehddalnliaaGreatDoorBCOwnC
import Derived.Test.YtaddehddalnliaaGreatDoorBCOwnR
import Derived.Test.YtaddehddalnliaaGreatDoorBCOwnS
import Derived.Test.YtaddehddalnliaaGreatDoorBCOwnV2
import Derived.Test.YtaddehddalnliaaGreatDoorBCOwnZ1
set_option linter.unusedVariables false
set_option linter.unusedSimpArgs false
namespace Go.Proofs.YtaddehddalnliaaGreatDoor
section
open Go.RowKit
set_option maxRecDepth 100000
set_option maxHeartbeats 4000000
attribute [local irreducible] z00 spD z1h
def z0c8:T :=
 .lets [.call 10 [9] 0] [] (.lets [] [.inr 6 4 3] (.lets [.set 4 3 3 [12]] [] (.lets [.bin .add 3 (zI 1)] [] (.again 0 [14,13]))))
def z0c9:T :=
 .lets [] [.inr 6 4 3] (.lets [.idx 4 3 0,.idx 4 3 1,.idx 4 3 2,.idx 4 3 3,.idx 4 3 4,.idx 4 3 5] []
 z0c8)
def zkn:T :=
 .lets [.call 9 [0] 0] [] (.lets [.len 1] [] (.loop [zI 0,1] (.lets [.bin .lss 3 2] [] (.ite 5 z0c9 (.ret [4])))))
def z0fb:T :=
 .lets [.idx 3 6 0,.idx 3 6 1,.idx 3 6 2,.idx 3 6 3,.idx 3 6 4,.idx 3 6 5] [] (.lets [.bin .add 5 10] []
 (.lets [.bin .add 6 (zI 1)] [] (.again 0 [14,15])))
def z0fc:T :=
 .lets [.idx 2 10 0,.idx 2 10 1] [] (.lets [.bin .sub 9 12] [] (.lets [.bin .add 10 (zI 1)] [] (.again 1 [14,15])))
def z0fd:T :=
 .lets [.len 2] [] (.loop [5,zI 0] (.lets [.bin .lss 10 8] [] (.ite 11 (.lets [] [.inr 2 2 10] z0fc) (.ret [9]))))
def zq4:T :=
 .lets [.len 3] [] (.loop [zI 0,zI 0] (.lets [.bin .lss 6 4] [] (.ite 7 (.lets [] [.inr 6 3 6] z0fb) z0fd)))
def z5x (l:List Coin):Prop:=l.length≤1000000∧∀ c ∈ l,c.o.lock.length≤8796093022208
theorem CoinsOK.short {l:List Coin} (h:CoinsOK l):z5x l:=⟨by have:=h.len;omega,fun c hc=>by have:=z8y (z3k (h.good c hc)).2.2.2.2.2.2.2.2;omega⟩
noncomputable def z71:zd:=spD z5x fun l=>l
theorem zci (l:List Coin) (h:z5x l):z71 [.l 6 (l.map zb)]=some [.l 6 (l.map zb)]:=zm (p:=z5x) (f:=fun l:List Coin=>l) l h
theorem z01n:Meets Tryz.prog z71 45 ⟨[.one],[(false,[.fresh 101 6])],false⟩:=by
 refine zl (sp:=(z0g [(9,z4a),(10,z7f)])) (sigs:=z0p) (cut:=[]) (hints:=[⟨3,[.t 9,.o 6]⟩]) (fn:=Tryz.f45) (t:=zkn) (by kernel_rfl) (by kernel_rfl) (by kernel_rfl) ?_ ?_
 ·exact (z05 (L:=[(9,z4a),(10,z7f)]) ⟨ze rfl zkk,ze rfl z0eu,trivial⟩)
 ·rintro ds rs - h
  obtain ⟨l,⟨hl,hk⟩,rfl,rfl⟩:=zp h;clear h;refine ⟨⟨l.length+1,?_⟩,z06n (by simp [zq,CF.isScal])⟩
  show den _ _ zkn [.l 6 (l.map zb)] []=ret l
  unfold zkn
  repeat' (first|refine dq1 ?_|refine dqk rfl (z6y _ hl) ?_|fail)
  (refine zr (fun (_:Unit) k=>[I k,.l 6 (l.map zb)]) (fun _ _ _=>l) (fun _ _=>True) () l ?_ ?_ ?_ ?_ ?_;rfl;exact trivial;exact zY26 _)
  ·rintro _ k c r hx hd hkl - again hag
   repeat' (first|refine dq1 ?_|refine dqc ?_|refine dqm ?_|refine dqk rfl (zfj _ (hk c (zY0a hx))) ?_|refine dqT ?_|fail)
   refine z5 (z0bk rfl rfl rfl (by omega) (by simp) (by exact hx) rfl) ?_
   repeat' (first|refine dq1 ?_|exact z7 rfl rfl (hag () trivial)|fail)
  ·intro _ _ again
   repeat' (first|refine dq1 ?_|exact z6 rfl rfl|refine dqF ?_|fail)
theorem z07v (l:List Coin):∀ s:Int,l.foldl (fun s c=>s+c.o.coin) s=s+zh l:=by
 induction l with
 | nil=>intro s;simp [zh]
 | cons c l ih=>intro s;rw [List.foldl_cons,ih,zh];omega
def z0u (t:Tx) (l:List Coin):Int:=t.outs.foldl (fun s o=>s - o.coin) (l.foldl (fun s c=>s+c.o.coin) 0)
def z7y (x:Tx × List Coin):Prop:=x.2.length≤1000000∧(∀ c ∈ x.2,0≤c.o.coin∧c.o.coin≤1000000000)∧x.1.outs.length≤1000000∧∀ o ∈ x.1.outs,0≤o.coin∧o.coin≤1000000000
noncomputable def z72:zd:=spD z7y fun x=>z0u x.1 x.2
theorem zdz (t:Tx) (l:List Coin) (h:z7y (t,l)):z72 [I t.height,.l 3 (t.ins.map eIn),.l 2 (t.outs.map z3r),.l 6 (l.map zb)]=some [I (z0u t l)]:=zm (p:=z7y) (f:=fun x:Tx × List Coin=>z0u x.1 x.2) (t,l) h
theorem z0af:Meets Tryz.prog z72 74 ⟨[.agg 3,.one],[(false,[.scal])],true⟩:=by
 refine zl (sp:=(z0g [])) (sigs:=z0p) (cut:=[]) (hints:=[⟨3,[.t 5,.t 12]⟩,⟨8,[.t 5,.t 25]⟩]) (fn:=Tryz.f74) (t:=zq4) (by kernel_rfl) (by kernel_rfl) (by kernel_rfl) ?_ ?_
 ·exact (z05 (L:=[]) trivial)
 ·rintro ds rs - h
  obtain ⟨⟨t,l⟩,⟨h1,h2,h3,h4⟩,rfl,rfl⟩:=zp h;clear h;simp only at h1 h2 h3 h4;refine ⟨⟨l.length+t.outs.length+1,?_⟩,z04 rfl⟩
  show den _ _ zq4 [I t.height,.l 3 (t.ins.map eIn),.l 2 (t.outs.map z3r),.l 6 (l.map zb)] []=ret (z0u t l)
  unfold zq4 z0u
  repeat' (first|refine dq1 ?_|fail)
  (refine zr (fun (s:Int) k=>[I s,I k]) (fun (s:Int) _ (r:List Coin)=>t.outs.foldl (fun s o=>s - o.coin) (r.foldl (fun s c=>s+c.o.coin) s)) (fun s k=>0≤s∧s≤k * 1000000000) (0:Int) l ?_ ?_ ?_ ?_ ?_;rfl;exact ⟨by omega,by omega⟩;omega)
  ·rintro s k c r hx hd hkl ⟨h0,h5⟩ again hag
   have hc:=h2 c (zY0a hx)
   repeat' (first|refine dq1 ?_|refine dqc ?_|refine dqm ?_|refine dqT ?_|fail)
   exact z7 rfl rfl (hag (s+c.o.coin) ⟨by omega,by omega⟩)
  ·rintro s ⟨h0,h5⟩ again
   repeat' (first|refine dq1 ?_|refine dqF ?_|fail)
   (refine zr (fun (s:Int) k=>[I s,I k]) (fun (s:Int) _ (r:List Out)=>r.foldl (fun s o=>s - o.coin) s) (fun s k => - (k * 1000000000)≤s∧s≤l.length * 1000000000) s t.outs ?_ ?_ ?_ ?_ ?_;rfl;exact ⟨by omega,by omega⟩;omega)
   ·rintro s k c r hx hd hkl ⟨h0,h5⟩ again' hag
    have hc:=h4 c (zY0a hx)
    repeat' (first|refine dq1 ?_|refine dqc ?_|refine dqm ?_|refine dqT ?_|fail)
    exact z7 rfl rfl (hag (s - c.coin) ⟨by omega,by omega⟩)
   ·rintro s ⟨h0,h5⟩ again'
    repeat' (first|refine dq1 ?_|exact z6 rfl rfl|refine dqF ?_|fail)
def z5d:Coin:=⟨⟨0,0⟩,⟨0,[]⟩,0,false⟩
def z01o (l:List Coin) (p:Point):Coin × Int:=if z9 l≠0 then (z5d,z9 l) else if z1i l p=true then ((l[zi l p]?).getD z5d,0) else (z5d,7)
end
section
open Go.RowKit
set_option maxRecDepth 100000
set_option maxHeartbeats 4000000
theorem zjl (l m:List Op):z6x [.l 2 (l.map eOp),.l 2 (m.map eOp)]=some [.b (decide (l=m))]:=zm (f:=fun x:List Op × List Op=>decide (x.1=x.2)) (l,m) trivial
theorem z0ag:Meets Tryz.prog z6x 57 ⟨[.one,.one],[(false,[.scal])],true⟩ :=
 za4 (e:=fun x:{ x:List Op × List Op // True }=>Enc.e x.1) (d:=fun x=>.b (decide (x.1.1=x.1.2))) rfl (z2t (fn:=Tryz.f57) (by kernel_rfl) (by kernel_rfl) (by kernel_rfl)) (fun _=>rfl) fun x W F us hF h=>by
  obtain ⟨v,us,rfl,h1,h⟩:=z1q h;obtain ⟨v2,us,rfl,h2,h⟩:=z1q h;obtain rfl:=z30 h;obtain ⟨A,n,c,rfl,k1⟩:=z3w z8u h1;obtain ⟨A2,n2,c2,rfl,k2⟩:=z3w z8u h2;refine (z0i9 x.1.1 x.1.2 A A2 n c n2 c2 W F F k1 k2).mono ?_;rintro r W' ⟨rfl,m,rfl⟩;exact ⟨_,rfl,zdr (Below.refl _ _) m,.b _⟩
attribute [local irreducible] z00 spD z1h
theorem ok_l {α:Type} {sz:Nat} {l:List α} {f:α→List Dt} (h:Dt.ok (.l sz (l.map f))):l.length≤9223372036854775807:=by
 cases h with
 | l _ _ h1 _ _=>simpa using h1
theorem z0fe (x y:Out):(decide (x.coin=y.coin) && decide (x.lock=y.lock))=decide (x=y):=by
 cases x;cases y
 simp only [Out.mk.injEq,Bool.decide_and]
noncomputable def z73:zd:=spD (fun _:Out × Out=>True) fun x=>decide (x.1=x.2)
noncomputable def z4b:zd:=spD (fun _:Out × Out=>True) fun x=>decide (x.1=x.2)
theorem zno (x y:Out):z73 [I x.coin,.l 2 (x.lock.map eOp),I y.coin,.l 2 (y.lock.map eOp)]=some [.b (decide (x=y))]:=zm (f:=fun x:Out × Out=>decide (x.1=x.2)) (x,y) trivial
theorem zep (x y:Out):z4b [I x.coin,.l 2 (x.lock.map eOp),I y.coin,.l 2 (y.lock.map eOp)]=some [.b (decide (x=y))]:=zm (f:=fun x:Out × Out=>decide (x.1=x.2)) (x,y) trivial
def ze0:T :=
 .lets [.bin .eql 0 2] [] (.ite 4 (.lets [.call 19 [1,3] 0] [] (.ret [5])) (.ret [.c (.b false)]))
def zfp:T :=
 .lets [.bin .eql 0 2] [] (.ite 4 (.lets [.call 19 [1,3] 0] [] (.ret [5])) (.ret [.c (.b false)]))
def znp:T :=
 .ite 13 (.lets [.bin .eql 4 10] [] (.ite 14 (.lets [.beq false 5 11] [] (.ret [15])) (.ret [.c (.b false)]))) (.ret [.c (.b false)])
def zax:T :=
 .lets [.eqs false [(.v 0,.v 6),(.v 1,.v 7)]] [] (.ite 12 (.lets [.call 22 [2,3,8,9] 0] [] znp) (.ret [.c (.b false)]))
def z07w:T :=
 .lets [.call 27 [9,10,11,12,13,14,15,16,17,18,19,20] 0] [] (.lets [.not 21] [] (.ite 22 (.ret [.c (.b false)]) (.lets [.bin
 .add 7 (zI 1)] [] (.again 0 [6,23]))))
def z07x:T :=
 .lets [] [.inr 6 1 7] (.lets [.idx 1 7 0,.idx 1 7 1,.idx 1 7 2,.idx 1 7 3,.idx 1 7 4,.idx 1 7 5] []
 z07w)
def z07y:T :=
 .lets [] [.inr 6 0 7] (.lets [.idx 0 7 0,.idx 0 7 1,.idx 0 7 2,.idx 0 7 3,.idx 0 7 4,.idx 0 7 5] []
 z07x)
def z07z:T :=
 .ite 4 (.ret [.c (.b false)]) (.lets [.len 0] [] (.loop [.c (.b false),zI 0] (.lets [.bin .lss 7 5] [] (.ite 8 z07y (.ret [.c (.b
 true)])))))
def zhm:T :=
 .lets [.len 0] [] (.lets [.len 1] [] (.lets [.bin .neq 2 3] [] z07z))
def zcj:T :=
 .lets [.call 21 [0,1] 0] [] (.ret [2])
def zhn:T :=
 .lets [.bin .lss 0 2] [] (.ite 4 (.ret [.c (.b true)]) (.lets [.bin .eql 0 2] [] (.ite 5 (.lets [.bin .lss 1 3] [] (.ret [6])) (.ret [.c
 (.b false)]))))
theorem z080:Meets Tryz.prog z73 100 ⟨[.agg 2,.agg 2],[(false,[.scal])],true⟩:=by
 refine zl (sp:=(z0g [(19,z6x)])) (sigs:=z0p) (cut:=[]) (hints:=[]) (fn:=Tryz.f100) (t:=ze0) (by kernel_rfl) (by kernel_rfl) (by kernel_rfl) ?_ ?_
 ·exact (z05 (L:=[(19,z6x)]) ⟨ze rfl z0ag,trivial⟩)
 ·rintro ds rs - h
  obtain ⟨⟨x,y⟩,-,rfl,rfl⟩:=zp h;clear h;refine ⟨⟨1,?_⟩,z04 rfl⟩
  show den _ _ ze0 [I x.coin,.l 2 (x.lock.map eOp),I y.coin,.l 2 (y.lock.map eOp)] []=ret (decide (x=y))
  rw [← z0fe];unfold ze0
  repeat' (first|refine dq1 ?_|refine dqk rfl (zjl _ _) ?_|exact z6 rfl rfl|refine tU (fun h=>?_) fun h=>?_|fail)
theorem znq:Meets Tryz.prog z4b 59 ⟨[.agg 2,.agg 2],[(false,[.scal])],true⟩:=by
 refine zl (sp:=(z0g [(19,z6x)])) (sigs:=z0p) (cut:=[]) (hints:=[]) (fn:=Tryz.f59) (t:=zfp) (by kernel_rfl) (by kernel_rfl) (by kernel_rfl) ?_ ?_
 ·exact (z05 (L:=[(19,z6x)]) ⟨ze rfl z0ag,trivial⟩)
 ·rintro ds rs - h
  obtain ⟨⟨x,y⟩,-,rfl,rfl⟩:=zp h;clear h;refine ⟨⟨1,?_⟩,z04 rfl⟩
  show den _ _ zfp [I x.coin,.l 2 (x.lock.map eOp),I y.coin,.l 2 (y.lock.map eOp)] []=ret (decide (x=y))
  rw [← z0fe];unfold zfp
  repeat' (first|refine dq1 ?_|refine dqk rfl (zjl _ _) ?_|exact z6 rfl rfl|refine tU (fun h=>?_) fun h=>?_|fail)
theorem z0lu (x y:Coin):(decide (x.p=y.p) && (decide (x.o=y.o) && (decide (x.height=y.height) && decide (x.reward=y.reward))))=decide (x=y):=by
 cases x;cases y
 simp only [Coin.mk.injEq,Bool.decide_and]
noncomputable def z7h:zd:=spD (fun _:Coin × Coin=>True) fun x=>decide (x.1=x.2)
theorem ziz (x y:Coin):z7h (zb x++zb y)=some [.b (decide (x=y))]:=zm (f:=fun x:Coin × Coin=>decide (x.1=x.2)) (x,y) trivial
theorem ztw:Meets Tryz.prog z7h 61 ⟨[.agg 6,.agg 6],[(false,[.scal])],true⟩:=by
 refine zl (sp:=(z0g [(22,z4b)])) (sigs:=z0p) (cut:=[]) (hints:=[]) (fn:=Tryz.f61) (t:=zax) (by kernel_rfl) (by kernel_rfl) (by kernel_rfl) ?_ ?_
 ·exact (z05 (L:=[(22,z4b)]) ⟨ze rfl znq,trivial⟩)
 ·rintro ds rs - h
  obtain ⟨⟨x,y⟩,-,rfl,rfl⟩:=zp h;clear h;refine ⟨⟨1,?_⟩,z04 rfl⟩
  show den _ _ zax [I x.p.tx,I x.p.at_,I x.o.coin,.l 2 (x.o.lock.map eOp),I x.height,.b x.reward,I y.p.tx,I y.p.at_,I y.o.coin,.l 2 (y.o.lock.map eOp),I y.height,.b y.reward] []=ret (decide (x=y))
  rw [← z0lu];unfold zax
  repeat' (first|refine dq1 ?_|refine dqc ?_|refine dqm ?_|refine dqK rfl (zep x.o y.o) ?_|exact z6 rfl rfl|((first|refine tR ?_ ?_|refine tB ?_ ?_|refine tC ?_ ?_|refine tN ?_ ?_|refine tF ?_ ?_|refine tG ?_ ?_|refine tP ?_ ?_|refine tQ ?_ ?_|refine tA ?_ ?_|refine tO ?_ ?_|refine tU ?_ ?_|refine tV ?_ ?_) <;> intro h)|refine dqT ?_|refine dqF ?_|refine z0j rfl ?_|refine z0o rfl ?_|refine z9t ?_|refine z6s ?_)
noncomputable def zbj:zd:=spD (fun _:List Coin × List Coin=>True) fun x=>decide (x.1=x.2)
noncomputable def z3c:zd:=spD (fun _:List Coin × List Coin=>True) fun x=>decide (x.1=x.2)
theorem zty (l m:List Coin):zbj [.l 6 (l.map zb),.l 6 (m.map zb)]=some [.b (decide (l=m))]:=zm (f:=fun x:List Coin × List Coin=>decide (x.1=x.2)) (l,m) trivial
theorem z8b (l m:List Coin):z3c [.l 6 (l.map zb),.l 6 (m.map zb)]=some [.b (decide (l=m))]:=zm (f:=fun x:List Coin × List Coin=>decide (x.1=x.2)) (l,m) trivial
theorem zho {α:Type} [DecidableEq α] (l m:List α):decide (l=m)=if (l.length:Int)≠m.length then false else decide (l=m):=by
 by_cases h:(l.length:Int)≠m.length
 ·rw [if_pos h,decide_eq_false]
  rintro rfl;exact h rfl
 ·rw [if_neg h]
theorem z0ff:Meets Tryz.prog zbj 60 ⟨[.one,.one,.clos 61 []],[(false,[.scal])],true⟩:=by
 refine zl (sp:=(z0g [(27,z7h)])) (sigs:=z0p) (cut:=[]) (hints:=[⟨4,[.t 6,.t 17]⟩]) (fn:=Tryz.f60) (t:=zhm) (by kernel_rfl) (by kernel_rfl) (by kernel_rfl) ?_ ?_
 ·exact (z05 (L:=[(27,z7h)]) ⟨ze rfl ztw,trivial⟩)
 ·rintro ds rs hok h
  obtain ⟨⟨l,m⟩,-,rfl,rfl⟩:=zp h;clear h;have hll:=ok_l (hok (.l 6 (l.map zb)) (zY0p ..));refine ⟨⟨l.length+1,?_⟩,z04 rfl⟩
  show den _ _ zhm [.l 6 (l.map zb),.l 6 (m.map zb)] []=ret (decide (l=m))
  rw [zho];unfold zhm
  repeat' (first|refine dq1 ?_|refine dqc ?_|refine dqm ?_|exact z6 rfl rfl|((first|refine tR ?_ ?_|refine tB ?_ ?_|refine tC ?_ ?_|refine tN ?_ ?_|refine tF ?_ ?_|refine tG ?_ ?_|refine tP ?_ ?_|refine tQ ?_ ?_|refine tA ?_ ?_|refine tO ?_ ?_|refine tU ?_ ?_|refine tV ?_ ?_) <;> intro h)|refine dqT ?_|refine dqF ?_|refine z0j rfl ?_|refine z0o rfl ?_|refine z9t ?_|refine z6s ?_)
  have hlm:l.length=m.length:=by omega
  (refine zr (fun (_:Unit) k=>[.b false,I k]) (fun (_:Unit) k (r:List Coin)=>decide (r=m.drop k)) (fun _ _=>True) () l ?_ ?_ ?_ ?_ ?_;rfl;exact trivial;first|exact zY26 _|omega)
  ·rintro _ k x r hx hd hk - again hag
   have hy:m[k]? = some (m[k]'(by omega)):=zY03 (by omega);have hdy:m.drop k=m[k]'(by omega)::m.drop (k+1):=zY1j (by omega);rw [hdy];generalize m[k]'(by omega)=y at *;have e:decide (x::r=y::m.drop (k+1))=if decide (x=y)=true then decide (r=m.drop (k+1)) else false:=by
    by_cases h:x=y
    ·simp [h]
    ·simp [h]
   rw [e];have hkm:k<m.length:=by omega
   repeat' (first|refine dq1 ?_|refine dqc ?_|refine dqm ?_|refine dqK rfl (ziz x y) ?_|exact z6 rfl rfl|exact z7 rfl rfl (hag () trivial)|exact z7 rfl rfl (hag _ trivial)|exact z7 rfl rfl (hag _ (by omega))|exact z7 rfl rfl (hag _ (by assumption))|((first|refine tR ?_ ?_|refine tB ?_ ?_|refine tC ?_ ?_|refine tN ?_ ?_|refine tF ?_ ?_|refine tG ?_ ?_|refine tP ?_ ?_|refine tQ ?_ ?_|refine tA ?_ ?_|refine tO ?_ ?_|refine tU ?_ ?_|refine tV ?_ ?_) <;> intro h)|refine dqT ?_|refine dqF ?_|refine z0j rfl ?_|refine z0o rfl ?_|refine z9t ?_|refine z6s ?_)
  ·rintro _ - again
   rw [hlm,zY2x]
   repeat' (first|refine dq1 ?_|refine dqc ?_|refine dqm ?_|exact z6 rfl rfl|((first|refine tR ?_ ?_|refine tB ?_ ?_|refine tC ?_ ?_|refine tN ?_ ?_|refine tF ?_ ?_|refine tG ?_ ?_|refine tP ?_ ?_|refine tQ ?_ ?_|refine tA ?_ ?_|refine tO ?_ ?_|refine tU ?_ ?_|refine tV ?_ ?_) <;> intro h)|refine dqT ?_|refine dqF ?_|refine z0j rfl ?_|refine z0o rfl ?_|refine z9t ?_|refine z6s ?_)
theorem zhp:Meets Tryz.prog z3c 16 ⟨[.one,.one],[(false,[.scal])],true⟩:=by
 refine zl (sp:=(z0g [(21,zbj)])) (sigs:=z0p) (cut:=[]) (hints:=[]) (fn:=Tryz.f16) (t:=zcj) (by kernel_rfl) (by kernel_rfl) (by kernel_rfl) ?_ ?_
 ·exact (z05 (L:=[(21,zbj)]) ⟨ze rfl z0ff,trivial⟩)
 ·rintro ds rs - h
  obtain ⟨⟨l,m⟩,-,rfl,rfl⟩:=zp h;clear h;refine ⟨⟨1,?_⟩,z04 rfl⟩
  show den _ _ zcj [.l 6 (l.map zb),.l 6 (m.map zb)] []=ret (decide (l=m))
  unfold zcj
  repeat' (first|refine dq1 ?_|refine dqc ?_|refine dqm ?_|refine dqK rfl (zty l m) ?_|exact z6 rfl rfl|((first|refine tR ?_ ?_|refine tB ?_ ?_|refine tC ?_ ?_|refine tN ?_ ?_|refine tF ?_ ?_|refine tG ?_ ?_|refine tP ?_ ?_|refine tQ ?_ ?_|refine tA ?_ ?_|refine tO ?_ ?_|refine tU ?_ ?_|refine tV ?_ ?_) <;> intro h)|refine dqT ?_|refine dqF ?_|refine z0j rfl ?_|refine z0o rfl ?_|refine z9t ?_|refine z6s ?_)
end
section
open Go.RowKit
open Go.Lib (itoa)
set_option maxRecDepth 100000
set_option maxHeartbeats 4000000
noncomputable def z0lv:zd:=spD (fun _:List In × List In=>True) fun x=>decide (x.1=x.2)
noncomputable def z0fg:zd:=spD (fun _:Tx × Tx=>True) fun x=>decide (x.1=x.2)
attribute [local irreducible] z00 spD z1h za zg
attribute [local irreducible] den denX z0i z0q
attribute [local irreducible] z6x
attribute [local irreducible] z73
attribute [local irreducible] z0lv
end
section
open Go.RowKit
def zq5:List CF→List Dt→Prop
 | .scal::fs,d::ds=>d.scal=true∧zq5 fs ds
 | _::fs,_::ds=>zq5 fs ds
 | _,_=>True
theorem zq6:∀ {fs:List CF} {ds:List Dt},zq5 fs ds→∀ (j:Nat) (d:Dt),fs[j]? = some .scal→ds[j]? = some d→d.scal=true
 | [],_,_,j,d,hf,_=>by cases hf
 | _::_,[],_,j,d,_,hd=>by cases hd
 | c::fs,x::ds,h,j,d,hf,hd=>by
  cases j with
  | zero =>
   simp only [zY05,zY00] at hf hd;subst hf;subst hd;exact h.1
  | succ j =>
   have h':zq5 fs ds:=by
    cases c with
    | scal=>exact h.2
    | pure=>exact h
    | fresh e sz=>exact h
   exact zq6 h' j d (by simpa using hf) (by simpa using hd)
theorem z8l {s:Sig} {rs:List Dt} (h:zq5 (zq s) rs):z61 s rs:=fun i d h1 h2=>zq6 h i d h1 h2
def zq7:List CF→Bool
 | []=>true
 | .fresh _ _::_=>false
 | _::fs=>zq7 fs
theorem ze1:∀ {fs:List CF},zq7 fs=true→∀ c ∈ fs,c = .scal∨c = .pure
 | [],_,c,h=>by cases h
 | x::fs,h,c,hc=>by
  cases x with
  | scal =>
   rcases zY0i.1 hc with rfl|hc
   ·exact .inl rfl
   ·exact ze1 (fs:=fs) h c hc
  | pure =>
   rcases zY0i.1 hc with rfl|hc
   ·exact .inr rfl
   ·exact ze1 (fs:=fs) h c hc
  | fresh e sz=>cases h
section
variable {W W':World} {F F':Nat→Prop} {pk:List PK} {b:Bool}
theorem resP {s:Sig} {rs:List Dt} {v:Value} {us:List Value} (hv:zpa s.res v us) (hc:zq7 (zq s)=true) (hs:zq5 (zq s) rs) (hr:Reps W' F' rs us) (hl:rs.length=(zq s).length) (hF':∀ b,F' b→F b∨(W.heap.size≤b∧b<W'.heap.size)):∃ us F',ResR W F W' s rs v us F' :=
 ⟨us,F',zkg hv (ze1 hc) (zq6 hs) hl hr hF'⟩
end
end
section
open Go.RowKit
end
section
open Go.RowKit
set_option maxRecDepth 100000
set_option maxHeartbeats 4000000
theorem zsb:∀ l s:List (List UInt8),Er (z5h l s)
 | [],_=>z1a _ rfl
 | x::l,s=>z1z (z1a _ rfl) (z1z (z1a _ rfl) (zsb l _))
theorem z0ai (k:Book):Er (zk k):=z1z (z1a _ rfl) (zsb _ _)
theorem z0iw (t:List (List UInt8)) (s:List UInt8):Er (z34 t s):=z1z (z1a _ rfl) (z1z (z1a _ rfl) (z1a _ rfl))
theorem zko:∀ (l t:List (List UInt8)) (o:List Int),Er (z11 l t o).2.2
 | [],t,o=>z1a _ rfl
 | s::l,t,o=>by
  rw [z11]
  split
  ·exact z1a _ rfl
  ·split
   ·exact z0iw _ _
   ·exact zko l _ _
theorem z0cg (k:Book) (l:List (List UInt8)):Er (z0z k l).2.2:=by
 unfold z0z
 split
 ·exact z0ai k
 ·exact zko _ _ _
theorem zhr {n:Int} (h:0≤n∧n≤1000):I64 n:=⟨by have:=h.1;omega,by have:=h.2;omega⟩
noncomputable def zhs:zd:=spD (fun _:Book=>True) fun k=>zk k
theorem z0ol {W W':World} {F:Nat→Prop}:∀ b,Mid W W' b→F b∨(W.heap.size≤b∧b<W'.heap.size):=fun b h=>.inr h
noncomputable def z085:zd:=spD (fun _:Book × List UInt8=>True) fun x=>(zyd x.1 x.2,zeh x.1 x.2,zmy x.1 x.2)
noncomputable def z93:zd:=spD (fun x:Book × List (List UInt8)=>x.2.length≤8796093022207) fun x=>z0z x.1 x.2
theorem ztz (k:Book) (l:List (List UInt8)) (h:l.length≤8796093022207):z93 [.l 1 (k.texts.map z13),.l 1 (l.map z13)]=some [.l 1 ((z0z k l).1.map z13),.l 1 ((z0z k l).2.1.map z0r),I (z0z k l).2.2]:=zm (p:=fun x:Book × List (List UInt8)=>x.2.length≤8796093022207) (f:=fun x:Book × List (List UInt8)=>z0z x.1 x.2) (k,l) h
theorem z0fk:Meets Tryz.prog z93 72 ⟨[.agg 1,.one],[(true,[.pure]),(false,[.pure]),(false,[.scal])],false⟩ :=
 z52 rfl (z2t (fn:=Tryz.f72) (by kernel_rfl) (by kernel_rfl) (by kernel_rfl)) fun x hx W F us hF h=>by
  obtain ⟨k,l⟩:=x;obtain ⟨cs,us,rfl,h1,h⟩:=z0kr (d1:=zbd k) (d2:=Enc.e l) h rfl;obtain ⟨v,us,rfl,h2,h⟩:=z1q h;obtain rfl:=z30 h;obtain ⟨A,n,c,rfl,hl⟩:=z3w zbv h2;have:=hl.1;simp only at hx;refine (z0lb k cs l A n c W F (she_book.of h1) hl hF.1 (by omega)).mono ?_;rintro e w' ⟨A,n,c,A',n',c',rfl,hr,hr',hb⟩;refine ⟨_,rfl,hb,?_⟩;exact resP (us:=[.slice A n c,.slice A' n' c',.int .i64 (z0z k l).2.2]) (F':=Mid W w') ⟨[.agg #[.slice A n c],.slice A' n' c',.int .i64 (z0z k l).2.2],rfl,.agg #[.slice A n c],_,[.slice A n c],_,rfl,rfl,⟨rfl,rfl⟩,.slice A' n' c',_,[.slice A' n' c'],_,rfl,rfl,⟨rfl,rfl⟩,.int .i64 (z0z k l).2.2,[],[.int .i64 (z0z k l).2.2],[],rfl,rfl,⟨rfl,rfl⟩,rfl,rfl⟩ rfl ⟨rfl,trivial⟩ ⟨z8h zbv hr,z8h z3g hr',.i _ _ (wrap_i64 (z0cg k l).i64),trivial⟩ rfl z0ol
noncomputable def zjm:zd:=spD (fun _:Block=>True) fun k=>zf k
theorem zdg (n:Int):0≤z0e n∧z0e n≤1000:=by
  unfold z0e
  split
  ·exact ⟨by decide,by decide⟩
  ·rename_i h
   have h1:(0:Int)≤2 ^ (min ((n - 1) / 8) 30).toNat:=Int.pow_nonneg (by decide);have h2:=Int.ediv_nonneg (show (0:Int)≤64 by decide) h1;have h3:=Int.ediv_le_self (2 ^ (min ((n - 1) / 8) 30).toNat) (show (0:Int)≤64 by decide);exact ⟨h2,by omega⟩
theorem zsc (n:Int):I64 (z0e n)∧I64 (z40 n):=by
 have h1:=zdg n;have h2:0≤z40 n∧z40 n≤1000:=by
  unfold z40
  split <;> exact ⟨by decide,by decide⟩
 exact ⟨zhr h1,zhr h2⟩
noncomputable def z4x:zd:=spD (fun _:Int=>True) fun n=>(z0e n,z40 n)
theorem zkp (n:Int):z4x [I n]=some [I (z0e n),I (z40 n)]:=zm (f:=fun n:Int=>(z0e n,z40 n)) n trivial
theorem z0lx (n:Int) (w:World):Calls Tryz.prog 63 #[.int .i64 n] w fun e w'=>e = .returned (.tuple #[.int .i64 (z0e n),.int .i64 (z40 n)])∧w=w':=by
 by_cases h:n<1∨1000<n
 ·go_enter Tryz.func63,Tryz.ntmps63
  go_wp2
  all_goals (go_ret2;refine ⟨z6m ?_ ?_,rfl⟩)
  all_goals simp [z0e,z40,h]
 ·have h1:1≤n:=by omega
  have h2:n≤1000:=by omega
  go_enter Tryz.func63,Tryz.ntmps63;go_wp2
  all_goals (go_ret2;refine ⟨z6m ?_ ?_,rfl⟩)
  all_goals first|(simp only [z0e];rw [if_neg (by omega)])|(simp [z40];omega)
theorem z01r:Meets Tryz.prog z4x 63 ⟨[.one],[(false,[.scal]),(false,[.scal])],true⟩ :=
 z52 rfl (z2t (fn:=Tryz.f63) (by kernel_rfl) (by kernel_rfl) (by kernel_rfl)) fun n _ W F us hF h=>by
  obtain ⟨v,us,rfl,h2,h⟩:=z1q (d:=I n) h;obtain rfl:=z30 h;obtain ⟨rfl,hn⟩:=zit h2;refine (z0lx n W).mono ?_;rintro e w' ⟨rfl,rfl⟩;exact ⟨_,rfl,Below.refl _ _,zpv rfl rfl (.i _ _ (wrap_i64 (zsc n).1)) (.i _ _ (wrap_i64 (zsc n).2))⟩
noncomputable def zsd:zd:=spD (fun _:List Int × Int=>True) fun x=>idx x.1 x.2
noncomputable def z01s:zd:=spD (fun l:List Int=>l.length≤1000000) fun l=>l
noncomputable def z0ix:zd:=spD (fun l:List (List UInt8)=>l.length≤1000000) fun l=>l
noncomputable def zse:zd:=spD (fun _:List Int=>True) fun l=>l.reverse
end
section
open Go.RowKit
open Go.Lib (itoa)
set_option maxRecDepth 100000
set_option maxHeartbeats 4000000
def zet (b:Block):List (List UInt8):=b.txs.map fun t=>(z0b t).1
def z9u (k:Book) (s:List UInt8) (l:List (List UInt8)):List (List UInt8) × Int × List Int × Int :=
 if (z0z k (l++[s])).2.2≠0 then ([],0,[],(z0z k (l++[s])).2.2) else
 ((z0z k (l++[s])).1,((z0z k (l++[s])).2.1).getD l.length 0,((z0z k (l++[s])).2.1).take l.length,0)
def z09 (k:Book) (b:Block):List (List UInt8) × Int × List Int × Int :=
 if (z0h b).2≠0 then ([],0,[],(z0h b).2) else z9u k (z0h b).1 (zet b)
theorem zdh:∀ (l t:List (List UInt8)) (o:List Int),(z11 l t o).2.2=0→(z11 l t o).2.1.length=o.length+l.length
 | [],t,o,_=>by simp [z11]
 | s::l,t,o,h=>by
  rw [z11] at h ⊢
  split at h
  ·cases h
  rename_i h1;rw [if_neg h1]
  split at h
  ·rename_i h2;exact absurd h h2
  rename_i h2;rw [if_neg h2];rw [zdh l _ _ h];simp;omega
theorem zjn {k:Book} {l:List (List UInt8)} (h:(z0z k l).2.2=0):(z0z k l).2.1.length=l.length:=by
 unfold z0z at h ⊢
 split at h
 ·rename_i h1;exact absurd h h1
 rename_i h1;rw [if_neg h1];simpa using zdh l k.texts [] h
theorem zga {b:Block} (h:(z0h b).2=0):zf b=0:=by
 unfold z0h at h
 by_cases hb:zf b=0
 ·exact hb
 ·rw [if_pos hb] at h;exact absurd h hb
attribute [local irreducible] z00 spD z0z z0h z0b
attribute [local irreducible] den denX z0i z0q
noncomputable def z26:zd:=spD (fun _:Book × Block=>True) fun x=>z09 x.1 x.2
theorem z7i (k:Book) (b:Block):z26 [.l 1 (k.texts.map z13),I b.parent,I b.height,I b.work,I b.nonce,.l 3 (b.txs.map eTx)]=some [.l 1 ((z09 k b).1.map z13),I (z09 k b).2.1,.l 1 ((z09 k b).2.2.1.map z0r),I (z09 k b).2.2.2]:=zm (f:=fun x:Book × Block=>z09 x.1 x.2) (k,b) trivial
theorem zdi (b:Block):z3m [I b.parent,I b.height,I b.work,I b.nonce,.l 3 (b.txs.map eTx)]=some [.s (z0h b).1,I (z0h b).2]:=zq3 b
theorem zq8 (t:Tx):z5w [I t.height,.l 3 (t.ins.map eIn),.l 2 (t.outs.map z3r)]=some [.s (z0b t).1,I (z0b t).2]:=ztv t
def z01t:T :=
 .lets [.call 56 [13,14,15] 0,.call 56 [13,14,15] 1] [] (.lets [.mk 1 [[16]]] [] (.lets [.app 1 10 18] [] (.lets [.bin .add 11 (.c (.i .i64
 1))] [] (.again 0 [19,20]))))
def z01u:T :=
 .lets [.len 10] [] (.lets [.sub 1 16 none (some 21),.sub 1 16 (some 21) (some 22)] [] (.ret [15,20,23,zI 0]))
def z01v:T :=
 .ite 18 (.ret [.c (.nil 1),zI 0,.c (.nil 1),17]) (.lets [.len 10] [] (.lets [] [.inr 1 16 19] (.lets [.idx 16 19 0] [] (.lets [.len (.v
 10)] [] z01u))))
def z01w:T :=
 .lets [.app 1 10 13] [] (.lets [.call 63 [0,14] 0,.call 63 [0,14] 1,.call 63 [0,14] 2] [] (.lets [.bin .neq 17 (zI 0)] []
 z01v))
def z01x:T :=
 .ite 12 (.lets [] [.inr 3 5 11] (.lets [.idx 5 11 0,.idx 5 11 1,.idx 5 11 2] [] z01t)) (.lets [.mk 1 [[6]]] []
 z01w)
def z01y:T :=
 .ite 8 (.ret [.c (.nil 1),zI 0,.c (.nil 1),7]) (.lets [.len 5] [] (.loop [.c (.nil 1),zI 0] (.lets [.bin .lss 11 9] [] z01x)))
def zfr:T :=
 .lets [.call 57 [1,2,3,4,5] 0,.call 57 [1,2,3,4,5] 1] [] (.lets [.bin .neq 7 (zI 0)] [] z01y)
attribute [local irreducible] z3m z93 z5w
theorem zbl:Meets Tryz.prog z26 23 ⟨[.agg 1,.agg 5],[(true,[.pure]),(false,[.scal]),(false,[.pure]),(false,[.scal])],false⟩:=by
 refine zl (sp:=(z0g [(56,z5w),(57,z3m),(63,z93)])) (sigs:=z0p) (cut:=[]) (hints:=[⟨6,[.r 9 9 1,.t 27]⟩]) (fn:=Tryz.f23) (t:=zfr) (by kernel_rfl) (by kernel_rfl) (by kernel_rfl) ?_ ?_
 ·exact (z05 (L:=[(56,z5w),(57,z3m),(63,z93)]) ⟨ze rfl z0f9,ze rfl znn,ze rfl z0fk,trivial⟩)
 ·rintro ds rs hok h
  obtain ⟨⟨k,b⟩,-,rfl,rfl⟩:=zp h;clear h;refine ⟨⟨100,?_⟩,z8l ⟨rfl,rfl,trivial⟩⟩
  show den _ _ zfr [.l 1 (k.texts.map z13),I b.parent,I b.height,I b.work,I b.nonce,.l 3 (b.txs.map eTx)] []=ret (z09 k b)
  have a1:=zdi b;unfold zfr z09;have hpz:=fun h=>(z1g (zga (b:=b) h)).len
  generalize z0h b=pb at *;obtain ⟨s,e⟩:=pb;simp only at *
  repeat' (first|refine dq1 ?_|refine dqK rfl (a1) ?_|exact z6 rfl rfl|refine tR (fun h=>?_) fun h=>?_|fail)
  have hlen:b.txs.length≤4:=hpz (by omega)
  (refine zr (fun (a:List (List UInt8)) k=>[.l 1 (a.map z13),I k]) (fun (a:List (List UInt8)) _ (r:List Tx)=>z9u k s (a++r.map fun t=>(z0b t).1)) (fun a k=>a.length=k) [] b.txs ?_ ?_ ?_ ?_ ?_;rfl;exact rfl;omega)
  ·rintro a i x r hx hd hk ha again hag
   have a2:=zq8 x;have e:a++((x::r).map fun t=>(z0b t).1)=(a++[(z0b x).1])++r.map fun t=>(z0b t).1:=by simp
   rw [e];have hag':=hag (a++[(z0b x).1]) (by simp;omega);generalize z0b x=px at *;obtain ⟨z,f⟩:=px;simp only at *
   repeat' (first|refine dq1 ?_|refine dqc ?_|refine dqm ?_|refine dqK rfl (a2) ?_|refine z5 (z24 rfl rfl (by simp)) ?_|refine dqT ?_|fail)
   exact z7 rfl rfl hag'
  ·rintro a ha again
   simp only [zY2e,zY1e];have a3:=ztz k (a++[s]) (by simp;omega);have hl:=fun h=>zjn (k:=k) (l:=a++[s]) h
   unfold z9u;generalize z0z k (a++[s])=q at *;obtain ⟨tx,ns,e2⟩:=q;simp only at *
   repeat' (first|refine dq1 ?_|refine dqK rfl (a3) ?_|refine z5 (z24 rfl rfl (by simp)) ?_|exact z6 rfl rfl|refine tR (fun h=>?_) fun h=>?_|refine dqF ?_|fail)
   have hl:=hl (by omega);simp only [zY04,zY0c,zY0r] at hl;have hg:ns[((a.length:Int)).toNat]? = some (ns.getD a.length 0):=by
    rw [zY2k,zY0w,zY03 (by omega)];rfl
   generalize ns.getD a.length 0=y at *;have ht:ns.take ((a.length:Int)).toNat=ns.take a.length:=by rw [zY2k]
   repeat' (first|refine dq1 ?_|refine dqc ?_|fail)
   refine z9s (z2s (z0a8 rfl rfl (by omega) (by omega) ht) (z2s (zeg (m:=(a.length:Int)) (n:=(a.length:Int)) rfl rfl rfl (by omega) (by omega) (by omega)) zgx)) ?_ rfl;exact z6 rfl rfl
end
section
open Go.RowKit
set_option maxRecDepth 100000
set_option maxHeartbeats 4000000
section
variable {sp:Nat→zd} {N:Nat} {E:Env} {ks:List (List Dt→Option (List Dt))}
end
noncomputable def z0ly:zd:=spD (fun l:List In=>l.length≤3518437208780) fun l=>l
noncomputable def z0iy:zd:=spD (fun l:List Out=>l.length≤4398046510976) fun l=>l
noncomputable def z0lz:zd:=spD (fun l:List Tx=>l.length≤2513169434843) fun l=>l
noncomputable def z0iz:zd:=spD (fun l:List Block=>l.length≤1000000) fun l=>l
attribute [local irreducible] z00 spD zf zam
attribute [local irreducible] den denX z0i z0q
def z0ch (t:Tx):Prop:=(t.ins.length≤3518437208780∧∀ x ∈ t.ins,x.key.length≤8796093021952)∧(t.outs.length≤4398046510976∧∀ x ∈ t.outs,x.lock.length≤8796093021952)
def z0om (b:Block):Prop:=b.txs.length≤2513169434843∧∀ t ∈ b.txs,z0ch t
theorem TxSmall.fit {t:Tx} (h:TxSmall t):z0ch t:=⟨⟨by have:=h.ins;omega,fun x hx=>by have:=h.key x hx;omega⟩,by have:=h.outs;omega,fun x hx=>by have:=h.lock x hx;omega⟩
theorem BlockSmall.fit {b:Block} (h:BlockSmall b):z0om b:=⟨by have:=h.txs;omega,fun x hx=>(h.each x hx).fit⟩
noncomputable def zsf:zd:=spD z0ch fun t=>t
attribute [local irreducible] z0ly z7f z0iy
attribute [local irreducible] z0lz
attribute [local irreducible] z0iz z01s
attribute [local irreducible] zsd
def z0fl (x:Tree × Block × Int):Prop:=0≤x.2.2∧x.2.2≤x.1.names.length∧x.1.names.length=x.1.blocks.length∧∀ b ∈ x.1.blocks.take x.2.2.toNat,0≤b.height∧b.height≤1000
noncomputable def z086:zd:=spD z0fl fun x=>zeq x.1.names x.1.blocks x.2.1 x.2.2.toNat
attribute [local irreducible] zjm z086
attribute [local irreducible] zse
noncomputable def z087:zd:=spD (fun _:Tree × Int=>True) fun x=>z0cf x.1 x.2
noncomputable def z01z:zd:=spD (fun _:Tree × Int=>True) fun x=>(zhq x.1 x.2,z0ah x.1 x.2)
end
section
open Go.RowKit
set_option maxRecDepth 100000
set_option maxHeartbeats 4000000
section
variable {ρ:Type}
def z31 (h:Int) (bad:Int→ρ) (K:List Coin→List Coin→ρ):List Coin→List Coin→List In→ρ
 | r,s,[]=>K r s
 | r,s,x::xs=>if z1i r x.p=true then
   if ((r[zi r x.p]?).getD z5d).reward=true then
    if h<((r[zi r x.p]?).getD z5d).height+2 then bad 10
    else if (z20 ((r[zi r x.p]?).getD z5d).o.lock x.key h).1=true then z31 h bad K (r.take (zi r x.p)++r.drop (zi r x.p+1)) (s++[(r[zi r x.p]?).getD z5d]) xs else bad 8
   else if (z20 ((r[zi r x.p]?).getD z5d).o.lock x.key h).1=true then z31 h bad K (r.take (zi r x.p)++r.drop (zi r x.p+1)) (s++[(r[zi r x.p]?).getD z5d]) xs else bad 8
  else bad 7
def z2q (nm h:Int) (rw:Bool) (bad:Int→ρ) (K:List Coin→ρ):List Coin→Nat→List Out→ρ
 | r,_,[]=>K r
 | r,i,o::os=>if z1i r ⟨nm,i⟩=true then bad 6 else z2q nm h rw bad K (r.take (zi r ⟨nm,i⟩)++[⟨⟨nm,i⟩,o,h,rw⟩]++r.drop (zi r ⟨nm,i⟩)) (i+1) os
end
def z1f (e:Int):List Coin × List Coin × Int:=([],[],e)
def z4s (s r:List Coin):List Coin × List Coin × Int:=if z9 r≠0 then z1f (z9 r) else (r,s,0)
def zx (l:List Coin) (t:Tx) (nm h:Int):List Coin × List Coin × Int :=
 if z9 l≠0 then z1f (z9 l) else if zg t≠0 then z1f (zg t) else
 if nm<1∨120<nm∨h<1∨1000<h then z1f 3 else
 if (t.ins.length:Int)=0 then
  if t.height≠h then z1f 4 else z31 h z1f (fun r s=>z2q nm h (decide ((t.ins.length:Int)=0)) z1f (z4s s) r 0 t.outs) l [] t.ins
 else z31 h z1f (fun r s=>if z0u t s<0 then z1f 9 else z2q nm h (decide ((t.ins.length:Int)=0)) z1f (z4s s) r 0 t.outs) l [] t.ins
section
variable {ρ:Type}
def z88 (nm:Int) (bad:Int→ρ) (K:List Coin→ρ):List Coin→Nat→List Out→ρ
 | r,_,[]=>K r
 | r,i,o::os=>if z1i r ⟨nm,i⟩=true then (if decide (((r[zi r ⟨nm,i⟩]?).getD z5d).o=o)=true then z88 nm bad K (r.take (zi r ⟨nm,i⟩)++r.drop (zi r ⟨nm,i⟩+1)) (i+1) os else bad 7) else bad 7
def z6j (ins:List In) (bad:Int→ρ) (K:List Coin→ρ):List Coin→Nat→List Coin→ρ
 | r,_,[]=>K r
 | r,i,c::cs=>if z1i r c.p=true then bad 6 else if ((ins[i]?).getD ⟨⟨0,0⟩,[]⟩).p≠c.p then bad 6 else z6j ins bad K (r.take (zi r c.p)++[c]++r.drop (zi r c.p)) (i+1) cs
end
def z5b (e:Int):List Coin × Int:=([],e)
def z9v (r:List Coin):List Coin × Int:=if z9 r≠0 then z5b (z9 r) else (r,0)
def z16 (l:List Coin) (t:Tx) (nm:Int) (u:List Coin):List Coin × Int :=
 if z9 l≠0 then z5b (z9 l) else if zg t≠0 then z5b (zg t) else if (u.length:Int)≠t.ins.length then z5b 4 else
  z88 nm z5b (fun r=>z6j t.ins z5b z9v r 0 u) l 0 t.outs
theorem z7j {r:List Coin} (h:z03 r) (k:Nat):z03 (r.take k++r.drop (k+1)):=by
 have:(r.take k++r.drop (k+1))=r.eraseIdx k:=(List.eraseIdx_eq_take_drop_succ r k).symm;rw [this];exact h.sublist (List.eraseIdx_sublist r k)
theorem z5z {r:List Coin} (h:z03 r) {c:Coin} (hc:z1i r c.p=false):z03 (r.take (zi r c.p)++[c]++r.drop (zi r c.p)):=by
 obtain ⟨i1,i2⟩:=zjg h c.p;have hle:=zfg r c.p;have hne:∀ t (ht:t<r.length),r[t].p≠c.p:=fun t ht he=>by
  have:z1i r c.p=true:=zY33.2 ⟨_,zY1p ht,by simpa using he⟩;rw [this] at hc;cases hc
 unfold z03;rw [zY1c,zY2m];refine ⟨List.Pairwise.sublist (List.take_sublist _ _) h,?_,?_⟩
 ·rw [zY32,zY1v]
  refine ⟨fun d hd=>?_,List.Pairwise.sublist (List.drop_sublist _ _) h⟩;obtain ⟨t,ht,rfl⟩:=zY2h hd;rw [zY0z] at ht;rw [List.getElem_drop];have:=i2 (zi r c.p+t) (by omega) (by omega);rcases zpo c.p r[zi r c.p+t].p with h|h|h
  ·exact h
  ·exact absurd h.symm (hne _ (by omega))
  ·exact absurd h this
 ·intro a ha b hb
  obtain ⟨t,ht,rfl⟩:=zY2h ha;rw [zY0e] at ht;rw [List.getElem_take];have hat:=i1 t (by omega) (by omega);rw [zY32,zY0i] at hb;rcases hb with rfl|hb
  ·exact hat
  ·obtain ⟨u,hu,rfl⟩:=zY2h hb
   rw [zY0z] at hu;rw [List.getElem_drop];have:=i2 (zi r c.p+u) (by omega) (by omega);rcases zpo r[t].p r[zi r c.p+u].p with h|h|h
   ·exact h
   ·exact absurd (h ▸ hat) this
   ·exact absurd (z6u h hat) this
structure SpI (l:List Coin) (st:List Coin × List Coin) (k:Nat):Prop where
 sorted:z03 st.1
 len:st.1.length≤l.length
 good:∀ c ∈ st.1,z4c c=0
 cnt:st.2.length=k
 spent:∀ c ∈ st.2,z4c c=0
theorem SpI.cut {l:List Coin} {r s:List Coin} {k:Nat} {c:Coin} {j:Nat} (h:SpI l (r,s) k) (hc:r[j]? = some c):SpI l (r.take j++r.drop (j+1),s++[c]) (k+1):=by
 refine ⟨z7j h.sorted j,?_,fun d hd=>?_,?_,fun d hd=>?_⟩
 ·have:=h.len
  simp only [zY04,zY0e,zY0z] at this ⊢;omega
 ·rcases zY11.1 hd with hd|hd
  ·exact h.good d (zY2l hd)
  ·exact h.good d (zY2c hd)
 ·have:=h.cnt
  simp only [zY04,zY1f] at this ⊢;omega
 ·rcases zY11.1 hd with hd|hd
  ·exact h.spent d hd
  ·simp only [zY13] at hd
   subst hd;exact h.good d (zY0a hc)
theorem SpI.fee {l:List Coin} {r s:List Coin} {t:Tx} (h:SpI l (r,s) t.ins.length) (ht:TxOK t):z7y (t,s) :=
 ⟨by have:=h.cnt;have:=ht.ins;simp only at *;omega,fun c hc=>by have:=z3k (h.spent c hc);omega,by have:=ht.outs;simp only;omega,fun o ho=>by have:=ht.good o ho;omega⟩
end
section
open Go.RowKit
section
variable {P:Program} {W:World}
theorem zeu {g o t:Nat} {vs cs:List Value} (hg:W.heap[g]? = some (.cells vs.toArray t (0,0))) (hn:o+cs.length≤vs.length) (h1:∀ v ∈ cs,v.oneCell'=true):(storeCells ⟨g,o,none⟩ cs 0).run P W = .ok () (W.setCells g o cs):=by
 have h:=zgk (fr:=(0,0)) hg (o:=o) (n:=cs.length) hn;have:=run_storeCells_cells (P:=P) g o cs 0 W (fun j hj=>by rw [zY2b];exact (h j hj).1) (fun j hj=>by rw [zY2b];exact (h j hj).2) h1;simpa using this
theorem z0fm {t e ty sz:Nat} {z:Value} (ht:P.underlying t=some (.slice e)) (hv:∀ w,(zeroValue e).run P w = .ok z w) (hz:z.cells.size=sz) (h1:∀ v ∈ z.cells.toList,v.oneCell'=true) {g o n c tt:Nat} {vs:List Value} (hg:W.heap[g]? = some (.cells vs.toArray tt (0,0))) (hn:o+n * sz≤vs.length) :
  (Builtin.clear_ #[t] ty #[.slice (some ⟨g,o,none⟩) n c]).run P W = .ok (.tuple #[]) (W.setCells g o (Builtin.zeroCells z.cells n).toList):=by
 have hzl:(Builtin.zeroCells z.cells n).toList.length=n * sz:=by simp [Builtin.zeroCells,hz]
 cases n with
 | zero =>
  have:(Builtin.zeroCells z.cells 0).toList=[]:=zY08 (by rw [hzl];simp);rw [this];simp [Builtin.clear_,run_underlying ht,World.setCells]
 | succ n =>
  have hs:=zeu (P:=P) (cs:=(Builtin.zeroCells z.cells (n+1)).toList) hg (by rw [hzl];exact hn) (fun v hv=>by
   rw [Array.mem_toList_iff] at hv;simp only [Builtin.zeroCells,Array.mem_map] at hv;obtain ⟨i,hi,rfl⟩:=hv;have hpos:0<z.cells.size:=by
    rcases zY1n z.cells.size with h|h
    ·rw [h] at hi;simp at hi
    ·exact h
   have hlt:i % z.cells.size<z.cells.size:=Nat.mod_lt _ hpos;rw [getElem!_pos z.cells _ hlt];exact h1 _ (by simp))
  simp [Builtin.clear_,run_underlying ht,hv,hs]
theorem zfs {t t' e ty sz:Nat} (ht:P.underlying t=some (.slice e)) (hsz:(P.info? e).map (·.size)=some sz) {g o dLen dCap sLen sCap tt:Nat} {a:Addr} {vs cs:List Value} (hg:W.heap[g]? = some (.cells vs.toArray tt (0,0))) (hl:cs.length=Nat.min sLen dLen * sz) (hsrc:∀ j v,cs[j]? = some v→W.cell? (a.add j)=some v) (hn:o+cs.length≤vs.length) (h1:∀ v ∈ cs,v.oneCell'=true) :
  (Builtin.copy_ #[t,t'] ty #[.slice (some ⟨g,o,none⟩) dLen dCap,.slice (some a) sLen sCap]).run P W = .ok (goInt (Nat.min sLen dLen)) (W.setCells g o cs):=by
 have hs:=zeu (P:=P) hg hn h1;have hlc:=run_loadCells_list (P:=P) W a cs hsrc
 cases hq:P.info? e with
 | none=>simp [hq] at hsz
 | some i =>
  have hi:i.size=sz:=by simpa [hq] using hsz
  simp [Builtin.copy_,run_underlying ht,Builtin.lenOf,Builtin.firstCells,sizeOf,typeInfo,hq,hi,← hl,hlc,hs]
end
theorem z0j0 {pre mid post us:List Value} {o:Nat} (ho:o=pre.length) (h:us.length=mid.length):z1w (pre++mid++post) o us=pre++us++post:=by subst ho;exact zk7 us pre mid post h
theorem z8m {vs us:List Value} {o:Nat} (h:o+us.length≤vs.length):z1w vs o us=vs.take o++us++vs.drop (o+us.length):=by
 have e:vs=vs.take o++(vs.drop o).take us.length++vs.drop (o+us.length):=by
  rw [zY1c,← List.drop_drop,zY0y,zY0y]
 have h1:o=(vs.take o).length:=by rw [zY0e];omega
 have h2:us.length=((vs.drop o).take us.length).length:=by rw [zY0e,zY0z];omega
 conv=>lhs;rw [e]
 exact z0j0 h1 h2
theorem zht {sz:Nat}:∀ {xs:List (List Dt)},(∀ x ∈ xs,x.length=sz)→xs.flatten.length=xs.length * sz
 | [],_=>by simp
 | x::xs,h=>by rw [zY1o,zY04,h x (zY0p ..),zht fun y hy=>h y (zY0n _ hy),zY0c,zY21,Nat.add_comm]
theorem zft {sz:Nat}:∀ {xs:List (List Dt)} (i:Nat),(∀ x ∈ xs,x.length=sz)→(xs.take i).flatten=xs.flatten.take (i * sz)
 | [],i,_=>by simp
 | x::xs,0,_=>by simp
 | x::xs,i+1,h=>by
  have hx:=h x (zY0p ..);rw [zY3o,zY1o,zY1o,zft i fun y hy=>h y (zY0n _ hy),List.take_append,hx,zY0t (show x.length≤(i+1) * sz by rw [hx,zY21];omega),zY21,zY2u]
theorem zns {sz:Nat} {xs:List (List Dt)} (i:Nat) (h:∀ x ∈ xs,x.length=sz):(xs.drop i).flatten=xs.flatten.drop (i * sz):=by
 have e:xs.flatten=(xs.take i).flatten++(xs.drop i).flatten:=by rw [← zY2o,zY0y]
 by_cases hi:i≤xs.length
 ·have h1:(xs.take i).flatten.length=i * sz:=by rw [zht fun y hy=>h y (zY2l hy),zY0e,zY28 hi]
  rw [e,← h1,List.drop_left]
 ·rw [zY27 (by omega),zY27]
  ·rfl
  ·rw [zht h];exact zY1r _ (by omega)
section
variable {P:Program}
theorem z0fn {α:Type} [Enc α] {f e sz:Nat} (hn:Enc.n α=sz) (hpos:0<sz) (hen:En P f) (zc:Array Value) (hzc:zc.size=sz)
  (h0:∀ (W:World) (A:Option Addr) (n cap i:Nat),i≤n→n≤cap→cap≤maxLen→Calls P f #[.slice A n cap,.int .i64 i,.int .i64 i] W fun r W'=>r = .returned (.slice A n cap)∧W'=W)
  (hw:∀ (W:World) (g n cap i j:Nat) (vs:List Value),W.heap[g]? = some (.cells vs.toArray e (0,0))→n≤cap→cap≤maxLen→vs.length=cap * sz→(∀ u ∈ vs.take (n * sz),u.oneCell'=true)→i<j→j≤n →
   Calls P f #[.slice (some ⟨g,0,none⟩) n cap,.int .i64 i,.int .i64 j] W fun r W'=>r = .returned (.slice (some ⟨g,0,none⟩) (n - (j - i)) cap)∧W'=((W.drewN 1).setCells g (i * sz) ((vs.take (n * sz)).drop (j * sz))).setCells g ((i+(n - j)) * sz) (Builtin.zeroCells zc (j - i)).toList) :
  Meets P (spD (fun x:List α × Int × Int=>0≤x.2.1∧x.2.1≤x.2.2∧x.2.2≤x.1.length) fun x=>x.1.take x.2.1.toNat++x.1.drop x.2.2.toNat) f ⟨[.mine e sz,.one,.one],[(false,[.fresh e sz])],false⟩:=by
 refine ⟨fun h=>(by cases h),?_⟩;intro e' sz' ps hps;injection hps with h1 h2
 injection h1 with h1 h1'
 subst h1;subst h1';subst h2;intro W F base v xs cells ds args rs hF hbase hvF hxs hown hreps hargs hsp;obtain ⟨⟨l,i,j⟩,⟨hi0,hij,hjl⟩,he,rfl⟩:=zp hsp;have he':Dt.l sz xs::ds=Dt.l (Enc.n α) (l.map Enc.e)::[I i,I j]:=he;injection he' with g1 g2
 injection g1 with g3 g1
 subst g2;subst g1;simp only at hi0 hij hjl;obtain ⟨va,vas,rfl,ha,hargs⟩:=z1q hargs;obtain ⟨vb,vbs,rfl,hb,hargs⟩:=z1q hargs;obtain rfl:=z30 hargs;obtain ⟨rfl,_⟩:=z33 ha;obtain ⟨rfl,_⟩:=z33 hb;obtain ⟨a,rfl⟩:∃ a:Nat,i=a:=⟨i.toNat,by omega⟩
 obtain ⟨b,rfl⟩:∃ b:Nat,j=b:=⟨j.toNat,by omega⟩
 have hlen:(l.map Enc.e).length=l.length:=zY0v _;rw [hlen] at hown;refine ⟨(l.take a++l.drop b).map Enc.e,?_,fun x hx=>hxs x ?_,?_⟩
 ·show [Dt.l (Enc.n α) _]=_
  rw [hn];rfl
 ·rw [zY1x,List.map_take,List.map_drop] at hx
  rcases zY11.1 hx with hx|hx
  ·exact zY2l hx
  ·exact zY2c hx
 by_cases hab:a=b
 ·subst hab
  have hsame:l.take a++l.drop a=l:=zY0y ..;simp only [zY2k,hsame];have hv:∃ A cap,v = .slice A l.length cap∧l.length≤cap∧cap≤maxLen:=by
   rcases hown.2 with ⟨rfl,h0⟩|⟨g,cap,cur,rfl,_,_,h1,h2,_⟩
   ·exact ⟨none,0,by rw [h0],by omega,by unfold maxLen;omega⟩
   ·exact ⟨_,cap,rfl,h1,h2⟩
  obtain ⟨A,cap,rfl,h1,h2⟩:=hv;refine .inl ⟨hen.run _ _,(h0 W A l.length cap a (by omega) h1 h2).mono ?_⟩;rintro r W' ⟨rfl,rfl⟩;exact ⟨_,rfl,_,cells,⟨fun h=>(by cases h),fun _=>rfl⟩,World.grownBy.refl _ _,by rw [hlen];exact hown,hreps,fun _ h=>.inl h⟩
 ·rcases hown.2 with ⟨rfl,h0⟩|⟨g,cap,cur,rfl,hbg,hg,h1,h2,hcs,htk⟩
  ·omega
  ·have hkeep:=hown
   have hml:cells.length=l.length * sz:=hown.1;have hcs':cur.toList.length=cap * sz:=by simpa using hcs
   have hones:∀ u ∈ cur.toList.take (l.length * sz),u.oneCell'=true:=by rw [htk];exact hreps.one
   refine .inl ⟨hen.run _ _,(hw W g l.length cap a b cur.toList (by simpa using hg) h1 h2 hcs' hones (by omega) (by omega)).mono ?_⟩;rintro r W' ⟨rfl,rfl⟩;have hgF:¬ F g:=hvF g rfl;generalize hW1:(W.drewN 1).setCells g (a * sz) ((cur.toList.take (l.length * sz)).drop (b * sz))=W1;have hg0:(W.drewN 1).heap[g]? = some (.cells cur.toList.toArray e (0,0)):=by simpa using hg
   have hnl:((cur.toList.take (l.length * sz)).drop (b * sz)).length=(l.length - b) * sz:=by
    rw [htk,zY0z,hml,Nat.sub_mul]
   have hzl:(Builtin.zeroCells zc (b - a)).toList.length=(b - a) * sz:=by simp [Builtin.zeroCells,hzc]
   have hg1:=z25 ((cur.toList.take (l.length * sz)).drop (b * sz)) (a * sz) (W.drewN 1) cur.toList hg0;rw [hW1] at hg1;have hg2:=z25 (Builtin.zeroCells zc (b - a)).toList ((a+(l.length - b)) * sz) W1 _ hg1;have hmul1:a * sz+(l.length - b) * sz=(a+(l.length - b)) * sz:=(Nat.add_mul ..).symm;have hle1:(a+(l.length - b)) * sz≤cap * sz:=zY1r _ (by omega);have hle2:(a+(l.length - b)) * sz+(b - a) * sz≤cap * sz:=by rw [← Nat.add_mul];exact zY1r _ (by omega)
   have hle3:a * sz≤l.length * sz:=zY1r _ (by omega);have hle4:l.length * sz≤cap * sz:=zY1r _ h1;have hfar:∀ k,k≠g→(W1.setCells g ((a+(l.length - b)) * sz) (Builtin.zeroCells zc (b - a)).toList).heap[k]? = W.heap[k]?:=by
    intro k hk;rw [z2c g _ _ _ k hk,← hW1,z2c g _ _ _ k hk];rfl
   refine ⟨_,rfl,_,cells.take (a * sz)++cells.drop (b * sz),⟨fun h=>(by cases h),fun _=>rfl⟩,?_,?_,?_,fun _ h=>.inl h⟩
   ·obtain ⟨k1,k2,k3,k4⟩:=z3q g (Builtin.zeroCells zc (b - a)).toList ((a+(l.length - b)) * sz) W1
    obtain ⟨q1,q2,q3,q4⟩:=z3q g ((cur.toList.take (l.length * sz)).drop (b * sz)) (a * sz) (W.drewN 1);rw [hW1] at q1 q2 q3 q4;refine ⟨k1.trans q1,k2.trans q2,k3.trans q3,?_,fun k hk hne=>hfar k fun h=>hne (by rw [h];rfl)⟩;rw [k4,q4];exact zY0h _
   ·have hl2:((l.take a++l.drop b).map (Enc.e (α:=α))).length=a+(l.length - b):=by
     rw [zY0v,zY04,zY0e,zY0z];omega
    rw [hl2];refine ⟨?_,.inr ⟨g,cap,_,by rw [show l.length - (b - a)=a+(l.length - b) by omega],hbg,hg2,by omega,h2,?_,?_⟩⟩
    ·rw [zY04,zY0e,zY0z,hml,zY28 hle3,← Nat.sub_mul,hmul1]
    ·rw [zY2j,z22,z22];exact hcs'
    ·rw [zY31,z8m (by rw [z22,hzl];omega),zY1c,zY1y (by rw [zY0e,z22];omega),zY38,Nat.min_self,z8m (by rw [hnl];omega),zY1y (by rw [zY04,zY0e,hnl];omega),zY0t (by rw [zY04,zY0e,hnl];omega),htk]
     congr 1;rw [← htk,zY38,zY28 hle3]
   ·rw [zY1x,List.map_take,List.map_drop,zY2o,zft a hxs,zns b hxs]
    have hag:Agree F W (W1.setCells g ((a+(l.length - b)) * sz) (Builtin.zeroCells zc (b - a)).toList):=fun k hk=>hfar k fun h=>hgF (h ▸ hk)
    exact ((hreps.take (a * sz)).append (hreps.drop (b * sz))).mono hag (fun _ h=>h)
theorem z020 {tS tR e sz:Nat} {W:World} (ht:P.underlying tS=some (.slice e)) (hz:∀ w,(sizeOf e).run P w = .ok sz w) {g o b off la ca lb cb t:Nat} {vs:List Value} (hg:W.heap[g]? = some (.cells vs.toArray t (0,0))) (hvs:0<vs.length) (hne:b≠g) {u:Value} (hb:W.cell? ⟨b,off,none⟩=some u) :
  (Extern.SlicesOverlaps.overlaps #[tS,tS] #[tR] #[.slice (some ⟨b,off,none⟩) la ca,.slice (some ⟨g,o,none⟩) lb cb]).run P W = .ok (.bool false) W:=by
 have hnb:(b != g)=true:=by simpa using hne
 have hnb':(b == g)=false:=by simpa using hne
 obtain ⟨arr,tb,fr,hbh,hsz⟩:∃ arr tb fr,W.heap[b]? = some (.cells arr tb fr)∧0<arr.size:=by
  unfold World.cell? at hb
  split at hb
  ·rename_i arr tb fr h
   simp at hb;obtain ⟨hlt,_⟩:=zY17.1 hb;exact ⟨arr,tb,fr,h,by omega⟩
  ·cases hb
 have hsa:W.shape? b=some (tb,arr.size):=by simp [World.shape?,hbh]
 have hsb:W.shape? g=some (t,vs.length):=by simp [World.shape?,hg]
 have hfg:∀ k,W.frozen? ⟨g,k,none⟩=false:=fun k=>by simp [World.frozen?,hg]
 obtain ⟨n1,hn1⟩:∃ n,arr.size=n+1:=⟨arr.size - 1,by omega⟩
 obtain ⟨n2,hn2⟩:∃ n,vs.length=n+1:=⟨vs.length - 1,by omega⟩
 rw [hn1] at hsa;rw [hn2] at hsb;change Sem.run P (α:=Value) (do
  let some t:=(#[tS,tS]:Array TypeId)[0]? | stuck "slices.overlaps: no parameter types"
  let .slice elem ← underlying t|stuck "slices.overlaps: slice type expected"
  let size ← sizeOf elem
  match (some ⟨b,off,none⟩:Option Addr),(some ⟨g,o,none⟩:Option Addr) with
  | some a,some b =>
   if la=0∨lb=0∨size=0 then pure (Value.bool false)
   else if a.block != b.block && (← frozen a) && (← frozen b) then unsupported .addressObserved
   else do
    if a.block != b.block then do
     noView a;noView b
     if ← mayBeOne a b then return Value.bool ((← choose (.extern "sameAddr.stringBytes" 2)) == 1)
    pure (Value.bool (a.block == b.block && a.off<b.off+lb * size && b.off<a.off+la * size))
  | _,_=>pure (Value.bool false)) W=_
 by_cases h0:la=0∨lb=0∨sz=0
 ·simp [run_underlying ht,hz,h0]
 ·cases hf1:W.frozen? ⟨b,off,none⟩ <;> cases hf2:W.frozen? ⟨b,n1+1,none⟩ <;>
   simp [run_underlying ht,hz,h0,hnb,hnb',frozen,noView,viewAt,mayBeOne,stringish,shape,Sem.run,hsa,hsb,hfg,hf1,hf2]
theorem zjo {W:World} {b k:Nat} {v:Value} (o:Obj) (h:W.cell? ⟨b,k,none⟩=some v):(W.alloc o).cell? ⟨b,k,none⟩=some v:=by
 have hlt:b<W.heap.size:=by
  rcases zY1w b W.heap.size with h'|h'
  ·exact h'
  ·simp [World.cell?,zY14 h'] at h
 rw [← h];simp only [World.cell?,World.alloc,zY3p,Nat.ne_of_lt hlt,if_false]
theorem z0fo {W:World} {g o b k:Nat} {us:List Value} (h:b≠g):(W.setCells g o us).cell? ⟨b,k,none⟩=W.cell? ⟨b,k,none⟩:=by
 simp only [World.cell?,z2c g us o W b h]
theorem z0fp {W:World} {o:Oper} {a:Act} {K:Act→World→Prop} {Q:Exit→Act→World→Prop} (d s:Operand) (t t':TypeId)
  (ho:o.op = .call { callee:=.builtin .copy,args:=#[d,s],argTypes:=#[t,t'] }) (v u:Value) (hd:a.eval d=v) (hs:a.eval s=u) {v':Value} {w':World}
  (hr:(Builtin.copy_ #[t,t'] o.type #[v,u]).run P W = .ok v' w') (h:K (a.put o.dst v') w'):o.wp P a W K Q:=by
 unfold Oper.wp execOp;simp only [ho,resolve,invoke,builtin,Sem.run_bind,Sem.run_pure,Result.andThen_ok,zY3d,zY1m,zY2e,hd,hs,hr];exact h
theorem zu0 {W:World} {ops:Array Oper} {rest:List Oper} {o:Oper} {a:Act} {Q:Exit→Act→World→Prop} (hgd:o.guard=none) (d s:Operand) (t t':TypeId)
  (ho:o.op = .call { callee:=.builtin .copy,args:=#[d,s],argTypes:=#[t,t'] }) (v u:Value) (hd:a.eval d=v) (hs:a.eval s=u) {v':Value} {w':World}
  (hr:(Builtin.copy_ #[t,t'] o.type #[v,u]).run P W = .ok v' w') (h:wpList P ops Q rest (a.put o.dst v') w'):wpList P ops Q (o::rest) a W :=
 wpList_plain hgd fun _ hK=>z0fp d s t t' ho v u hd hs hr (hK _ _ h)
theorem zjp {ops:Array Oper} {o:Oper} {a:Act} {W:World} {K:Act→World→Prop} {Q:Exit→Act→World→Prop} {E:Prop}
  (hg:o.guard=none) (d x:Operand) (dT sT:TypeId) (hop:o.op=Op.call { callee:=Callee.builtin Builtin.copy,args:=#[d,x],argTypes:=#[dT,sT] })
  (v u:Value) (hd:a.eval d=v) (hx:a.eval x=u) {v':Value} {w':World} (hr:(Builtin.copy_ #[dT,sT] o.type #[v,u]).run P W = .ok v' w') (hK:K (a.put o.dst v') w') :
  if Region.wanted o (yielded ops a.tmps)=true then Oper.wp P o a W K Q else E:=by
 have hw:Region.wanted o (yielded ops a.tmps)=true:=by simp [Region.wanted,hg]
 rw [if_pos hw];unfold Oper.wp;simp [execOp,hop,resolve,invoke,builtin,hd,hx,hr,Result.andThen];exact hK
theorem z0fq {α:Type} [Enc α] {f e sz:Nat} (hn:Enc.n α=sz) (hpos:0<sz) (hen:En P f)
  (hroom:∀ (W:World) (g n cap i b off c:Nat) (vs cs:List Value),W.heap[g]? = some (.cells vs.toArray e (0,0))→n<cap→cap≤maxLen→vs.length=cap * sz→(∀ u ∈ vs.take (n * sz),u.oneCell'=true)→i<n→b≠g→cs.length=sz→(∀ j v,cs[j]? = some v→W.cell? ⟨b,off+j,none⟩=some v)→(∀ v ∈ cs,v.oneCell'=true) →
   Calls P f #[.slice (some ⟨g,0,none⟩) n cap,.int .i64 i,.slice (some ⟨b,off,none⟩) 1 c] W fun r W'=>r = .returned (.slice (some ⟨g,0,none⟩) (n+1) cap)∧W'=((W.drewN 1).setCells g ((i+1) * sz) ((vs.take (n * sz)).drop (i * sz))).setCells g (i * sz) cs)
  (hend:∀ (W:World) (base:Nat) (v:Value) (n b off c:Nat) (olds cs:List Value),W.ownsRow base e sz v n olds→base≤W.heap.size→n≤1000000→cs.length=sz→(∀ j v,cs[j]? = some v→W.cell? ⟨b,off+j,none⟩=some v)→(∀ v ∈ cs,v.oneCell'=true) →
   Calls P f #[v,.int .i64 n,.slice (some ⟨b,off,none⟩) 1 c] W fun r W'=>∃ v',r = .returned v'∧W'.ownsRow base e sz v' (n+1) (olds++cs)∧W.grownBy W' v.ownBlock∧(v'.ownBlock=v.ownBlock∨v'.ownBlock=some W.heap.size))
  (hgrow:∀ (W:World) (g n cap i b off c:Nat) (vs cs:List Value),W.heap[g]? = some (.cells vs.toArray e (0,0))→n=cap→n≤1000000→vs.length=cap * sz→(∀ u ∈ vs.take (n * sz),u.oneCell'=true)→i<n→cs.length=sz→(∀ j v,cs[j]? = some v→W.cell? ⟨b,off+j,none⟩=some v)→(∀ v ∈ cs,v.oneCell'=true) →
   Calls P f #[.slice (some ⟨g,0,none⟩) n cap,.int .i64 i,.slice (some ⟨b,off,none⟩) 1 c] W fun r W'=>∃ G,∃ row:List Value,n+1≤G∧G≤maxLen∧row.length=G * sz∧r = .returned (.slice (some ⟨W.heap.size,0,none⟩) (n+1) G)∧(∀ u ∈ row.take (i * sz),u.oneCell'=true)∧row.take (i * sz)=vs.take (i * sz) ∧
    W'=(((W.alloc (.cells row.toArray e)).drew.setCells W.heap.size (i * sz) cs).drew).setCells W.heap.size ((i+1) * sz) ((vs.take (n * sz)).drop (i * sz))) :
  Meets P (spD (fun x:List α × Int × List α=>0≤x.2.1∧x.2.1≤x.1.length∧x.1.length≤1000000∧x.2.2.length=1) fun x=>x.1.take x.2.1.toNat++x.2.2++x.1.drop x.2.1.toNat) f ⟨[.mine e sz,.one,.one],[(false,[.fresh e sz])],false⟩:=by
 refine ⟨fun h=>(by cases h),?_⟩;intro e' sz' ps hps;injection hps with h1 h2
 injection h1 with h1 h1'
 subst h1;subst h1';subst h2;intro W F base v xs cells ds args rs hF hbase hvF hxs hown hreps hargs hsp;obtain ⟨⟨l,i,ys⟩,⟨hi0,hil,hlm,hy1⟩,he,rfl⟩:=zp hsp;have he':Dt.l sz xs::ds=Dt.l (Enc.n α) (l.map Enc.e)::[I i,.l (Enc.n α) (ys.map Enc.e)]:=he;injection he' with g1 g2
 injection g1 with g3 g1
 subst g2;subst g1;simp only at hi0 hil hlm hy1;obtain ⟨y,rfl⟩:=List.length_eq_one_iff.1 hy1;obtain ⟨va,vas,rfl,ha,hargs⟩:=z1q hargs;obtain ⟨vb,vbs,rfl,hb,hargs⟩:=z1q hargs;obtain rfl:=z30 hargs;obtain ⟨rfl,_⟩:=z33 ha;obtain ⟨a,rfl⟩:∃ a:Nat,i=a:=⟨i.toNat,by omega⟩
 have hlen:(l.map Enc.e).length=l.length:=zY0v _;have hyl:(Enc.e y).length=sz:=by rw [Enc.len,hn]
 rw [hlen] at hown;have hml:cells.length=l.length * sz:=hown.1;obtain ⟨b,off,c,cs,rfl,hFb,hcl,hcell,hcr⟩:∃ b off c,∃ cs:List Value,vb = .slice (some ⟨b,off,none⟩) 1 c∧F b∧cs.length=sz∧(∀ j v,cs[j]? = some v→W.cell? ⟨b,off+j,none⟩=some v)∧Reps W F (Enc.e y) cs:=by
  generalize hd:Dt.l (Enc.n α) ([y].map Enc.e)=d at hb
  cases hb with
  | l sz0 zs A n c b o vs k0 k1 k2 k3 k4 k5 k6 =>
   injection hd with e1 e2
   subst e2;obtain ⟨rfl,hFb⟩:=k4 (by simp);refine ⟨b,o,c,(List.range sz).map (vs 0),by rw [k0];rfl,hFb,by simp,fun j v hv=>?_,Reps.of (by simp [hyl]) fun j d v hd hv=>?_⟩
   ·obtain ⟨hj,rfl⟩:=z2n hv
    have h:=k5 0 j (Enc.e y) _ rfl (zY03 (by omega))
    rwa [Nat.zero_mul,zY2b] at h
   ·obtain ⟨hj,rfl⟩:=z2n hv
    exact k6 0 j (Enc.e y) d rfl hd
  | _=>cases hd
 have hc1:∀ v ∈ cs,v.oneCell'=true:=hcr.one;refine ⟨(l.take a++[y]++l.drop a).map Enc.e,?_,fun x hx=>?_,?_⟩
 ·show [Dt.l (Enc.n α) _]=_
  rw [hn];rfl
 ·obtain ⟨z,_,rfl⟩:=zY2g.1 hx
  rw [Enc.len,hn]
 have hl2:((l.take a++[y]++l.drop a).map (Enc.e (α:=α))).length=l.length+1:=by
  rw [zY0v,zY04,zY04,zY0e,zY0z,zY1f];omega
 have hflat:((l.take a++[y]++l.drop a).map (Enc.e (α:=α))).flatten=(l.map Enc.e).flatten.take (a * sz)++Enc.e y++(l.map Enc.e).flatten.drop (a * sz):=by
  rw [zY1x,zY1x,List.map_take,List.map_drop,zY2o,zY2o,zft a hxs,zns a hxs];simp
 rw [hl2,hflat];have hle3:a * sz≤l.length * sz:=zY1r _ (by omega);have hnew:∀ {W':World},Agree F W W'→Reps W' F ((l.map Enc.e).flatten.take (a * sz)++Enc.e y++(l.map Enc.e).flatten.drop (a * sz)) (cells.take (a * sz)++cs++cells.drop (a * sz)):=fun hag=>(((hreps.take (a * sz)).append hcr).append (hreps.drop (a * sz))).mono hag (fun _ h=>h)
 have hnl:(cells.take (a * sz)++cs++cells.drop (a * sz)).length=(l.length+1) * sz:=by
  rw [zY04,zY04,zY0e,zY0z,hcl,hml,zY28 hle3,zY21];omega
 by_cases hend':a=l.length
 ·subst hend'
  refine .inl ⟨hen.run _ _,(hend W base v l.length b off c cells cs hown hbase (by omega) hcl hcell hc1).mono ?_⟩;rintro r W' ⟨v',rfl,q1,q2,q3⟩;have hag:Agree F W W':=fun k hk=>q2.block k (hF.1 k hk) fun h=>hvF k h.symm hk
  refine ⟨_,rfl,v',_,⟨fun h=>(by cases h),fun _=>rfl⟩,q2,?_,hnew hag,fun k hk=>?_⟩
  ·rw [zY0t (by omega),zY27 (by omega),zY1e];exact q1
  ·rcases q3 with q3|q3
   ·exact .inl (q3 ▸ hk)
   ·rw [q3] at hk;injection hk with hk;exact .inr (Nat.le_of_eq hk)
 ·rcases hown.2 with ⟨rfl,h0⟩|⟨g,cap,cur,rfl,hbg,hg,h1,h2,hcs,htk⟩
  ·omega
  ·have hcs':cur.toList.length=cap * sz:=by simpa using hcs
   have hones:∀ u ∈ cur.toList.take (l.length * sz),u.oneCell'=true:=by rw [htk];exact hreps.one
   have hgF:¬ F g:=hvF g rfl;have hbg':b≠g:=fun h=>hgF (h ▸ hFb)
   have hg':W.heap[g]? = some (.cells cur.toList.toArray e (0,0)):=by simpa using hg
   have hal:a<l.length:=by omega
   have hmvl:((cur.toList.take (l.length * sz)).drop (a * sz)).length=(l.length - a) * sz:=by rw [htk,zY0z,hml,Nat.sub_mul]
   have e1:(a+1) * sz=a * sz+sz:=zY21 ..;have e2:(a+1) * sz+(l.length - a) * sz=(l.length+1) * sz:=by rw [← Nat.add_mul];congr 1;omega
   have hsplit:∀ vs':List Value,(l.length+1) * sz≤vs'.length→vs'.take (a * sz)=cells.take (a * sz)→(z1w (z1w vs' ((a+1) * sz) ((cur.toList.take (l.length * sz)).drop (a * sz))) (a * sz) cs).take ((l.length+1) * sz)=cells.take (a * sz)++cs++cells.drop (a * sz):=by
    intro vs' hl' ht';have k1:a * sz+cs.length≤(z1w vs' ((a+1) * sz) ((cur.toList.take (l.length * sz)).drop (a * sz))).length:=by rw [z22];omega
    rw [z8m k1,z8m (by rw [hmvl];omega),hcl,hmvl,e2,htk];have k2:(vs'.take ((a+1) * sz)++cells.drop (a * sz)++vs'.drop ((l.length+1) * sz)).take (a * sz)=cells.take (a * sz):=by
     rw [zY1c,zY1y (by rw [zY0e];omega),zY38,zY28 (by omega),ht']
    have k3:(vs'.take ((a+1) * sz)++cells.drop (a * sz)++vs'.drop ((l.length+1) * sz)).drop (a * sz+sz)=cells.drop (a * sz)++vs'.drop ((l.length+1) * sz):=by
     rw [zY1c,List.drop_append,zY27 (by rw [zY0e];omega),zY0e,zY28 (by omega),e1,Nat.sub_self,zY18,zY3g]
    rw [k2,k3,← zY1c,zY1y (by rw [hnl];omega),zY0t (by rw [hnl];omega)]
   rcases zY1w l.length cap with hr|hr
   ·have hcapm:(l.length+1) * sz≤cap * sz:=zY1r _ hr
    refine .inl ⟨hen.run _ _,(hroom W g l.length cap a b off c cur.toList cs hg' hr h2 hcs' hones hal hbg' hcl hcell hc1).mono ?_⟩;rintro r W' ⟨rfl,rfl⟩;have hfar:∀ k,k≠g→(((W.drewN 1).setCells g ((a+1) * sz) ((cur.toList.take (l.length * sz)).drop (a * sz))).setCells g (a * sz) cs).heap[k]? = W.heap[k]?:=by
     intro k hk;rw [z2c g _ _ _ k hk,z2c g _ _ _ k hk];rfl
    have hag:Agree F W (((W.drewN 1).setCells g ((a+1) * sz) ((cur.toList.take (l.length * sz)).drop (a * sz))).setCells g (a * sz) cs):=fun k hk=>hfar k fun h=>hgF (h ▸ hk)
    refine ⟨_,rfl,_,_,⟨fun h=>(by cases h),fun _=>rfl⟩,?_,⟨hnl,.inr ⟨g,cap,_,rfl,hbg,z25 cs (a * sz) _ _ (z25 _ ((a+1) * sz) (W.drewN 1) _ hg'),hr,h2,by rw [zY2j,z22,z22];exact hcs',?_⟩⟩,hnew hag,fun _ h=>.inl h⟩
    ·obtain ⟨k1,k2,k3,k4⟩:=z3q g cs (a * sz) ((W.drewN 1).setCells g ((a+1) * sz) ((cur.toList.take (l.length * sz)).drop (a * sz)))
     obtain ⟨q1,q2,q3,q4⟩:=z3q g ((cur.toList.take (l.length * sz)).drop (a * sz)) ((a+1) * sz) (W.drewN 1);exact ⟨k1.trans q1,k2.trans q2,k3.trans q3,by rw [k4,q4];exact zY0h _,fun k hk hne=>hfar k fun h=>hne (by rw [h];rfl)⟩
    ·rw [zY31]
     refine hsplit _ (by omega) ?_;rw [← htk,zY38,zY28 hle3]
   ·have hcap:l.length=cap:=by omega
    refine .inl ⟨hen.run _ _,(hgrow W g l.length cap a b off c cur.toList cs hg' hcap (by omega) hcs' hones hal hcl hcell hc1).mono ?_⟩;rintro r W' ⟨G,row,r1,r2,r3,rfl,r4,r5,rfl⟩;have hGm:(l.length+1) * sz≤G * sz:=zY1r _ r1;generalize hW0:(W.alloc (.cells row.toArray e)).drew=W0;have hs0:W0.heap.size=W.heap.size+1:=by rw [← hW0];show (W.heap.push _).size=_;simp
    have hn0:W0.heap[W.heap.size]? = some (.cells row.toArray e (0,0)):=by rw [← hW0];exact heap_alloc_new W _
    have ho0:∀ k,k<W.heap.size→W0.heap[k]? = W.heap[k]?:=fun k hk=>by
     rw [← hW0]
     show (W.alloc (.cells row.toArray e)).heap[k]? = _
     simp only [World.alloc,zY3p,Nat.ne_of_lt hk,if_false]
    have hfar:∀ k,k<W.heap.size→(((W0.setCells W.heap.size (a * sz) cs).drew).setCells W.heap.size ((a+1) * sz) ((cur.toList.take (l.length * sz)).drop (a * sz))).heap[k]? = W.heap[k]?:=by
     intro k hk;rw [z2c _ _ _ _ k (by omega)]
     show (W0.setCells W.heap.size (a * sz) cs).heap[k]? = _
     rw [z2c _ _ _ _ k (by omega),ho0 k hk]
    obtain ⟨z1,z2,z3⟩:W0.os=W.os∧W0.tape=W.tape∧W0.output=W.output:=by rw [← hW0];exact ⟨rfl,rfl,rfl⟩
    have hag:Agree F W (((W0.setCells W.heap.size (a * sz) cs).drew).setCells W.heap.size ((a+1) * sz) ((cur.toList.take (l.length * sz)).drop (a * sz))):=fun k hk=>hfar k (hF.1 k hk)
    have hheap:=z25 ((cur.toList.take (l.length * sz)).drop (a * sz)) ((a+1) * sz) ((W0.setCells W.heap.size (a * sz) cs).drew) _ (z25 cs (a * sz) W0 _ hn0);refine ⟨_,rfl,_,_,⟨fun h=>(by cases h),fun _=>rfl⟩,?_,⟨hnl,.inr ⟨W.heap.size,G,_,rfl,hbase,hheap,r1,r2,by rw [zY2j,z22,z22];exact r3,?_⟩⟩,hnew hag,fun k hk=>?_⟩
    ·obtain ⟨k1,k2,k3,k4⟩:=z3q W.heap.size ((cur.toList.take (l.length * sz)).drop (a * sz)) ((a+1) * sz) ((W0.setCells W.heap.size (a * sz) cs).drew)
     obtain ⟨q1,q2,q3,q4⟩:=z3q W.heap.size cs (a * sz) W0;refine ⟨k1.trans (q1.trans z1),k2.trans (q2.trans z2),k3.trans (q3.trans z3),?_,fun k hk hne=>hfar k hk⟩;rw [k4]
     show W.heap.size≤(W0.setCells W.heap.size (a * sz) cs).heap.size
     rw [q4,hs0];omega
    ·rw [zY31]
     have hswap:z1w (z1w row (a * sz) cs) ((a+1) * sz) ((cur.toList.take (l.length * sz)).drop (a * sz))=z1w (z1w row ((a+1) * sz) ((cur.toList.take (l.length * sz)).drop (a * sz))) (a * sz) cs:=by
      have hL:a * sz+cs.length≤row.length:=by omega
      have hR:(a+1) * sz+((cur.toList.take (l.length * sz)).drop (a * sz)).length≤row.length:=by rw [hmvl];omega
      rw [z8m (vs:=z1w row (a * sz) cs) (by rw [z22];exact hR),z8m hL,z8m (vs:=z1w row ((a+1) * sz) _) (by rw [z22];exact hL),z8m hR];have t1:(row.take (a * sz)++cs++row.drop (a * sz+cs.length)).take ((a+1) * sz)=row.take (a * sz)++cs:=by
       rw [zY1y (by rw [zY04,zY0e];omega),zY0t (by rw [zY04,zY0e];omega)]
      have t2:(row.take (a * sz)++cs++row.drop (a * sz+cs.length)).drop ((a+1) * sz+((cur.toList.take (l.length * sz)).drop (a * sz)).length)=row.drop ((a+1) * sz+((cur.toList.take (l.length * sz)).drop (a * sz)).length):=by
       rw [List.drop_append,zY27 (by rw [zY04,zY0e];omega),zY18,List.drop_drop];congr 1;rw [zY04,zY0e];omega
      have t3:(row.take ((a+1) * sz)++((cur.toList.take (l.length * sz)).drop (a * sz))++row.drop ((a+1) * sz+((cur.toList.take (l.length * sz)).drop (a * sz)).length)).take (a * sz)=row.take (a * sz):=by
       rw [zY1c,zY1y (by rw [zY0e];omega),zY38,zY28 (by omega)]
      have t4:(row.take ((a+1) * sz)++((cur.toList.take (l.length * sz)).drop (a * sz))++row.drop ((a+1) * sz+((cur.toList.take (l.length * sz)).drop (a * sz)).length)).drop (a * sz+cs.length)=((cur.toList.take (l.length * sz)).drop (a * sz))++row.drop ((a+1) * sz+((cur.toList.take (l.length * sz)).drop (a * sz)).length):=by
       rw [zY1c,List.drop_append,zY27 (by rw [zY0e];omega),zY18,zY0e,zY28 (by omega),hcl,e1,Nat.sub_self,zY3g]
      rw [t1,t2,t3,t4,zY1c,zY1c]
     rw [hswap];refine hsplit _ (by omega) ?_;rw [r5,← htk,zY38,zY28 hle3]
    ·simp only [Value.ownBlock,zY00] at hk
     exact .inr (Nat.le_of_eq hk)
end
end
section
open Go.RowKit
set_option maxRecDepth 100000
set_option maxHeartbeats 4000000
theorem z0j1 {W:World} {g n cap i j:Nat} {vs:List Value} (hg:W.heap[g]? = some (.cells vs.toArray 101 (0,0))) (hn:n≤cap) (hm:cap≤maxLen) (hcs:vs.length=cap * 6) (h1:∀ u ∈ vs.take (n * 6),u.oneCell'=true) (hij:i<j) (hj:j≤n) :
  Calls Tryz.prog 120 #[.slice (some ⟨g,0,none⟩) n cap,.int .i64 i,.int .i64 j] W fun e w'=>e = .returned (.slice (some ⟨g,0,none⟩) (n - (j - i)) cap) ∧
   w'=((W.drewN 1).setCells g (i * 6) ((vs.take (n * 6)).drop (j * 6))).setCells g ((i+(n - j)) * 6) (Builtin.zeroCells #[.int .i64 0,.int .i64 0,.int .i64 0,.slice none 0 0,.int .i64 0,.bool false] (j - i)).toList:=by
 have hm':cap≤9223372036854775807:=hm;obtain ⟨news,hnews⟩:∃ news,news=(vs.take (n * 6)).drop (j * 6):=⟨_,rfl⟩
 have hlen:news.length=(n - j) * 6:=by rw [hnews,zY0z,zY0e];omega
 have hg1:W.drew.heap[g]? = some (.cells vs.toArray 101 (0,0)):=hg;obtain ⟨A,hA,hsrc⟩:∃ A:Addr,(if cap=j then some (⟨g,0,none⟩:Addr) else some ⟨g,j * 6,none⟩)=some A∧Hid (∀ t u,news[t]? = some u→W.drew.cell? (A.add t)=some u):=by
  by_cases h:cap=j
  ·refine ⟨⟨g,0,none⟩,by simp [h],fun t u hu=>?_⟩
   have:=(zY02.1 hu).1;omega
  ·refine ⟨⟨g,j * 6,none⟩,by simp [h],fun t u hu=>?_⟩
   have ht:=(zY02.1 hu).1;rw [hnews,zY1t,zY19,if_pos (by omega)] at hu;rw [z6r,cell_of_row _ g _ _ 101 (0,0) hg1];simpa using hu
 have s1:Hid (news.length=(n - j) * 6):=hlen;have s2:Hid (∀ u ∈ news,u.oneCell'=true):=by
  intro u hu;rw [hnews] at hu;exact h1 u (zY2c hu)
 have s3:Hid (∀ t,t<news.length→(W.drew.cell? ⟨g,0+i * 6+t,none⟩).isSome=true∧W.drew.frozen? ⟨g,0+i * 6+t,none⟩=false):=by
  intro t ht;have:=zgk (fr:=(0,0)) hg1 (o:=0+i * 6) (n:=news.length) (by omega);exact this t ht
 obtain ⟨W1,hW1⟩:∃ W1,W1=W.drew.setCells g (0+i * 6) news:=⟨_,rfl⟩
 have hg2:W1.heap[g]? = some (.cells (z1w vs (0+i * 6) news).toArray 101 (0,0)):=by rw [hW1];exact z25 _ _ _ _ hg1
 have hcl:∀ ty,(Builtin.clear_ #[25] ty #[.slice (some ⟨g,(i+(n - j)) * 6,none⟩) (n - (i+(n - j))) (cap - (i+(n - j)))]).run Tryz.prog W1 = .ok (.tuple #[]) (W1.setCells g ((i+(n - j)) * 6) (Builtin.zeroCells #[.int .i64 0,.int .i64 0,.int .i64 0,.slice none 0 0,.int .i64 0,.bool false] (n - (i+(n - j)))).toList) :=
  fun ty=>z0fm (sz:=6) Tryz.underlying25 Tryz.zeroValue101 rfl (by simp [Value.cells,Value.oneCell']) hg2 (by rw [z22];omega)
 have hW:Hid (W1=W.drew.setCells g (0+i * 6) news):=hW1;have hic:i≤cap:=by omega
 have hjc:j≤cap:=by omega
 have hnews:=Lib.hid hnews;clear hW1 hg2 hg hg1 hlen;go_enter Tryz.func120,Tryz.ntmps120;go_wp2_with fail;obtain ⟨ht,ie,zv,he,hz0,hsz,hbz,hzs⟩:=zq0;go_region_law (refine step_append_room rfl (.tmp 22) (.tmp 25) 25 rfl 101 ie 6 ht he hsz g 0 i cap (by simp [Act.eval,Act.put]) A (n - j) (cap - j) news (by simp [Act.eval,Act.put,hA]) s1.out hsrc.out s2.out (by omega) s3.out ?_;rw [← hW.out]);go_wp2;go_ret;refine ⟨by rw [show n - (j - i)=i+(n - j) by omega];rfl,?_⟩;rw [hW.out,zY0x,hnews.out,show n - (i+(n - j))=j - i by omega];rfl
theorem z0j2 {W:World} {A:Option Addr} {n cap i:Nat} (hi:i≤n) (hn:n≤cap) (hm:cap≤maxLen):Calls Tryz.prog 120 #[.slice A n cap,.int .i64 i,.int .i64 i] W fun r W'=>r = .returned (.slice A n cap)∧W'=W:=by
 have hm':cap≤9223372036854775807:=hm;have hic:i≤cap:=by omega
 go_enter Tryz.func120,Tryz.ntmps120;go_wp2_with fail
 all_goals (go_ret;exact ⟨rfl,rfl⟩)
noncomputable def z48:zd:=spD (fun x:List Coin × Int × Int=>0≤x.2.1∧x.2.1≤x.2.2∧x.2.2≤x.1.length) fun x=>x.1.take x.2.1.toNat++x.1.drop x.2.2.toNat
theorem zhu:Meets Tryz.prog z48 120 ⟨[.mine 101 6,.one,.one],[(false,[.fresh 101 6])],false⟩ :=
 z0fn rfl (by decide) (z2t (fn:=Tryz.f120) (by kernel_rfl) (by kernel_rfl) (by kernel_rfl)) #[.int .i64 0,.int .i64 0,.int .i64 0,.slice none 0 0,.int .i64 0,.bool false] rfl (fun W A n cap i h1 h2 h3=>z0j2 h1 h2 h3) (fun W g n cap i j vs h1 h2 h3 h4 h5 h6 h7=>z0j1 h1 h2 h3 h4 h5 h6 h7)
end
section
open Go.RowKit
set_option maxRecDepth 100000
set_option maxHeartbeats 4000000
theorem z0j3 {W:World} {g o b off la ca lb cb:Nat} {vs:List Value} (hg:W.heap[g]? = some (.cells vs.toArray 101 (0,0))) (hvs:0<vs.length) (hne:b≠g) {u:Value} (hb:W.cell? ⟨b,off,none⟩=some u) :
  (callFunc 147 #[.slice (some ⟨b,off,none⟩) la ca,.slice (some ⟨g,o,none⟩) lb cb]).run Tryz.prog W = .ok (.value (.bool false)) W:=by
 rw [run_callFunc_extern Tryz.func147 (by kernel_rfl) (by kernel_rfl) (by kernel_rfl) (e:=Extern.SlicesOverlaps.overlaps #[25,25] #[4]) (by kernel_rfl),
  z020 (e:=101) (sz:=6) Tryz.underlying25 Tryz.sizeOf101 hg hvs hne hb]
 rfl
theorem z0j4 {W:World} {g n cap i b off c:Nat} {vs cs:List Value} (hg:W.heap[g]? = some (.cells vs.toArray 101 (0,0))) (hn:n<cap) (hm:cap≤maxLen) (hcs:vs.length=cap * 6) (h1:∀ u ∈ vs.take (n * 6),u.oneCell'=true) (hi:i<n) (hne:b≠g) (hcl:cs.length=6) (hb:∀ j v,cs[j]? = some v→W.cell? ⟨b,off+j,none⟩=some v) (h1c:∀ v ∈ cs,v.oneCell'=true) :
  Calls Tryz.prog 119 #[.slice (some ⟨g,0,none⟩) n cap,.int .i64 i,.slice (some ⟨b,off,none⟩) 1 c] W fun r W'=>r = .returned (.slice (some ⟨g,0,none⟩) (n+1) cap)∧W'=((W.drewN 1).setCells g ((i+1) * 6) ((vs.take (n * 6)).drop (i * 6))).setCells g (i * 6) cs:=by
 have hm':cap≤9223372036854775807:=hm;obtain ⟨mv,hmv⟩:∃ mv,mv=(vs.take (n * 6)).drop (i * 6):=⟨_,rfl⟩
 have hlen:mv.length=(n - i) * 6:=by rw [hmv,zY0z,zY0e];omega
 have hg1:W.drew.heap[g]? = some (.cells vs.toArray 101 (0,0)):=hg;obtain ⟨u0,hu0⟩:∃ u,W.cell? ⟨b,off,none⟩=some u:=by
  have h:=hb 0 (cs[0]'(by omega)) (zY03 (by omega));exact ⟨_,h⟩
 have hov:∀ lb cb,(callFunc 147 #[.slice (some ⟨b,off,none⟩) 1 c,.slice (some ⟨g,(i+1) * 6,none⟩) lb cb]).run Tryz.prog W = .ok (.value (.bool false)) W:=fun lb cb=>z0j3 hg (by omega) hne hu0
 have hsz:(Tryz.prog.info? 101).map (·.size)=some 6:=by kernel_rfl
 have hcp1:∀ ty dc sc,(Builtin.copy_ #[25,25] ty #[.slice (some ⟨g,(i+1) * 6,none⟩) (n - i) dc,.slice (some ⟨g,i * 6,none⟩) (n+1 - i) sc]).run Tryz.prog W.drew = .ok (goInt (Nat.min (n+1 - i) (n - i):Nat)) (W.drew.setCells g ((i+1) * 6) mv):=fun ty dc sc =>
  zfs Tryz.underlying25 hsz hg1 (by rw [hlen];show _=min _ _ * 6;rw [Nat.min_def];split <;> omega) (fun j v hj=>by
   rw [z6r,cell_of_row _ g _ _ 101 (0,0) hg1];have hlt:=(zY02.1 hj).1;rw [hmv,zY1t,zY19,if_pos (by omega)] at hj;simpa using hj) (by omega) (fun v hv=>h1 v (by rw [hmv] at hv;exact zY2c hv))
 obtain ⟨W1,hW1⟩:∃ W1,W1=W.drew.setCells g ((i+1) * 6) mv:=⟨_,rfl⟩
 have hg2:W1.heap[g]? = some (.cells (z1w vs ((i+1) * 6) mv).toArray 101 (0,0)):=by rw [hW1];exact z25 _ _ _ _ hg1
 have hcp2:∀ ty dc,(Builtin.copy_ #[25,25] ty #[.slice (some ⟨g,i * 6,none⟩) (n+1 - i) dc,.slice (some ⟨b,off,none⟩) 1 c]).run Tryz.prog W1 = .ok (goInt (Nat.min 1 (n+1 - i):Nat)) (W1.setCells g (i * 6) cs):=fun ty dc =>
  zfs Tryz.underlying25 hsz hg2 (by rw [hcl];show _=min _ _ * 6;rw [Nat.min_def];split <;> omega) (fun j v hj=>by
   rw [z6r,hW1,z0fo hne];exact hb j v hj) (by rw [z22];omega) h1c
 rw [← hW1] at hcp1;have hw1:IntKind.i64.wrap ((i:Int)+1)=(i:Int)+1:=by rw [IntKind.wrap_i64];omega
 have hw2:IntKind.i64.wrap ((n:Int)+1)=(n:Int)+1:=by rw [IntKind.wrap_i64];omega
 have hz2:¬ ((i:Int)=(n:Int)):=by omega
 have hp1:(i:Int)≤(n:Int)+1:=by omega
 have hp0:(0:Int)≤(i:Int)+1:=by omega
 have hb1:¬ (cap=i+1):=by omega
 have hb4:¬ (cap=i):=by omega
 have hin:i≤n:=by omega
 have hic:i≤cap:=by omega
 have hW:=Lib.hid hW1;have hmv':=Lib.hid hmv;clear hmv hlen hg hg1 hg2 hW1 hcs h1 hb h1c hcl hu0;go_enter Tryz.func119,Tryz.ntmps119;go_wp2_with (simp only [hov]);go_region_law (refine zjp rfl _ _ 25 25 rfl _ _ (by simp [Act.eval,Act.put]) (by simp [Act.eval,Act.put]) (hcp1 _ _ _) ?_);go_wp2_with (at_builtin;refine zu0 rfl _ _ 25 25 rfl _ _ rfl rfl (hcp2 _ _) ?_);go_ret;refine ⟨rfl,?_⟩;rw [hW.out,hmv'.out];rfl
theorem z0m0 {W:World} {base:Nat} {v:Value} {n b off c:Nat} {olds cs:List Value} (hown:W.ownsRow base 101 6 v n olds) (hbase:base≤W.heap.size) (hn:n≤1000000) (hcl:cs.length=6) (hb:∀ j v,cs[j]? = some v→W.cell? ⟨b,off+j,none⟩=some v) (h1c:∀ v ∈ cs,v.oneCell'=true) :
  Calls Tryz.prog 119 #[v,.int .i64 n,.slice (some ⟨b,off,none⟩) 1 c] W fun r W'=>∃ v',r = .returned v'∧W'.ownsRow base 101 6 v' (n+1) (olds++cs)∧W.grownBy W' v.ownBlock∧(v'.ownBlock=v.ownBlock∨v'.ownBlock=some W.heap.size):=by
 obtain ⟨ht,ie,zv,he,hz0,hsz,hbz,hzs⟩:=zq0;have hrun:∀ ty,∃ v' W',(Builtin.append_ #[25,25] ty #[v,.slice (some ⟨b,off,none⟩) 1 c]).run Tryz.prog W = .ok v' W'∧W'.ownsRow base 101 6 v' (n+1) (olds++cs)∧W.grownBy W' v.ownBlock∧(v'.ownBlock=v.ownBlock∨v'.ownBlock=some W.heap.size):=fun ty=>by
  obtain ⟨v',W',hr,h2,h3,_,h5⟩:=run_append_own_at (P:=Tryz.prog) W base 25 ty 101 ie zv 6 64 ht he hz0 hsz hbz hzs (by decide) v n olds hown ⟨b,off,none⟩ 1 c cs (by omega) (fun j u hj=>by rw [z6r];exact hb j u hj) h1c (by unfold maxLen;omega) (by omega) hbase;exact ⟨v',W',hr,h2,h3,h5⟩
 obtain ⟨v',W',hr,h2,h3,h4⟩:=hrun 25;have hv:∃ A cap,v = .slice A n cap∧n≤cap∧cap≤maxLen:=by
  rcases hown.2 with ⟨rfl,h0⟩|⟨g,cap,cur,rfl,_,_,h1,h2,_⟩
  ·exact ⟨none,0,by rw [h0],by omega,by unfold maxLen;omega⟩
  ·exact ⟨_,cap,rfl,h1,h2⟩
 obtain ⟨A,cap,rfl,hc1,hc2⟩:=hv;have hc3:cap≤9223372036854775807:=hc2;have R:=Lib.hid (And.intro h2 (And.intro h3 h4));clear h2 h3 h4 hown hrun hb h1c hcl hbase;go_enter Tryz.func119,Tryz.ntmps119;go_wp2_with (at_builtin;refine Lib.wpList_append_run _ rfl _ _ _ _ rfl _ _ rfl rfl _ _ hr ?_)
 all_goals (go_ret;have R':=R.out;first|exact ⟨v',rfl,R'⟩|(subst_vars;exact ⟨v',rfl,R'⟩))
theorem z0j5 {W:World} {g n cap i b off c:Nat} {vs cs:List Value} (hg:W.heap[g]? = some (.cells vs.toArray 101 (0,0))) (hn:n=cap) (hm:n≤1000000) (hcs:vs.length=cap * 6) (h1:∀ u ∈ vs.take (n * 6),u.oneCell'=true) (hi:i<n) (hcl:cs.length=6) (hb:∀ j v,cs[j]? = some v→W.cell? ⟨b,off+j,none⟩=some v) (h1c:∀ v ∈ cs,v.oneCell'=true) :
  Calls Tryz.prog 119 #[.slice (some ⟨g,0,none⟩) n cap,.int .i64 i,.slice (some ⟨b,off,none⟩) 1 c] W fun r W'=>∃ G,∃ row:List Value,n+1≤G∧G≤maxLen∧row.length=G * 6∧r = .returned (.slice (some ⟨W.heap.size,0,none⟩) (n+1) G)∧(∀ u ∈ row.take (i * 6),u.oneCell'=true)∧row.take (i * 6)=vs.take (i * 6) ∧
   W'=(((W.alloc (.cells row.toArray 101)).drew.setCells W.heap.size (i * 6) cs).drew).setCells W.heap.size ((i+1) * 6) ((vs.take (n * 6)).drop (i * 6)):=by
 obtain ⟨ht,ie,zv,he,hz0,hszI,hbz,hzs⟩:=zq0;have hz1:¬ ((1:Int)=0):=by decide
 have hz2:¬ ((i:Int)=(n:Int)):=by omega
 have hz3:(cap:Int)<(n:Int)+1:=by omega
 have hsz:(Tryz.prog.info? 101).map (·.size)=some 6:=by kernel_rfl
 have hgl:g<W.heap.size:=by
  rcases zY1w g W.heap.size with h|h
  ·exact h
  ·rw [zY14 h] at hg;cases hg
 have hbl:b<W.heap.size:=block_lt_of_cell (hb 0 _ (zY03 (by omega)));have hkk:(n:Int)+1 - (i:Int)=((n+1 - i:Nat):Int):=by omega
 have hik:i+(n+1 - i)=n+1:=by omega
 have hg1:W.drew.heap[g]? = some (.cells vs.toArray 101 (0,0)):=hg;have hold:(Builtin.firstCells ie.size i (.slice (some ⟨g,0,none⟩) i cap)).run Tryz.prog W.drew = .ok (vs.take (i * 6)).toArray W.drew:=by
  rw [hszI];exact run_firstCells_some W.drew 6 i ⟨g,0,none⟩ i cap (vs.take (i * 6)) (by rw [zY0e];omega) (fun j v hj=>by
   rw [z6r,cell_of_row _ g _ _ 101 (0,0) hg1];rw [zY19] at hj
   split at hj
   ·simpa using hj
   ·cases hj)
 have hrz:∀ ty,(Builtin.append_ #[25,3] ty #[.slice (some ⟨g,0,none⟩) i cap,.int .i64 ((n:Int)+1 - (i:Int))]).run Tryz.prog W =
   .ok (.slice (some ⟨W.heap.size,0,none⟩) (n+1) (grownCap W (n+1) cap 101)) (W.drew.alloc (.cells ((vs.take (i * 6)).toArray++Builtin.zeroCells zv.cells (n+1 - i)++Builtin.zeroCells zv.cells (grownCap W (n+1) cap 101 - (n+1))) 101)):=fun ty=>by
  have h:=Lib.run_append_grow_zeros W 25 3 ty 101 ie zv .i64 .i64 ht Tryz.underlying3 he hz0 (some ⟨g,0,none⟩) i cap (vs.take (i * 6)) hold (n+1 - i) (by omega) (by omega) (by omega) (by omega) (by rw [hbz];omega) (by rw [hbz,hik];exact growslice_fits (by omega) (by omega));rw [hik] at h;rw [hkk];exact h
 obtain ⟨G,hG⟩:∃ G,G=grownCap W (n+1) cap 101:=⟨_,rfl⟩
 obtain ⟨row,hrow⟩:∃ row:List Value,row=vs.take (i * 6)++(Builtin.zeroCells zv.cells (n+1 - i)).toList++(Builtin.zeroCells zv.cells (G - (n+1))).toList:=⟨_,rfl⟩
 have hrowA:row.toArray=(vs.take (i * 6)).toArray++Builtin.zeroCells zv.cells (n+1 - i)++Builtin.zeroCells zv.cells (G - (n+1)):=by rw [hrow];simp
 rw [← hG,← hrowA] at hrz;have hGn:n+1≤G:=by rw [hG];exact grownCap_ge W _ _ _
 have hGm:G≤maxLen:=by rw [hG];exact grownCap_le_maxLen W (n+1) cap 101 (by unfold maxLen;omega)
 have hG63:G≤9223372036854775807:=hGm;have hrl:row.length=G * 6:=by
  rw [hrow];simp only [zY04,zY0e,zY2d,Builtin.zeroCells,Array.size_map,Array.size_range,hzs];omega
 have hrt:row.take (i * 6)=vs.take (i * 6):=by
  rw [hrow,zY1c,zY1y (by rw [zY0e];omega),zY38,Nat.min_self]
 obtain ⟨mv,hmv⟩:∃ mv,mv=(vs.take (n * 6)).drop (i * 6):=⟨_,rfl⟩
 have hlen:mv.length=(n - i) * 6:=by rw [hmv,zY0z,zY0e];omega
 have hcpA:∀ (W':World),W'.heap[W.heap.size]? = some (.cells row.toArray 101 (0,0))→(∀ k v,W.cell? ⟨b,k,none⟩=some v→W'.cell? ⟨b,k,none⟩=some v)→∀ ty dc,(Builtin.copy_ #[25,25] ty #[.slice (some ⟨W.heap.size,i * 6,none⟩) (n+1 - i) dc,.slice (some ⟨b,off,none⟩) 1 c]).run Tryz.prog W' = .ok (goInt (Nat.min 1 (n+1 - i):Nat)) (W'.setCells W.heap.size (i * 6) cs):=fun W' h1' h2' ty dc =>
  zfs ht hsz h1' (by rw [hcl];show _=min _ _ * 6;rw [Nat.min_def];split <;> omega) (fun j v hj=>by rw [z6r];exact h2' _ v (hb j v hj)) (by omega) h1c
 have hcpB:∀ (W':World) (vs':List Value),vs'.length=G * 6→W'.heap[W.heap.size]? = some (.cells vs'.toArray 101 (0,0))→W'.heap[g]? = some (.cells vs.toArray 101 (0,0))→∀ ty dc sc,(Builtin.copy_ #[25,25] ty #[.slice (some ⟨W.heap.size,(i+1) * 6,none⟩) (n - i) dc,.slice (some ⟨g,i * 6,none⟩) (n - i) sc]).run Tryz.prog W' = .ok (goInt (Nat.min (n - i) (n - i):Nat)) (W'.setCells W.heap.size ((i+1) * 6) mv):=fun W' vs' hl' h1' h2' ty dc sc =>
  zfs ht hsz h1' (by rw [hlen];show _=min _ _ * 6;rw [Nat.min_def];split <;> omega) (fun j v hj=>by
   rw [z6r,cell_of_row _ g _ _ 101 (0,0) h2'];have hlt:=(zY02.1 hj).1;rw [hmv,zY1t,zY19,if_pos (by omega)] at hj;simpa using hj) (by omega) (fun v hv=>h1 v (by rw [hmv] at hv;exact zY2c hv))
 have hA:=hcpA ((W.alloc (.cells row.toArray 101)).drew) (heap_alloc_new W _) (fun k v h=>zjo _ h);have hA':=hcpA (W.drew.alloc (.cells row.toArray 101)) (heap_alloc_new W.drew _) (fun k v h=>zjo (W:=W.drew) _ h);have hgold:(W.alloc (.cells row.toArray 101)).heap[g]? = some (.cells vs.toArray 101 (0,0)):=by
  have:(W.alloc (.cells row.toArray 101)).heap[g]? = W.heap[g]?:=by simp only [World.alloc,zY3p,Nat.ne_of_lt hgl,if_false]
  rw [this];exact hg
 have hB:=hcpB (((W.alloc (.cells row.toArray 101)).drew.setCells W.heap.size (i * 6) cs).drew) (z1w row (i * 6) cs) (by rw [z22,hrl]) (z25 _ _ (W.alloc (.cells row.toArray 101)).drew _ (heap_alloc_new W _)) (by
  show ((W.alloc (.cells row.toArray 101)).drew.setCells W.heap.size (i * 6) cs).heap[g]? = _
  rw [z2c _ _ _ _ _ (by omega)];exact hgold)
 have hw1:IntKind.i64.wrap ((i:Int)+1)=(i:Int)+1:=by rw [IntKind.wrap_i64];omega
 have hw2:IntKind.i64.wrap ((n:Int)+1)=(n:Int)+1:=by rw [IntKind.wrap_i64];omega
 have hp1:(i:Int)≤(n:Int)+1:=by omega
 have hp0:(0:Int)≤(i:Int)+1:=by omega
 have hGi:¬ (G=i):=by omega
 have hGi1:¬ (G=i+1):=by omega
 have hci:¬ (cap=i):=by omega
 have hin:i≤n:=by omega
 have R:Hid (n+1≤G∧G≤maxLen∧row.length=G * 6∧(∀ u ∈ row.take (i * 6),u.oneCell'=true)∧row.take (i * 6)=vs.take (i * 6)∧mv=(vs.take (n * 6)).drop (i * 6)):=Lib.hid ⟨hGn,hGm,hrl,fun u hu=>h1 u (by rw [hrt] at hu;exact (List.take_sublist_take_left (by omega)).subset hu),hrt,hmv⟩;have hic:i≤cap:=by omega
 have hn':=Lib.hid hn;clear hn hmv hlen hg hg1 hgold hcs h1 hb h1c hcl hcpA hcpB hrt hrl hrow hrowA hG hGm hold hkk hik;go_enter Tryz.func119,Tryz.ntmps119;go_wp2_with ((at_builtin;refine Lib.wpList_append_run _ rfl _ _ _ _ rfl _ _ rfl rfl _ _ (hrz _) ?_));go_region_law (refine zjp rfl _ _ 25 25 rfl _ _ (by simp [Act.eval,Act.put]) (by simp [Act.eval,Act.put]) (hB _ _ _) ?_);go_wp2;go_ret;obtain ⟨r1,r2,r3,r4,r5,r6⟩:=R.out;exact ⟨G,row,r1,r2,r3,rfl,r4,r5,by rw [r6]⟩
noncomputable def z7k:zd:=spD (fun x:List Coin × Int × List Coin=>0≤x.2.1∧x.2.1≤x.1.length∧x.1.length≤1000000∧x.2.2.length=1) fun x=>x.1.take x.2.1.toNat++x.2.2++x.1.drop x.2.1.toNat
theorem zsg:Meets Tryz.prog z7k 119 ⟨[.mine 101 6,.one,.one],[(false,[.fresh 101 6])],false⟩ :=
 z0fq rfl (by decide) (z2t (fn:=Tryz.f119) (by kernel_rfl) (by kernel_rfl) (by kernel_rfl)) (fun W g n cap i b off c vs cs h1 h2 h3 h4 h5 h6 h7 h8 h9 h10=>z0j4 h1 h2 h3 h4 h5 h6 h7 h8 h9 h10) (fun W base v n b off c olds cs h1 h2 h3 h4 h5 h6=>z0m0 h1 h2 h3 h4 h5 h6) (fun W g n cap i b off c vs cs h1 h2 h3 h4 h5 h6 h7 h8 h9=>z0j5 h1 h2 h3 h4 h5 h6 h7 h8 h9)
end
section
open Go.RowKit
set_option maxRecDepth 100000
set_option maxHeartbeats 4000000
theorem zay (l:List Coin) (i j:Int) (h:0≤i∧i≤j∧j≤l.length):z48 [.l 6 (l.map zb),I i,I j]=some [.l 6 ((l.take i.toNat++l.drop j.toNat).map zb)]:=zm (p:=fun x:List Coin × Int × Int=>0≤x.2.1∧x.2.1≤x.2.2∧x.2.2≤x.1.length) (f:=fun x:List Coin × Int × Int=>x.1.take x.2.1.toNat++x.1.drop x.2.2.toNat) (l,i,j) h
theorem zaz (l:List Coin) (i:Int) (c:Coin) (h:0≤i∧i≤l.length∧l.length≤1000000):z7k [.l 6 (l.map zb),I i,.l 6 ([c].map zb)]=some [.l 6 ((l.take i.toNat++[c]++l.drop i.toNat).map zb)]:=zm (p:=fun x:List Coin × Int × List Coin=>0≤x.2.1∧x.2.1≤x.1.length∧x.1.length≤1000000∧x.2.2.length=1) (f:=fun x:List Coin × Int × List Coin=>x.1.take x.2.1.toNat++x.2.2++x.1.drop x.2.1.toNat) (l,i,[c]) ⟨h.1,h.2.1,h.2.2,rfl⟩
noncomputable def z7l:zd:=spD (fun _:List Coin × Tx × Int × Int=>True) fun x=>zx x.1 x.2.1 x.2.2.1 x.2.2.2
theorem zgb (l:List Coin) (t:Tx) (nm h:Int):z7l [.l 6 (l.map zb),I t.height,.l 3 (t.ins.map eIn),.l 2 (t.outs.map z3r),I nm,I h]=some [.l 6 ((zx l t nm h).1.map zb),.l 6 ((zx l t nm h).2.1.map zb),I (zx l t nm h).2.2]:=zm (f:=fun x:List Coin × Tx × Int × Int=>zx x.1 x.2.1 x.2.2.1 x.2.2.2) (l,t,nm,h) trivial
theorem znt {a b:Dt} {n:Int} {pk:List PK} {l:Bool} {g:Bool}:z61 ⟨pk,[(false,[.pure]),(g,[.pure]),(false,[.scal])],l⟩ [a,b,I n]:=by
 intro i d hi hd
 match i,hi,hd with
 | 0,hi,_=>simp [zq] at hi
 | 1,hi,_=>simp [zq] at hi
 | 2,_,hd=>simp only [zY24,zY05,zY00] at hd;subst hd;rfl
 | i+3,hi,_=>simp [zq] at hi
theorem zsh {a:Dt} {n:Int} {pk:List PK} {l:Bool} {g:Bool}:z61 ⟨pk,[(g,[.pure]),(false,[.scal])],l⟩ [a,I n]:=by
 intro i d hi hd
 match i,hi,hd with
 | 0,hi,_=>simp [zq] at hi
 | 1,_,hd=>simp only [zY24,zY05,zY00] at hd;subst hd;rfl
 | i+2,hi,_=>simp [zq] at hi
attribute [local irreducible] z00 spD z1h z9 zg z20 z0u z42 za
theorem zgc (t:Tx):z7e [I t.height,.l 3 (t.ins.map eIn),.l 2 (t.outs.map z3r)]=some [I (zg t)]:=zm (f:=fun t:Tx=>zg t) t trivial
def z088:T :=
 .lets [.bin .add 28 (zI 1)] [] (.lets [.call 13 [22,28,44] 0] [] (.lets [.bin .add 23 (zI 1)] [] (.again 0 [19,20,43,45,.v
 46])))
def z089:T :=
 .ite 41 (.ret [.c (.nil 6),.c (.nil 6),zI 8]) (.lets [.mk 6 [[31,32,33,34,35,36]]] [] (.lets [.app 6 21 42] [] z088))
def z08a:T :=
 .ite 38 (.ret [.c (.nil 6),.c (.nil 6),zI 10]) (.lets [.call 15 [34,27,5] 0,.call 15 [34,27,5] 1] [] (.lets [.not 39] [] z089))
def z08b:T :=
 .lets [.bin .add 28 (zI 1)] [] (.lets [.call 13 [22,28,42] 0] [] (.lets [.bin .add 23 (zI 1)] [] (.again 0 [19,20,41,43,.v
 44])))
def z08c:T :=
 .ite 39 (.ret [.c (.nil 6),.c (.nil 6),zI 8]) (.lets [.mk 6 [[31,32,33,34,35,36]]] [] (.lets [.app 6 21 40] [] z08b))
def z08d:T :=
 .ite 36 (.lets [.bin .add 35 (zI 2)] [] (.lets [.bin .lss 5 37] [] z08a)) (.lets [.call 15 [34,27,5] 0,.call 15 [34,27,5]
 1] [] (.lets [.not 37] [] z08c))
def z08e:T :=
 .lets [.idx 22 28 0,.idx 22 28 1,.idx 22 28 2,.idx 22 28 3,.idx 22 28 4,.idx 22 28 5] [] z08d
def z08f:T :=
 .lets [.call 6 [22,25,26] 0,.call 6 [22,25,26] 1] [] (.lets [.not 29] [] (.ite 30 (.ret [.c (.nil 6),.c (.nil 6),zI 7]) (.lets [] [.inr
 6 22 28] z08e)))
def z08g:T :=
 .lets [.mk 6 [[4,29,31,35,5,15]]] [] (.lets [.call 14 [28,33,36] 0] [] (.lets [.bin .add 29 (zI 1)] [] (.again 1 [26,27,.v
 37,38])))
def z08h:T :=
 .lets [.call 6 [28,4,29] 0,.call 6 [28,4,29] 1] [] (.ite 34 (.ret [.c (.nil 6),.c (.nil 6),zI 6]) (.lets [.call 10 [32] 0] []
 z08g))
def z021:T :=
 .lets [.call 8 [28] 0] [] (.lets [.bin .neq 31 (zI 0)] [] (.ite 32 (.ret [.c (.nil 6),.c (.nil 6),31]) (.ret [28,21,zI 0])))
def z022:T :=
 .lets [.bin .lss 29 25] [] (.ite 30 (.lets [] [.inr 2 3 29] (.lets [.idx 3 29 0,.idx 3 29 1] [] z08h)) z021)
def z023:T :=
 .ite 24 (.lets [] [.inr 3 2 23] (.lets [.idx 2 23 0,.idx 2 23 1,.idx 2 23 2] [] z08f)) (.lets [.len 3] [] (.loop [.c (.nil
 6),zI 0,22,zI 0] z022))
def z024:T :=
 .lets [.call 11 [0] 0] [] (.lets [.len 2] [] (.loop [.c (.nil 6),zI 0,.c (.nil 6),17,zI 0] (.lets [.bin .lss 23 18] [] z023)))
def z025:T :=
 .lets [.bin .add 27 (zI 1)] [] (.lets [.call 13 [21,27,43] 0] [] (.lets [.bin .add 22 (zI 1)] [] (.again 0 [18,19,42,44,.v
 45])))
def z026:T :=
 .ite 40 (.ret [.c (.nil 6),.c (.nil 6),zI 8]) (.lets [.mk 6 [[30,31,32,33,34,35]]] [] (.lets [.app 6 20 41] [] z025))
def z027:T :=
 .ite 37 (.ret [.c (.nil 6),.c (.nil 6),zI 10]) (.lets [.call 15 [33,26,5] 0,.call 15 [33,26,5] 1] [] (.lets [.not 38] [] z026))
def z028:T :=
 .lets [.bin .add 27 (zI 1)] [] (.lets [.call 13 [21,27,41] 0] [] (.lets [.bin .add 22 (zI 1)] [] (.again 0 [18,19,40,42,.v
 43])))
def z029:T :=
 .ite 38 (.ret [.c (.nil 6),.c (.nil 6),zI 8]) (.lets [.mk 6 [[30,31,32,33,34,35]]] [] (.lets [.app 6 20 39] [] z028))
def z02a:T :=
 .ite 35 (.lets [.bin .add 34 (zI 2)] [] (.lets [.bin .lss 5 36] [] z027)) (.lets [.call 15 [33,26,5] 0,.call 15 [33,26,.v
 5] 1] [] (.lets [.not 36] [] z029))
def z02b:T :=
 .lets [.idx 21 27 0,.idx 21 27 1,.idx 21 27 2,.idx 21 27 3,.idx 21 27 4,.idx 21 27 5] [] z02a
def z02c:T :=
 .lets [.call 6 [21,24,25] 0,.call 6 [21,24,25] 1] [] (.lets [.not 28] [] (.ite 29 (.ret [.c (.nil 6),.c (.nil 6),zI 7]) (.lets [] [.inr
 6 21 27] z02b)))
def z02d:T :=
 .lets [.mk 6 [[4,30,32,36,5,15]]] [] (.lets [.call 14 [29,34,37] 0] [] (.lets [.bin .add 30 (zI 1)] [] (.again 1 [27,28,.v
 38,39])))
def z02e:T :=
 .lets [.call 6 [29,4,30] 0,.call 6 [29,4,30] 1] [] (.ite 35 (.ret [.c (.nil 6),.c (.nil 6),zI 6]) (.lets [.call 10 [33] 0] []
 z02d))
def z02f:T :=
 .lets [.call 8 [29] 0] [] (.lets [.bin .neq 32 (zI 0)] [] (.ite 33 (.ret [.c (.nil 6),.c (.nil 6),32]) (.ret [29,20,zI 0])))
def z02g:T :=
 .lets [.bin .lss 30 26] [] (.ite 31 (.lets [] [.inr 2 3 30] (.lets [.idx 3 30 0,.idx 3 30 1] [] z02e)) z02f)
def z02h:T :=
 .ite 25 (.ret [.c (.nil 6),.c (.nil 6),zI 9]) (.lets [.len 3] [] (.loop [.c (.nil 6),zI 0,21,zI 0] z02g))
def z02i:T :=
 .ite 23 (.lets [] [.inr 3 2 22] (.lets [.idx 2 22 0,.idx 2 22 1,.idx 2 22 2] [] z02c)) (.lets [.call 12 [1,2,3,.v
 20] 0] [] (.lets [.bin .lss 24 (zI 0)] [] z02h))
def z02j:T :=
 .lets [.call 11 [0] 0] [] (.lets [.len 2] [] (.loop [.c (.nil 6),zI 0,.c (.nil 6),16,zI 0] (.lets [.bin .lss 22 17] [] z02i)))
def z02k:T :=
 .lets [.bin .eql 14 (zI 0)] [] (.ite 15 (.lets [.bin .neq 1 5] [] (.ite 16 (.ret [.c (.nil 6),.c (.nil 6),zI 4]) z024))
 z02j)
def z02l:T :=
 .ite 12 (.ret [.c (.nil 6),.c (.nil 6),zI 3]) (.lets [.bin .gtr 5 (zI 1000)] [] (.ite 13 (.ret [.c (.nil 6),.c (.nil 6),zI 3])
 (.lets [.len 2] [] z02k)))
def z02m:T :=
 .lets [.bin .gtr 4 (zI 120)] [] (.ite 11 (.ret [.c (.nil 6),.c (.nil 6),zI 3]) (.lets [.bin .lss 5 (zI 1)] [] z02l))
def z02n:T :=
 .ite 9 (.ret [.c (.nil 6),.c (.nil 6),8]) (.lets [.bin .lss 4 (zI 1)] [] (.ite 10 (.ret [.c (.nil 6),.c (.nil 6),zI 3]) z02m))
def z02o:T :=
 .lets [.bin .neq 6 (zI 0)] [] (.ite 7 (.ret [.c (.nil 6),.c (.nil 6),6]) (.lets [.call 16 [1,2,3] 0] [] (.lets [.bin .neq 8 (.c (.i .i64
 0))] [] z02n)))
def zhv:T :=
 .lets [.call 8 [0] 0] [] z02o
theorem z0fr:Meets Tryz.prog z7l 73 ⟨[.one,.agg 3,.one,.one],[(false,[.pure]),(true,[.pure]),(false,[.scal])],false⟩:=by
 refine zai (sp:=(z0g [(6,z7g),(8,z2u),(10,z7f),(11,z71),(12,z72),(13,z48),(14,z7k),(15,z92),(16,z7e)])) (sigs:=z0p) (cut:=[]) (hints:=[⟨19,[.r 8 101 6,.t 10,.r 0 101 6,.t 111,.z 84,.z 83,.z 78]⟩]) (fns:=[zau 117 Tryz.f117 [⟨2,[.r 6 101 6,.t 8,.r 7 101 6,.r 0 101 6,.t 19]⟩] [],zau 116 Tryz.f116 [] []]) (dep:=2) (pool:=240) (fn:=Tryz.f73) (t:=zhv) (by kernel_rfl) (by kernel_rfl) (by kernel_rfl) ?_ ?_ ?_
 ·exact (z3b (fn:=Tryz.f117) (by kernel_rfl) (by kernel_rfl) (by kernel_rfl) (by kernel_rfl) (by kernel_rfl) (z3b (fn:=Tryz.f116) (by kernel_rfl) (by kernel_rfl) (by kernel_rfl) (by kernel_rfl) (by kernel_rfl) zcb))
 ·exact (z05 (L:=[(6,z7g),(8,z2u),(10,z7f),(11,z71),(12,z72),(13,z48),(14,z7k),(15,z92),(16,z7e)]) ⟨ze rfl zs3,ze rfl zdc,ze rfl z0eu,ze rfl z01n,ze rfl z0af,ze rfl zhu,ze rfl zsg,ze rfl z07k,ze rfl zs2,trivial⟩)
 ·rintro ds rs - h
  obtain ⟨⟨l,t,nm,ht⟩,-,rfl,rfl⟩:=zp h;clear h;refine ⟨⟨t.ins.length+t.outs.length+1,?_⟩,znt⟩
  show den _ _ zhv [.l 6 (l.map zb),I t.height,.l 3 (t.ins.map eIn),.l 2 (t.outs.map z3r),I nm,I ht] []=ret (zx l t nm ht)
  unfold zhv zx
  repeat' (first|refine dq1 ?_|refine dqk rfl (z44 _) ?_|refine dqk rfl (zgc _) ?_|exact z6 rfl rfl|((first|refine tR ?_ ?_|refine tO ?_ ?_) <;> intro h)|fail)
  all_goals
   have ok:CoinsOK l:=(z17 l).1 (zY12.1 (by assumption));have okt:TxOK t:=z39 (zY12.1 (by assumption));have hl:=ok.len;have hti:=okt.ins;have hto:=okt.outs
   repeat' (first|refine dq1 ?_|refine dqk rfl (zci _ ok.short) ?_|fail)
  ·(refine zr (fun (st:List Coin × List Coin) k=>[.l 6 (([]:List Coin).map zb),I 0,.l 6 (st.2.map zb),.l 6 (st.1.map zb),I k]) (fun (st:List Coin × List Coin) _ (xs:List In)=>z31 ht z1f (fun r s=>z2q nm ht (decide ((t.ins.length:Int)=0)) z1f (z4s s) r 0 t.outs) st.1 st.2 xs) (fun st k=>SpI l st k) (l,[]) t.ins ?_ ?_ ?_ ?_ ?_;rfl;exact ⟨ok.sorted,zY0h _,ok.good,rfl,fun c hc=>by cases hc⟩;omega)
   ·rintro ⟨r,s⟩ k x xs hx hd hk hI again hag
    rename_i h0 _;omega
   ·rintro ⟨r,s⟩ hI again
    rw [z31]
    repeat' (first|refine dq1 ?_|refine dqF ?_|fail)
    (refine zr (fun (r:List Coin) k=>[.l 6 (([]:List Coin).map zb),I 0,.l 6 (r.map zb),I k]) (fun (r:List Coin) k (os:List Out)=>z2q nm ht (decide ((t.ins.length:Int)=0)) z1f (z4s s) r k os) (fun r k=>z03 r∧r.length≤l.length+k) r t.outs ?_ ?_ ?_ ?_ ?_;rfl;exact ⟨hI.sorted,hI.len⟩;omega)
    ·rintro r k o os hx hd hk ⟨hs,hrl⟩ again' hag
     rw [z2q];have hol:=z8y (okt.good o (zY0a hx)).2.2;have hpl:=zfg r ⟨nm,k⟩;have e1:((zi r ⟨nm,k⟩:Int)).toNat=zi r ⟨nm,k⟩:=by omega
     repeat' (first|refine dq1 ?_|refine dqc ?_|refine dqm ?_|refine dqK rfl (z62 r ⟨nm,k⟩ hs (by omega)) ?_|refine dqk rfl (zfj _ (by omega)) ?_|exact z6 rfl rfl|refine tB (fun h=>?_) fun h=>?_|refine dqT ?_|fail)
     have hno:=h;refine z5 (z24 (r:=[(⟨⟨nm,k⟩,o,ht,decide ((t.ins.length:Int)=0)⟩:Coin)].map zb) rfl rfl (by simp)) ?_;refine z5 (z2x rfl (zaz _ _ _ ⟨by omega,by omega,by omega⟩) rfl) ?_;refine z5 (z6a rfl rfl (by omega)) ?_;rw [e1];exact z7 rfl rfl (hag _ ⟨z5z hs (c:=⟨⟨nm,k⟩,o,ht,decide ((t.ins.length:Int)=0)⟩) hno,by simp only [zY04,zY0e,zY0z,zY1f];omega⟩)
    ·rintro r hr again'
     rw [z2q];unfold z4s
     repeat' (first|refine dq1 ?_|refine dqk rfl (z44 _) ?_|exact z6 rfl rfl|refine tR (fun h=>?_) fun h=>?_|refine dqF ?_|fail)
  ·(refine zr (fun (st:List Coin × List Coin) k=>[.l 6 (([]:List Coin).map zb),I 0,.l 6 (st.2.map zb),.l 6 (st.1.map zb),I k]) (fun (st:List Coin × List Coin) _ (xs:List In)=>z31 ht z1f (fun r s=>if z0u t s<0 then z1f 9 else z2q nm ht (decide ((t.ins.length:Int)=0)) z1f (z4s s) r 0 t.outs) st.1 st.2 xs) (fun st k=>SpI l st k) (l,[]) t.ins ?_ ?_ ?_ ?_ ?_;rfl;exact ⟨ok.sorted,zY0h _,ok.good,rfl,fun c hc=>by cases hc⟩;omega)
   ·rintro ⟨r,s⟩ k x xs hx hd hk hI again hag
    rw [z31];simp only;have hs:=hI.sorted;have hrl:=hI.len;simp only at hs hrl
    repeat' (first|refine dq1 ?_|refine dqc ?_|refine dqm ?_|refine dqK rfl (z62 _ _ hs (by omega)) ?_|exact z6 rfl rfl|refine tN (fun h=>?_) fun h=>?_|refine dqT ?_|fail)
    obtain ⟨hlt,hp⟩:=(zfh hs x.p).1 h;have hc:r[zi r x.p]? = some r[zi r x.p]:=zY03 hlt;rw [hc];generalize r[zi r x.p]=c at *;have hcb:=z3k (hI.good c (zY0a hc));have e1:((zi r x.p:Int)).toNat=zi r x.p:=by omega
    have e2:((zi r x.p:Int)+1).toNat=zi r x.p+1:=by omega
    simp only [zY1k];have hxo:=hx;have hx:=hc
    repeat' (first|refine dq1 ?_|refine dqc ?_|refine dqm ?_|refine dqK rfl (zne _ _ _) ?_|exact z6 rfl rfl|((first|refine tR ?_ ?_|refine tB ?_ ?_|refine tN ?_ ?_) <;> intro h)|fail)
    all_goals (refine z5 (z24 (r:=[c].map zb) rfl rfl (by simp)) ?_;refine z5 (zh4 (l:=s) (l':=[c]) rfl rfl (by have:=hI.cnt;simp only at this ⊢;simp only [zY1f];omega)) ?_;refine z5 (z6a rfl rfl (by omega)) ?_;refine z5 (z2x rfl (zay _ _ _ ⟨by omega,by omega,by omega⟩) rfl) ?_;refine z5 (z6a rfl rfl (by omega)) ?_;rw [e1,e2];exact z7 rfl rfl (hag (r.take (zi r x.p)++r.drop (zi r x.p+1),s++[c]) (hI.cut hc)))
   ·rintro ⟨r,s⟩ hI again
    rw [z31]
    repeat' (first|refine dq1 ?_|refine dqk rfl (zdz t s (hI.fee okt)) ?_|exact z6 rfl rfl|refine tR (fun h=>?_) fun h=>?_|refine dqF ?_|fail)
    (refine zr (fun (r:List Coin) k=>[.l 6 (([]:List Coin).map zb),I 0,.l 6 (r.map zb),I k]) (fun (r:List Coin) k (os:List Out)=>z2q nm ht (decide ((t.ins.length:Int)=0)) z1f (z4s s) r k os) (fun r k=>z03 r∧r.length≤l.length+k) r t.outs ?_ ?_ ?_ ?_ ?_;rfl;exact ⟨hI.sorted,hI.len⟩;omega)
    ·rintro r k o os hx hd hk ⟨hs,hrl⟩ again' hag
     rw [z2q];have hol:=z8y (okt.good o (zY0a hx)).2.2;have hpl:=zfg r ⟨nm,k⟩;have e1:((zi r ⟨nm,k⟩:Int)).toNat=zi r ⟨nm,k⟩:=by omega
     repeat' (first|refine dq1 ?_|refine dqc ?_|refine dqm ?_|refine dqK rfl (z62 r ⟨nm,k⟩ hs (by omega)) ?_|refine dqk rfl (zfj _ (by omega)) ?_|exact z6 rfl rfl|refine tB (fun h=>?_) fun h=>?_|refine dqT ?_|fail)
     have hno:=h;refine z5 (z24 (r:=[(⟨⟨nm,k⟩,o,ht,decide ((t.ins.length:Int)=0)⟩:Coin)].map zb) rfl rfl (by simp)) ?_;refine z5 (z2x rfl (zaz _ _ _ ⟨by omega,by omega,by omega⟩) rfl) ?_;refine z5 (z6a rfl rfl (by omega)) ?_;rw [e1];exact z7 rfl rfl (hag _ ⟨z5z hs (c:=⟨⟨nm,k⟩,o,ht,decide ((t.ins.length:Int)=0)⟩) hno,by simp only [zY04,zY0e,zY0z,zY1f];omega⟩)
    ·rintro r hr again'
     rw [z2q];unfold z4s
     repeat' (first|refine dq1 ?_|refine dqk rfl (z44 _) ?_|exact z6 rfl rfl|refine tR (fun h=>?_) fun h=>?_|refine dqF ?_|fail)
end
section
open Go.RowKit
set_option maxRecDepth 100000
set_option maxHeartbeats 4000000
attribute [local irreducible] z00 spD z1h z9 zg za
def zcl (l:List Coin):Prop:=∀ c ∈ l,c.o.lock.length≤8796093022208
noncomputable def z7z:zd:=spD (fun x:List Coin × Tx × Int × List Coin=>zcl x.2.2.2) fun x=>z16 x.1 x.2.1 x.2.2.1 x.2.2.2
theorem zdj (l:List Coin) (t:Tx) (nm:Int) (u:List Coin) (h:zcl u):z7z [.l 6 (l.map zb),I t.height,.l 3 (t.ins.map eIn),.l 2 (t.outs.map z3r),I nm,.l 6 (u.map zb)]=some [.l 6 ((z16 l t nm u).1.map zb),I (z16 l t nm u).2]:=zm (p:=fun x:List Coin × Tx × Int × List Coin=>zcl x.2.2.2) (f:=fun x:List Coin × Tx × Int × List Coin=>z16 x.1 x.2.1 x.2.2.1 x.2.2.2) (l,t,nm,u) h
def z02p:T :=
 .lets [.bin .add 22 (zI 1)] [] (.lets [.call 13 [17,22,29] 0] [] (.lets [.bin .add 18 (zI 1)] [] (.again 0 [15,16,30,31])))
def z02q:T :=
 .lets [.idx 17 22 2,.idx 17 22 3] [] (.lets [.call 20 [25,26,20,21] 0] [] (.lets [.not 27] [] (.ite 28 (.ret [.c (.nil 6),.c (.i .i64
 7)]) z02p)))
def z02r:T :=
 .lets [.call 6 [17,4,18] 0,.call 6 [17,4,18] 1] [] (.lets [.not 23] [] (.ite 24 (.ret [.c (.nil 6),zI 7]) (.lets [] [.inr 6 17 (.v
 22)] z02q)))
def z02s:T :=
 .lets [.mk 6 [[27,28,29,30,31,32]]] [] (.lets [.call 14 [24,33,38] 0] [] (.lets [.bin .add 25 (zI 1)] [] (.again 1 [22,23,.v
 39,40])))
def z02t:T :=
 .lets [.idx 2 25 0,.idx 2 25 1] [] (.lets [.eqs true [(.v 35,.v 27),(.v 36,.v 28)]] [] (.ite 37 (.ret [.c (.nil 6),zI 6]) z02s))
def z02u:T :=
 .lets [.call 6 [24,27,28] 0,.call 6 [24,27,28] 1] [] (.ite 34 (.ret [.c (.nil 6),zI 6]) (.lets [] [.inr 3 2 25] z02t))
def z02v:T :=
 .lets [.idx 20 25 0,.idx 20 25 1,.idx 20 25 2,.idx 20 25 3,.idx 20 25 4,.idx 20 25 5] [] z02u
def z02w:T :=
 .ite 26 (.lets [] [.inr 6 20 25] z02v) (.lets [.call 8 [24] 0] [] (.lets [.bin .neq 27 (zI 0)] [] (.ite 28 (.ret [.c (.nil 6),27])
 (.ret [24,zI 0]))))
def z02x:T :=
 .ite 19 (.lets [] [.inr 2 3 18] (.lets [.idx 3 18 0,.idx 3 18 1] [] z02r)) (.lets [.call 11 [5] 0] [] (.lets [.len 20] [] (.loop
 [15,16,17,zI 0] (.lets [.bin .lss 25 21] [] z02w))))
def z02y:T :=
 .lets [.call 11 [0] 0] [] (.lets [.len 3] [] (.loop [.c (.nil 6),zI 0,13,zI 0] (.lets [.bin .lss 18 14] [] z02x)))
def zu1:T :=
 .ite 9 (.ret [.c (.nil 6),8]) (.lets [.len 5] [] (.lets [.len 2] [] (.lets [.bin .neq 10 11] [] (.ite 12 (.ret [.c (.nil 6),zI 4])
 z02y))))
def zu2:T :=
 .lets [.bin .neq 6 (zI 0)] [] (.ite 7 (.ret [.c (.nil 6),6]) (.lets [.call 16 [1,2,3] 0] [] (.lets [.bin .neq 8 (zI 0)] []
 zu1)))
def zfu:T :=
 .lets [.call 8 [0] 0] [] zu2
theorem z0ci:Meets Tryz.prog z7z 75 ⟨[.one,.agg 3,.one,.agg 1],[(false,[.pure]),(false,[.scal])],false⟩:=by
 refine zl (sp:=(z0g [(6,z7g),(8,z2u),(11,z71),(13,z48),(14,z7k),(16,z7e),(20,z73)])) (sigs:=z0p) (cut:=[]) (hints:=[⟨11,[.r 8 101 6,.t 9,.r 0 101 6,.t 43,.z 39]⟩,⟨19,[.r 8 101 6,.t 9,.r 0 101 6,.t 78]⟩]) (fn:=Tryz.f75) (t:=zfu) (by kernel_rfl) (by kernel_rfl) (by kernel_rfl) ?_ ?_
 ·exact (z05 (L:=[(6,z7g),(8,z2u),(11,z71),(13,z48),(14,z7k),(16,z7e),(20,z73)]) ⟨ze rfl zs3,ze rfl zdc,ze rfl z01n,ze rfl zhu,ze rfl zsg,ze rfl zs2,ze rfl z080,trivial⟩)
 ·rintro ds rs - h
  obtain ⟨⟨l,t,nm,u⟩,hu,rfl,rfl⟩:=zp h;clear h;simp only at hu;refine ⟨⟨u.length+t.outs.length+1,?_⟩,zsh⟩
  show den _ _ zfu [.l 6 (l.map zb),I t.height,.l 3 (t.ins.map eIn),.l 2 (t.outs.map z3r),I nm,.l 6 (u.map zb)] []=ret (z16 l t nm u)
  unfold zfu z16
  repeat' (first|refine dq1 ?_|refine dqk rfl (z44 _) ?_|refine dqk rfl (zgc _) ?_|exact z6 rfl rfl|refine tR (fun h=>?_) fun h=>?_|fail)
  have hul:u.length=t.ins.length:=by omega
  have ok:CoinsOK l:=(z17 l).1 (zY12.1 (by assumption));have okt:TxOK t:=z39 (zY12.1 (by assumption));have hl:=ok.len;have hti:=okt.ins;have hto:=okt.outs;have hu:z5x u:=⟨by omega,hu⟩
  repeat' (first|refine dq1 ?_|refine dqk rfl (zci _ ok.short) ?_|fail)
  (refine zr (fun (r:List Coin) k=>[.l 6 (([]:List Coin).map zb),I 0,.l 6 (r.map zb),I k]) (fun (r:List Coin) k (os:List Out)=>z88 nm z5b (fun r=>z6j t.ins z5b z9v r 0 u) r k os) (fun r k=>z03 r∧r.length≤l.length) l t.outs ?_ ?_ ?_ ?_ ?_;rfl;exact ⟨ok.sorted,zY0h _⟩;omega)
  ·rintro r k o os hx hd hk ⟨hs,hrl⟩ again hag
   rw [z88]
   repeat' (first|refine dq1 ?_|refine dqc ?_|refine dqm ?_|refine dqK rfl (z62 r ⟨nm,k⟩ hs (by omega)) ?_|exact z6 rfl rfl|refine tN (fun h=>?_) fun h=>?_|refine dqT ?_|fail)
   obtain ⟨hlt,hp⟩:=(zfh hs ⟨nm,k⟩).1 h;have hc:r[zi r ⟨nm,k⟩]? = some r[zi r ⟨nm,k⟩]:=zY03 hlt;rw [hc];generalize r[zi r ⟨nm,k⟩]=c at *;have e1:((zi r ⟨nm,k⟩:Int)).toNat=zi r ⟨nm,k⟩:=by omega
   have e2:((zi r ⟨nm,k⟩:Int)+1).toNat=zi r ⟨nm,k⟩+1:=by omega
   simp only [zY1k];have hxo:=hx;have hx:=hc
   repeat' (first|refine dq1 ?_|refine dqc ?_|refine dqm ?_|refine dqk rfl (zno c.o o) ?_|refine dqk rfl (zay r (zi r ⟨nm,k⟩:Int) ((zi r ⟨nm,k⟩:Int)+1) ⟨by omega,by omega,by omega⟩) ?_|exact z6 rfl rfl|refine tN (fun h=>?_) fun h=>?_|fail)
   rw [e1,e2];exact z7 rfl rfl (hag _ ⟨z7j hs _,by simp only [zY04,zY0e,zY0z];omega⟩)
  ·rintro r ⟨hs,hrl⟩ again
   rw [z88]
   repeat' (first|refine dq1 ?_|refine dqk rfl (zci _ hu) ?_|refine dqF ?_|fail)
   (refine zr (fun (r:List Coin) k=>[.l 6 (([]:List Coin).map zb),I 0,.l 6 (r.map zb),I k]) (fun (r:List Coin) k (cs:List Coin)=>z6j t.ins z5b z9v r k cs) (fun r k=>z03 r∧r.length≤l.length+k) r u ?_ ?_ ?_ ?_ ?_;rfl;exact ⟨hs,hrl⟩;omega)
   ·rintro r k c cs hx hd hk ⟨hs,hrl⟩ again' hag
    rw [z6j];have hpl:=zfg r c.p;have e1:((zi r c.p:Int)).toNat=zi r c.p:=by omega
    have hki:k<t.ins.length:=by omega
    obtain ⟨x,hxi⟩:∃ x,t.ins[k]? = some x:=⟨_,zY03 hki⟩
    rw [hxi];simp only [zY1k]
    repeat' (first|refine dq1 ?_|refine dqc ?_|refine dqm ?_|refine dqK rfl (z62 r c.p hs (by omega)) ?_|exact z6 rfl rfl|((first|refine tR ?_ ?_|refine tB ?_ ?_) <;> intro h)|refine dqT ?_|fail)
    have hno:=h;have hxo:=hx;have hx:=hxi
    repeat' (first|refine dq1 ?_|refine dqc ?_|refine dqm ?_|exact z6 rfl rfl|((first|refine tR ?_ ?_|refine tB ?_ ?_|refine tC ?_ ?_|refine tN ?_ ?_|refine tF ?_ ?_|refine tG ?_ ?_|refine tP ?_ ?_|refine tQ ?_ ?_|refine tA ?_ ?_|refine tO ?_ ?_|refine tU ?_ ?_|refine tV ?_ ?_) <;> intro h)|refine dqT ?_|refine dqF ?_|refine z0j rfl ?_|refine z0o rfl ?_|refine z9t ?_|refine z6s ?_|fail)
    refine z5 (z24 (r:=[c].map zb) rfl rfl (by simp)) ?_;refine z5 (z2x rfl (zaz _ _ _ ⟨by omega,by omega,by omega⟩) rfl) ?_;refine z5 (z6a rfl rfl (by omega)) ?_;rw [e1];exact z7 rfl rfl (hag _ ⟨z5z hs (by assumption),by simp only [zY04,zY0e,zY0z,zY1f];omega⟩)
   ·rintro r hr again'
    rw [z6j];unfold z9v
    repeat' (first|refine dq1 ?_|refine dqk rfl (z44 _) ?_|exact z6 rfl rfl|refine tR (fun h=>?_) fun h=>?_|refine dqF ?_|fail)
end
section
open Go.RowKit
theorem hasP_mem {l:List Coin} {p:Point}:z1i l p=true↔∃ c ∈ l,c.p=p:=by
 unfold z1i;rw [zY33];constructor
 ·rintro ⟨c,hc,h⟩;exact ⟨c,hc,of_decide_eq_true h⟩
 ·rintro ⟨c,hc,h⟩;exact ⟨c,hc,decide_eq_true h⟩
theorem hasP_not {l:List Coin} {p:Point}:z1i l p=false↔∀ c ∈ l,c.p≠p:=by
 rw [← zY34,hasP_mem];constructor
 ·intro h c hc he;exact h ⟨c,hc,he⟩
 ·rintro h ⟨c,hc,he⟩;exact h c hc he
theorem zjq {l:List Coin} (h:z03 l) {c d:Coin} (hc:c ∈ l) (hd:d ∈ l) (hp:c.p=d.p):c=d:=by
 obtain ⟨i,hi,rfl⟩:=zY2h hc;obtain ⟨j,hj,rfl⟩:=zY2h hd;rcases Nat.lt_trichotomy i j with hij|rfl|hij
 ·have:=z8j h hij hj;rw [hp] at this;exact absurd this (z5t _)
 ·rfl
 ·have:=z8j h hij hi;rw [hp] at this;exact absurd this (z5t _)
theorem z02z {l:List Coin} (h:z03 l) {c:Coin} (hc:c ∈ l):l[zi l c.p]? = some c:=by
 obtain ⟨hlt,hp⟩:=(zfh h c.p).1 (hasP_mem.2 ⟨c,hc,rfl⟩);rw [zY03 hlt];exact congrArg some (zjq h (zY1p hlt) hc hp)
theorem z0m1 {l:List Coin} (h:z03 l) {p:Point} (hp:z1i l p=true):∃ c,l[zi l p]? = some c∧c ∈ l∧c.p=p:=by
 obtain ⟨c,hc,rfl⟩:=hasP_mem.1 hp;exact ⟨c,z02z h hc,hc,rfl⟩
theorem z0aj {l:List Coin} (h:z03 l) {c:Coin} {k:Nat} (hk:l[k]? = some c) {d:Coin}:d ∈ l.take k++l.drop (k+1)↔d ∈ l∧d.p≠c.p:=by
 obtain ⟨hlt,rfl⟩:=zY02.1 hk;have hsplit:l=l.take k++l[k]::l.drop (k+1):=by rw [List.getElem_cons_drop,zY0y]
 have hs:z03 (l.take k++l[k]::l.drop (k+1)):=by rw [← hsplit];exact h
 obtain ⟨_,h2,h3⟩:=zY2m.1 hs;have h2':=zY1v.1 h2;constructor
 ·intro hd
  refine ⟨?_,?_⟩
  ·rcases zY11.1 hd with hd|hd
   ·exact zY2l hd
   ·exact zY2c hd
  ·rcases zY11.1 hd with hd|hd
   ·intro e;have:=h3 d hd l[k] (zY0p ..);rw [e] at this;exact z5t _ this
   ·intro e;have:=h2'.1 d hd;rw [e] at this;exact z5t _ this
 ·rintro ⟨hd,hne⟩
  rw [hsplit] at hd;rcases zY11.1 hd with hd|hd
  ·exact List.mem_append_left _ hd
  ·rcases zY0i.1 hd with rfl|hd
   ·exact absurd rfl hne
   ·exact List.mem_append_right _ hd
theorem put_mem {l:List Coin} {c d:Coin} {k:Nat}:d ∈ l.take k++[c]++l.drop k↔d=c∨d ∈ l:=by
 have:d ∈ l↔d ∈ l.take k∨d ∈ l.drop k:=by rw [← zY11,zY0y]
 rw [zY11,zY11,zY13,this];constructor
 ·rintro ((h|h)|h)
  ·exact .inr (.inl h)
  ·exact .inl h
  ·exact .inr (.inr h)
 ·rintro (h|h|h)
  ·exact .inl (.inr h)
  ·exact .inl (.inl h)
  ·exact .inr h
theorem z0fs {l:List Coin} {c:Coin} {k:Nat} (hk:l[k]? = some c):zh l=zh (l.take k++l.drop (k+1))+c.o.coin:=by
 obtain ⟨hlt,rfl⟩:=zY02.1 hk;have hsplit:l=l.take k++l[k]::l.drop (k+1):=by rw [List.getElem_cons_drop,zY0y]
 have e:zh l=zh (l.take k++l[k]::l.drop (k+1)):=by rw [← hsplit]
 rw [e,z4j,z4j,zh];omega
theorem z0ft {l:List Coin} {c:Coin} {k:Nat}:zh (l.take k++[c]++l.drop k)=zh l+c.o.coin:=by
 have e:zh l=zh (l.take k++l.drop k):=by rw [zY0y]
 rw [e,z4j,z4j,z4j,zh,zh];omega
structure Fine (h:Int) (x:In) (c:Coin):Prop where
 p:c.p=x.p
 ripe:c.reward=true→c.height+2≤h
 opens:(z20 c.o.lock x.key h).1=true
inductive Spent (h:Int):List Coin→List Coin→List In→List Coin→List Coin→Prop
 | nil (r s):Spent h r s [] r s
 | cons {r s x xs r' s' c}:c ∈ r→r[zi r x.p]? = some c→Fine h x c→Spent h (r.take (zi r x.p)++r.drop (zi r x.p+1)) (s++[c]) xs r' s'→Spent h r s (x::xs) r' s'
theorem znu {ρ:Type} {h:Int} {bad:Int→ρ} {K:List Coin→List Coin→ρ} {r s:List Coin} {x:In} {xs:List In} {c:Coin} (hm:c ∈ r) (hc:r[zi r x.p]? = some c) (hf:Fine h x c):z31 h bad K r s (x::xs)=z31 h bad K (r.take (zi r x.p)++r.drop (zi r x.p+1)) (s++[c]) xs:=by
 have hp:z1i r x.p=true:=hasP_mem.2 ⟨c,hm,hf.p⟩;rw [z31,if_pos hp,hc];simp only [zY1k];rw [if_pos hf.opens]
 by_cases hr:c.reward=true
 ·rw [if_pos hr,if_neg (by have:=hf.ripe hr;omega)]
 ·rw [if_neg hr]
theorem Spent.run {ρ:Type} {h:Int} {bad:Int→ρ} {K:List Coin→List Coin→ρ} {r s r' s':List Coin} {xs:List In} (hs:Spent h r s xs r' s'):z31 h bad K r s xs=K r' s':=by
 induction hs with
 | nil r s=>rfl
 | cons hm hc hf _ ih=>rw [znu hm hc hf,ih]
theorem zkq {h:Int} {K:List Coin→List Coin→List Coin × List Coin × Int}:∀ {xs:List In} {r s:List Coin},z03 r→(z31 h z1f K r s xs).2.2=0→∃ r' s',Spent h r s xs r' s'∧z31 h z1f K r s xs=K r' s'
 | [],r,s,_,_=>⟨r,s,.nil r s,rfl⟩
 | x::xs,r,s,hr,h0=>by
  by_cases hp:z1i r x.p=true
  ·obtain ⟨c,hc,hm,hcp⟩:=z0m1 hr hp
   have hf:Fine h x c:=by
    rw [z31,if_pos hp,hc] at h0;simp only [zY1k] at h0
    by_cases hrw:c.reward=true
    ·rw [if_pos hrw] at h0
     by_cases hh:h<c.height+2
     ·rw [if_pos hh] at h0;cases h0
     ·rw [if_neg hh] at h0
      by_cases ho:(z20 c.o.lock x.key h).1=true
      ·exact ⟨hcp,fun _=>by omega,ho⟩
      ·rw [if_neg ho] at h0;cases h0
    ·rw [if_neg hrw] at h0
     by_cases ho:(z20 c.o.lock x.key h).1=true
     ·exact ⟨hcp,fun h=>absurd h hrw,ho⟩
     ·rw [if_neg ho] at h0;cases h0
   have e:=znu (bad:=z1f) (K:=K) (s:=s) (xs:=xs) hm hc hf;rw [e] at h0 ⊢;obtain ⟨r',s',h1,h2⟩:=zkq (z7j hr _) h0;exact ⟨r',s',.cons hm hc hf h1,h2⟩
  ·rw [z31,if_neg hp] at h0
   cases h0
structure SpentAs (h:Int) (r:List Coin) (xs:List In) (r' cs:List Coin):Prop where
 sorted:z03 r'
 mem:∀ c,c ∈ r'↔c ∈ r∧∀ x ∈ xs,x.p≠c.p
 len:cs.length=xs.length
 fine:∀ (i:Nat) (x:In),xs[i]? = some x→∃ c,cs[i]? = some c∧c ∈ r∧Fine h x c
 apart:xs.Pairwise fun x y=>x.p≠y.p
 total:zh r=zh r'+zh cs
theorem Spent.as {h:Int} {r s r' s':List Coin} {xs:List In} (hs:Spent h r s xs r' s'):z03 r→∃ cs,s'=s++cs∧SpentAs h r xs r' cs:=by
 induction hs with
 | nil r s=>exact fun hr=>⟨[],(zY1e s).symm,hr,fun c=>by simp,rfl,fun i x hx=>by simp at hx,.nil,by simp [zh]⟩
 | @cons r s x xs r' s' c hm hc hf hs ih =>
  intro hr;obtain ⟨cs,rfl,H⟩:=ih (z7j hr _);have hcm:=fun d=>z0aj hr hc (d:=d)
  refine ⟨c::cs,by simp,H.sorted,fun d=>?_,by simp [H.len],fun i y hy=>?_,?_,?_⟩
  ·rw [H.mem,hcm]
   constructor
   ·rintro ⟨⟨h1,h2⟩,h3⟩
    refine ⟨h1,fun y hy=>?_⟩;rcases zY0i.1 hy with rfl|hy
    ·rw [← hf.p];exact fun e=>h2 e.symm
    ·exact h3 y hy
   ·rintro ⟨h1,h2⟩
    exact ⟨⟨h1,fun e=>h2 x (zY0p ..) (by rw [← hf.p,e])⟩,fun y hy=>h2 y (zY0n _ hy)⟩
  ·cases i with
   | zero =>
    simp only [zY05,zY00] at hy;subst hy;exact ⟨c,rfl,hm,hf⟩
   | succ i =>
    obtain ⟨d,h1,h2,h3⟩:=H.fine i y (by simpa using hy);exact ⟨d,by simpa using h1,(hcm d).1 h2 |>.1,h3⟩
  ·refine zY1v.2 ⟨fun y hy=>?_,H.apart⟩
   obtain ⟨i,hi⟩:=zY2v hy;obtain ⟨d,_,h2,h3⟩:=H.fine i y hi;have:=((hcm d).1 h2).2;rw [h3.p,hf.p] at this;exact fun e=>this e.symm
  ·rw [z0fs hc,H.total,zh];omega
theorem Spent.of {h:Int}:∀ {xs:List In} {r s cs:List Coin},z03 r→xs.Pairwise (fun x y=>x.p≠y.p)→cs.length=xs.length→(∀ (i:Nat) (x:In),xs[i]? = some x→∃ c,cs[i]? = some c∧c ∈ r∧Fine h x c)→∃ r',Spent h r s xs r' (s++cs)
 | [],r,s,cs,hr,ha,hl,hf=>by
  have:cs=[]:=zY08 hl;subst this;exact ⟨r,by rw [zY1e];exact .nil r s⟩
 | x::xs,r,s,[],hr,ha,hl,hf=>by cases hl
 | x::xs,r,s,c::cs,hr,ha,hl,hf=>by
  obtain ⟨c',h1,hm,hfx⟩:=hf 0 x rfl;simp only [zY05,zY00] at h1;subst h1;have hc:r[zi r x.p]? = some c:=by rw [← hfx.p];exact z02z hr hm
  have ha':=zY1v.1 ha;obtain ⟨r',hs⟩:=Spent.of (s:=s++[c]) (cs:=cs) (z7j hr (zi r x.p)) ha'.2 (by simpa using hl) fun i y hy=>by
   obtain ⟨d,k1,k2,k3⟩:=hf (i+1) y (by simpa using hy);refine ⟨d,by simpa using k1,(z0aj hr hc).2 ⟨k2,?_⟩,k3⟩;rw [k3.p,hfx.p];exact fun e=>ha'.1 y (zY0a hy) e.symm
  exact ⟨r',.cons hm hc hfx (by rw [zY1c] at hs;exact hs)⟩
def zbx (nm h:Int) (rw:Bool) (i:Nat) (o:Out):Coin:=⟨⟨nm,i⟩,o,h,rw⟩
inductive Brought (nm h:Int) (rw:Bool):List Coin→Nat→List Out→List Coin→Prop
 | nil (r i):Brought nm h rw r i [] r
 | cons {r:List Coin} {i:Nat} {o:Out} {os:List Out} {m:List Coin}:z1i r ⟨nm,i⟩=false→Brought nm h rw (r.take (zi r ⟨nm,i⟩)++[zbx nm h rw i o]++r.drop (zi r ⟨nm,i⟩)) (i+1) os m→Brought nm h rw r i (o::os) m
theorem Brought.run {ρ:Type} {nm h:Int} {rw:Bool} {bad:Int→ρ} {K:List Coin→ρ} {r m:List Coin} {i:Nat} {os:List Out} (hb:Brought nm h rw r i os m):z2q nm h rw bad K r i os=K m:=by
 induction hb with
 | nil r i=>rfl
 | cons hn _ ih=>rw [z2q,if_neg (by simp [hn])];exact ih
theorem zkr {nm h:Int} {rw:Bool} {K:List Coin→List Coin × List Coin × Int}:∀ {os:List Out} {r:List Coin} {i:Nat},(z2q nm h rw z1f K r i os).2.2=0→∃ m,Brought nm h rw r i os m∧z2q nm h rw z1f K r i os=K m
 | [],r,i,_=>⟨r,.nil r i,rfl⟩
 | o::os,r,i,h0=>by
  rw [z2q] at h0 ⊢
  cases hp:z1i r ⟨nm,i⟩ with
  | true=>rw [hp,if_pos rfl] at h0;cases h0
  | false =>
   rw [hp,if_neg (by simp)] at h0;rw [if_neg (by simp)];obtain ⟨m,h1,h2⟩:=zkr h0;exact ⟨m,.cons hp h1,h2⟩
def z0l (os:List Out):Int:=(os.map Out.coin).sum
structure BroughtAs (nm h:Int) (rw:Bool) (r:List Coin) (i:Nat) (os:List Out) (m:List Coin):Prop where
 sorted:z03 m
 mem:∀ c,c ∈ m↔c ∈ r∨∃ (j:Nat) (o:Out),os[j]? = some o∧c=zbx nm h rw (i+j) o
 free:∀ c ∈ r,∀ j,j<os.length→c.p≠⟨nm,((i+j:Nat):Int)⟩
 total:zh m=zh r+z0l os
 len:m.length=r.length+os.length
theorem Brought.as {nm h:Int} {rw:Bool} {r m:List Coin} {i:Nat} {os:List Out} (hb:Brought nm h rw r i os m):z03 r→BroughtAs nm h rw r i os m:=by
 induction hb with
 | nil r i=>exact fun hr=>⟨hr,fun c=>by simp,fun c _ j hj=>by simp at hj,by simp [z0l],by simp⟩
 | @cons r i o os m hn hb ih =>
  intro hr;have H:=ih (z5z hr (c:=zbx nm h rw i o) hn);refine ⟨H.sorted,fun c=>?_,fun c hc j hj=>?_,?_,?_⟩
  ·rw [H.mem,put_mem]
   constructor
   ·rintro ((rfl|h1)|⟨j,q,h1,h2⟩)
    ·exact .inr ⟨0,o,rfl,rfl⟩
    ·exact .inl h1
    ·exact .inr ⟨j+1,q,by simpa using h1,by rw [h2,show i+1+j=i+(j+1) by omega]⟩
   ·rintro (h1|⟨j,q,h1,h2⟩)
    ·exact .inl (.inr h1)
    ·cases j with
     | zero =>
      simp only [zY05,zY00] at h1;subst h1;exact .inl (.inl h2)
     | succ j=>exact .inr ⟨j,q,by simpa using h1,by rw [h2,show i+1+j=i+(j+1) by omega]⟩
  ·cases j with
   | zero=>exact hasP_not.1 hn c hc
   | succ j =>
    have:=H.free c (put_mem.2 (.inr hc)) j (by simpa using hj)
    rwa [show i+1+j=i+(j+1) by omega] at this
  ·rw [H.total,z0ft]
   simp only [z0l,zY1m,List.sum_cons,zbx];omega
  ·rw [H.len]
   simp only [zY04,zY0e,zY0z,zY0c,zY0r];omega
theorem Brought.of {nm h:Int} {rw:Bool}:∀ {os:List Out} {r:List Coin} {i:Nat},z03 r→(∀ c ∈ r,∀ j,j<os.length→c.p≠⟨nm,((i+j:Nat):Int)⟩)→∃ m,Brought nm h rw r i os m
 | [],r,i,_,_=>⟨r,.nil r i⟩
 | o::os,r,i,hr,hf=>by
  have hn:z1i r ⟨nm,i⟩=false:=hasP_not.2 fun c hc=>hf c hc 0 (by simp)
  obtain ⟨m,hb⟩:=Brought.of (os:=os) (i:=i+1) (z5z hr (c:=zbx nm h rw i o) hn) fun c hc j hj=>by
   rcases put_mem.1 hc with rfl|hc
   ·simp only [zbx,ne_eq,Point.mk.injEq,not_and]
    intro _;omega
   ·have:=hf c hc (j+1) (by simpa using hj)
    rwa [show i+(j+1)=i+1+j by omega] at this
  exact ⟨m,.cons hn hb⟩
theorem z0fu (os:List Out):∀ s:Int,os.foldl (fun s o=>s - o.coin) s=s - z0l os:=by
 induction os with
 | nil=>intro s;simp [z0l]
 | cons o os ih=>intro s;rw [List.foldl_cons,ih];simp only [z0l,zY1m,List.sum_cons];omega
theorem zcm (t:Tx) (s:List Coin):z0u t s=zh s - z0l t.outs:=by
 unfold z0u;rw [z0fu,z07v];omega
structure Done (l:List Coin) (t:Tx) (nm h:Int) (r s m:List Coin):Prop where
 ok:CoinsOK l
 tx:zg t=0
 nm1:1≤nm
 nm2:nm≤120
 h1:1≤h
 h2:h≤1000
 height:t.ins.length=0→t.height=h
 spent:Spent h l [] t.ins r s
 fee:t.ins.length≠0→0≤z0u t s
 brought:Brought nm h (decide ((t.ins.length:Int)=0)) r 0 t.outs m
 end_:CoinsOK m
theorem Done.run {l:List Coin} {t:Tx} {nm h:Int} {r s m:List Coin} (d:Done l t nm h r s m):zx l t nm h=(m,s,0):=by
 unfold zx;have hE:z4s s m=(m,s,0):=by
  unfold z4s;rw [if_neg (by rw [(z17 m).2 d.end_];decide)]
 have a:=d.nm1;have b:=d.nm2;have c:=d.h1;have e:=d.h2;rw [if_neg (by rw [(z17 l).2 d.ok];decide),if_neg (by rw [d.tx];decide),if_neg (by omega)]
 by_cases h0:(t.ins.length:Int)=0
 ·rw [if_pos h0,if_neg (by rw [d.height (by omega)];simp),d.spent.run,d.brought.run,hE]
 ·rw [if_neg h0,d.spent.run,if_neg (by have:=d.fee (by omega);omega),d.brought.run,hE]
theorem zfv {l:List Coin} {t:Tx} {nm h:Int} (h0:(zx l t nm h).2.2=0):∃ r,Done l t nm h r (zx l t nm h).2.1 (zx l t nm h).1:=by
 have key:∃ r s m,Done l t nm h r s m:=by
  unfold zx at h0
  by_cases k1:z9 l=0
  ·rw [if_neg (by rw [k1];decide)] at h0
   have ok:=(z17 l).1 k1
   by_cases k2:zg t=0
   ·rw [if_neg (by rw [k2];decide)] at h0
    by_cases k3:nm<1∨120<nm∨h<1∨1000<h
    ·rw [if_pos k3] at h0;cases h0
    ·rw [if_neg k3] at h0
     by_cases k4:(t.ins.length:Int)=0
     ·rw [if_pos k4] at h0
      by_cases k5:t.height≠h
      ·rw [if_pos k5] at h0;cases h0
      ·rw [if_neg k5] at h0
       obtain ⟨r,s,q1,q2⟩:=zkq ok.sorted h0;rw [q2] at h0;obtain ⟨m,q3,q4⟩:=zkr h0;rw [q4] at h0;unfold z4s at h0
       by_cases k6:z9 m=0
       ·exact ⟨r,s,m,ok,k2,by omega,by omega,by omega,by omega,fun _=>zY12.1 k5,q1,fun h=>absurd (by omega) h,q3,(z17 m).1 k6⟩
       ·rw [if_pos k6] at h0;exact absurd h0 k6
     ·rw [if_neg k4] at h0
      obtain ⟨r,s,q1,q2⟩:=zkq ok.sorted h0;rw [q2] at h0
      by_cases k5:z0u t s<0
      ·simp only [if_pos k5] at h0;cases h0
      ·simp only [if_neg k5] at h0
       obtain ⟨m,q3,q4⟩:=zkr h0;rw [q4] at h0;unfold z4s at h0
       by_cases k6:z9 m=0
       ·exact ⟨r,s,m,ok,k2,by omega,by omega,by omega,by omega,fun h=>absurd (by omega) k4,q1,fun _=>by omega,q3,(z17 m).1 k6⟩
       ·rw [if_pos k6] at h0;exact absurd h0 k6
   ·rw [if_pos k2] at h0;exact absurd h0 k2
  ·rw [if_pos k1] at h0;exact absurd h0 k1
 obtain ⟨r,s,m,d⟩:=key;refine ⟨r,?_⟩;rw [d.run];exact d
end
section
open Go.RowKit
theorem SpentAs.from {h:Int} {l:List Coin} {xs:List In} {r cs:List Coin} (S:SpentAs h l xs r cs) {c:Coin} (hc:c ∈ cs):c ∈ l∧∃ x ∈ xs,x.p=c.p:=by
 obtain ⟨i,hi,rfl⟩:=zY2h hc;have hl:=S.len;obtain ⟨c,h1,h2,h3⟩:=S.fine i xs[i] (zY03 (by omega));rw [zY03 hi] at h1;injection h1 with h1
 rw [h1];exact ⟨h2,_,zY1p _,h3.p.symm⟩
theorem SpentAs.all {h:Int} {l:List Coin} {xs:List In} {r cs:List Coin} (S:SpentAs h l xs r cs) (hs:z03 l) {c:Coin}:c ∈ l↔c ∈ r∨c ∈ cs:=by
 constructor
 ·intro hc
  by_cases hx:∃ x ∈ xs,x.p=c.p
  ·obtain ⟨x,hx,he⟩:=hx
   obtain ⟨i,hi⟩:=zY2v hx;obtain ⟨d,h1,h2,h3⟩:=S.fine i x hi;have:d=c:=zjq hs h2 hc (h3.p.trans he);subst this;exact .inr (zY0a h1)
  ·exact .inl ((S.mem c).2 ⟨hc,fun x hx' he=>hx ⟨x,hx',he⟩⟩)
 ·rintro (hc|hc)
  ·exact ((S.mem c).1 hc).1
  ·exact (S.from hc).1
theorem Done.spentAs {l:List Coin} {t:Tx} {nm h:Int} {r s m:List Coin} (d:Done l t nm h r s m):SpentAs h l t.ins r s:=by
 obtain ⟨cs,e,S⟩:=d.spent.as d.ok.sorted;rw [zY18] at e;exact e ▸ S
theorem Done.broughtAs {l:List Coin} {t:Tx} {nm h:Int} {r s m:List Coin} (d:Done l t nm h r s m):BroughtAs nm h (decide ((t.ins.length:Int)=0)) r 0 t.outs m:=d.brought.as d.spentAs.sorted
theorem Done.short {l:List Coin} {t:Tx} {nm h:Int} {r s m:List Coin} (d:Done l t nm h r s m):z5x s:=by
 have S:=d.spentAs;exact ⟨by have:=S.len;have:=(z39 d.tx).ins;omega,fun c hc=>d.ok.short.2 c (S.from hc).1⟩
theorem z030 {t:Tx} (ok:TxOK t):0<z0l t.outs:=by
 have key:∀ os:List Out,(∀ o ∈ os,1≤o.coin)→(os.length:Int)≤z0l os:=by
  intro os
  induction os with
  | nil=>intro _;simp [z0l]
  | cons o os ih =>
   intro h;have h1:=h o (zY0p ..);have h2:=ih fun x hx=>h x (zY0n _ hx)
   simp only [z0l,zY1m,List.sum_cons,zY0c] at h2 ⊢;omega
 have:=key t.outs fun o ho=>(ok.good o ho).1
 have:=ok.some;omega
theorem z0fv {m:List Coin} {p:Point} (ok:CoinsOK m) (h:z1i m p=false):z01o m p=(z5d,7):=by
 unfold z01o;rw [if_neg (by rw [(z17 m).2 ok];decide),if_neg (by simp [h])]
theorem Done.gone {l:List Coin} {t:Tx} {nm h:Int} {r s m:List Coin} (d:Done l t nm h r s m) {x:In} (hx:x ∈ t.ins) (hn:x.p.tx≠nm):z01o m x.p=(z5d,7):=by
 have S:=d.spentAs;have B:=d.broughtAs;refine z0fv d.end_ (hasP_not.2 fun c hc e=>?_);rcases (B.mem c).1 hc with hc|⟨j,o,_,rfl⟩
 ·exact ((S.mem c).1 hc).2 x hx e.symm
 ·exact hn (by rw [← e];rfl)
end
section
open Go.RowKit
open Go.Lib (itoa)
set_option maxRecDepth 100000
set_option maxHeartbeats 4000000
def ziw (b:Block) (ns:List Int) (l:List Coin) (us:List Undo) (most:Int):List Coin × List Undo × Int :=
 if most < -z0u (b.txs.getD 0 zTx) [] then ([],[],9) else
 if (zx l (b.txs.getD 0 zTx) (ns.getD 0 0) b.height).2.2≠0 then ([],[],(zx l (b.txs.getD 0 zTx) (ns.getD 0 0) b.height).2.2) else
 ((zx l (b.txs.getD 0 zTx) (ns.getD 0 0) b.height).1,us.set 0 ⟨(zx l (b.txs.getD 0 zTx) (ns.getD 0 0) b.height).2.1⟩,0)
def z94 (b:Block) (ns:List Int) (l:List Coin) (us:List Undo) (most:Int) (i:Nat):List Tx→List Coin × List Undo × Int
 | []=>ziw b ns l us most
 | t::r=>if (zx l t (ns.getD i 0) b.height).2.2≠0 then ([],[],(zx l t (ns.getD i 0) b.height).2.2) else
  z94 b ns (zx l t (ns.getD i 0) b.height).1 (us.set i ⟨(zx l t (ns.getD i 0) b.height).2.1⟩) (most+z0u t (zx l t (ns.getD i 0) b.height).2.1) (i+1) r
def z1n (k:Book) (l:List Coin) (b:Block):List Coin × List Undo × Int :=
 if z9 l≠0 then ([],[],z9 l) else
 if (z09 k b).2.2.2≠0 then ([],[],(z09 k b).2.2.2) else
 z94 b (z09 k b).2.2.1 l (List.replicate b.txs.length ⟨[]⟩) (z0e b.height) 1 (b.txs.drop 1)
theorem zbm {k:Book} {b:Block} (h:(z09 k b).2.2.2=0):zf b=0∧(z09 k b).2.2.1.length=b.txs.length:=by
 unfold z09 at h ⊢
 by_cases hp:(z0h b).2=0
 ·rw [if_neg (fun k=>k hp)] at h ⊢
  refine ⟨zga hp,?_⟩;unfold z9u at h ⊢
  by_cases ha:(z0z k (zet b++[(z0h b).1])).2.2=0
  ·rw [if_neg (fun k=>k ha)]
   have:=zjn ha;have h1:(zet b).length=b.txs.length:=by simp [zet]
   show (List.take _ _).length=_
   rw [zY0e,this,zY04,h1,zY1f];omega
  ·rw [if_pos ha] at h;exact absurd h ha
 ·rw [if_pos hp] at h;exact absurd h hp
theorem z0j6 {t:Tx} (h:zg t=0):z7y (t,[]):=by
 have ok:=z39 h;exact ⟨by simp,by simp,by have:=ok.outs;simp only;omega,fun o ho=>by have:=ok.good o ho;omega⟩
theorem z0m2 {t:Tx} (ok:TxOK t):z0l t.outs≤1000000000 * t.outs.length:=by
 have key:∀ os:List Out,(∀ o ∈ os,o.coin≤1000000000)→z0l os≤1000000000 * os.length:=by
  intro os
  induction os with
  | nil=>intro _;simp [z0l]
  | cons o os ih =>
   intro h;have h1:=h o (zY0p ..);have h2:=ih fun x hx=>h x (zY0n _ hx)
   simp only [z0l,zY1m,List.sum_cons,zY0c] at h2 ⊢;omega
 exact key t.outs fun o ho=>(ok.good o ho).2.1
theorem z0m3 {t:Tx} (h:zg t=0) : -10000000000≤z0u t []∧z0u t []<0:=by
 have ok:=z39 h;have h1:=z030 ok;have h2:=z0m2 ok;have h3:=ok.outs;rw [zcm];simp only [zh];omega
theorem zsi {l:List Coin} {t:Tx} {nm h:Int} (h0:(zx l t nm h).2.2=0):z7y (t,(zx l t nm h).2.1) ∧ -10000000000≤z0u t (zx l t nm h).2.1∧z0u t (zx l t nm h).2.1≤10000000000:=by
 obtain ⟨r,d⟩:=zfv h0;generalize (zx l t nm h).2.1=s at *;generalize (zx l t nm h).1=m at *;have ok:=z39 d.tx;have S:=d.spentAs;have B:=d.broughtAs;have h1:=S.total;have h2:=B.total;have hl:=d.ok.total;have hm:=d.end_.total;have hr:0≤zh r:=zce fun c hc=>d.ok.good c ((S.mem c).1 hc).1
 have hs:0≤zh s:=zce fun c hc=>d.ok.good c (S.from hc).1
 have ho:=z030 ok;have hsl:=S.len;have:=ok.ins;have:=ok.outs;refine ⟨⟨by simp only;omega,fun c hc=>by have:=z3k (d.ok.good c (S.from hc).1);omega,by simp only;omega,fun o ho=>by have:=ok.good o ho;omega⟩,?_⟩;rw [zcm];omega
section
variable {sp:Nat→zd} {N:Nat} {E E':Env} {ks:List (List Dt→Option (List Dt))} {res:Option (List Dt)} {k:T}
theorem z031 {a:Atom} {n:Nat} (ha:a.val E=some (I n)) (h:n≤1000):denX sp E (.mkz 1 [.nil 6] a)=some (.l 1 ((List.replicate n (⟨[]⟩:Undo)).map z2h)):=by
 rw [z0o0 (sz:=1) (z:=[.nil 6]) ha (by omega) (by omega) rfl,zY2k,List.map_replicate];rfl
theorem zev {α:Type} {f:α→List Dt} {l:List α} {x y:α} {sz j n:Nat} {m:Int} {a b:Atom} {vs:List Atom} {ds:List Dt} (hm:m.toNat=n) (ha:a.val E=some (.l sz (l.map f))) (hb:b.val E=some (I m)) (hv:vals E vs=some ds) (h0:0≤m) (hs:j+ds.length≤sz) (hx:l[n]? = some x) (hy:z6e (f x) j ds=f y):denX sp E (.set a b j vs)=some (.l sz ((l.set n y).map f)):=by
 subst hm;exact z0ek ha hb hv h0 hs hx hy
theorem z032 {σ ρ:Type} [Enc ρ] {ats:List Atom} {body:T} (enc:σ→Int→List Dt) (go:σ→Nat→ρ) (Inv:σ→Nat→Prop) (s0:σ) (n:Nat) (h:vals E ats=some (enc s0 n)) (h0:Inv s0 n) (hN:n<N)
  (step:∀ (s:σ) (i:Nat),i<n→Inv s (i+1)→∀ again:List Dt→Option (List Dt),(∀ s',Inv s' i→again (enc s' i)=ret (go s' i))→den sp N body (E++enc s ((i:Int)+1)) (ks++[again])=ret (go s (i+1)))
  (last:∀ (s:σ),Inv s 0→∀ again:List Dt→Option (List Dt),den sp N body (E++enc s 0) (ks++[again])=ret (go s 0)):den sp N (.loop ats body) E ks=ret (go s0 n):=by
 refine z0n h ?_;have key:∀ (i:Nat) (s:σ),i≤n→Inv s i→∀ M,i<M→z01 (fun again ds=>den sp N body (E++ds) (ks++[again])) M (enc s i)=ret (go s i):=by
  intro i
  induction i with
  | zero =>
   intro s _ hi M hM;obtain ⟨M,rfl⟩:∃ j,M=j+1:=⟨M - 1,by omega⟩
   rw [z01];exact last s hi _
  | succ i ih =>
   intro s hn hi M hM;obtain ⟨M,rfl⟩:∃ j,M=j+1:=⟨M - 1,by omega⟩
   rw [z01];exact step s i (by omega) hi _ fun s' hi'=>ih s' (by omega) hi' M (by omega)
 exact key n s0 (zY0h _) h0 N hN
end
theorem z1j {α:Type} {l:List α} {i:Nat} (d:α) (h:i<l.length):l[i]? = some (l.getD i d):=by
 rw [zY0w,zY03 h];rfl
def zdk (b:Block) (ns:List Int) (us:List Undo) (l:List Coin):Nat→List Coin × Int
 | 0=>(l,0)
 | i+1=>if (z16 l (b.txs.getD (i+1) zTx) (ns.getD (i+1) 0) (us.getD (i+1) ⟨[]⟩).spent).2≠0 then ([],(z16 l (b.txs.getD (i+1) zTx) (ns.getD (i+1) 0) (us.getD (i+1) ⟨[]⟩).spent).2) else
  zdk b ns us (z16 l (b.txs.getD (i+1) zTx) (ns.getD (i+1) 0) (us.getD (i+1) ⟨[]⟩).spent).1 i
def z3n (k:Book) (l:List Coin) (b:Block) (us:List Undo):List Coin × Int :=
 if z9 l≠0 then ([],z9 l) else
 if (z09 k b).2.2.2≠0 then ([],(z09 k b).2.2.2) else
 if (us.length:Int)≠b.txs.length then ([],4) else
 if (z16 l (b.txs.getD 0 zTx) ((z09 k b).2.2.1.getD 0 0) (us.getD 0 ⟨[]⟩).spent).2≠0 then ([],(z16 l (b.txs.getD 0 zTx) ((z09 k b).2.2.1.getD 0 0) (us.getD 0 ⟨[]⟩).spent).2) else
 zdk b (z09 k b).2.2.1 us (z16 l (b.txs.getD 0 zTx) ((z09 k b).2.2.1.getD 0 0) (us.getD 0 ⟨[]⟩).spent).1 (b.txs.length - 1)
noncomputable def z2w:zd:=spD (fun _:Book × List Coin × Block=>True) fun x=>z1n x.1 x.2.1 x.2.2
theorem zcn (k:Book) (l:List Coin) (b:Block):z2w [.l 1 (k.texts.map z13),.l 6 (l.map zb),I b.parent,I b.height,I b.work,I b.nonce,.l 3 (b.txs.map eTx)]=some [.l 6 ((z1n k l b).1.map zb),.l 1 ((z1n k l b).2.1.map z2h),I (z1n k l b).2.2]:=zm (f:=fun x:Book × List Coin × Block=>z1n x.1 x.2.1 x.2.2) (k,l,b) trivial
def z95 (us:List Undo):Prop:=∀ u ∈ us,zcl u.spent
noncomputable def z7m:zd:=spD (fun x:Book × List Coin × Block × List Undo=>z95 x.2.2.2) fun x=>z3n x.1 x.2.1 x.2.2.1 x.2.2.2
theorem zu3 (k:Book) (l:List Coin) (b:Block) (us:List Undo) (h:z95 us):z7m [.l 1 (k.texts.map z13),.l 6 (l.map zb),I b.parent,I b.height,I b.work,I b.nonce,.l 3 (b.txs.map eTx),.l 1 (us.map z2h)]=some [.l 6 ((z3n k l b us).1.map zb),I (z3n k l b us).2]:=zm (p:=fun x:Book × List Coin × Block × List Undo=>z95 x.2.2.2) (f:=fun x:Book × List Coin × Block × List Undo=>z3n x.1 x.2.1 x.2.2.1 x.2.2.2) (k,l,b,us) h
theorem short_nil:z5x []:=⟨by simp,by simp⟩
theorem z0fw {E:Env} {as0:List Atom} {l:List Coin} {n m:Int} (h:vals E as0=some [.l 6 (l.map zb),I 0,.l 6 [],I 0,I n]) (e:n=m):vals E as0=some [.l 6 (l.map zb),I 0,.l 6 [],I 0,I m]:=e ▸ h
theorem z033 (n:Int):0≤z0e n∧z0e n≤1000:=by
 have h:=zdg n;exact h
theorem z034 {us:List Undo} (h:z95 us) (i:Nat):zcl (us.getD i ⟨[]⟩).spent:=by
 rw [zY0w]
 cases hi:us[i]? with
 | none=>exact short_nil.2
 | some u=>exact h u (zY0a hi)
attribute [local irreducible] den denX z0i z0q
attribute [local irreducible] z00 spD zx z16 z0u z09 z9 z0e
def zq9:T :=
 .lets [.call 12 [35,36,37,38] 0] [] (.lets [.bin .add 22 39] [] (.lets [.bin .add 23 (zI 1)] [] (.again 0 [30,19,33,32,40,
 .v 41])))
def zqa:T :=
 .lets [.idx 6 23 0,.idx 6 23 1,.idx 6 23 2] [] (.lets [] [.inr 1 33 23] (.lets [.idx 33 23 0] [] zq9))
def zqb:T :=
 .lets [.set 20 23 0 [31]] [] (.lets [.bin .neq 32 (zI 0)] [] (.ite 34 (.ret [.c (.nil 6),.c (.nil 1),32]) (.lets [] [.inr 3 6 23]
 zqa)))
def zqc:T :=
 .lets [.call 17 [18,26,27,28,29,3] 0,.call 17 [18,26,27,28,29,3] 1,.call 17 [18,26,27,28,29,3] 2] [] (.lets []
 [.inr 1 20 23] zqb)
def zqd:T :=
 .lets [.idx 6 23 0,.idx 6 23 1,.idx 6 23 2] [] (.lets [] [.inr 1 11 23] (.lets [.idx 11 23 0] [] zqc))
def zqe:T :=
 .lets [.set 20 (zI 0) 0 [37]] [] (.lets [.bin .neq 38 (zI 0)] [] (.ite 40 (.ret [.c (.nil 6),.c (.nil 1),38]) (.ret [36,39,.c (.i
 .i64 0)])))
def zqf:T :=
 .lets [.call 17 [18,32,33,34,35,3] 0,.call 17 [18,32,33,34,35,3] 1,.call 17 [18,32,33,34,35,3] 2] [] (.lets []
 [.inr 1 20 (zI 0)] zqe)
def zqg:T :=
 .lets [.idx 6 (zI 0) 0,.idx 6 (zI 0) 1,.idx 6 (zI 0) 2] [] (.lets [] [.inr 1 11 (zI 0)] (.lets [.idx 11 (.c (.i
 .i64 0)) 0] [] zqf))
def zqh:T :=
 .lets [.neg 29] [] (.lets [.bin .gtr 30 22] [] (.ite 31 (.ret [.c (.nil 6),.c (.nil 1),zI 9]) (.lets [] [.inr 3 6 (zI 0)]
 zqg)))
def zqi:T :=
 .lets [.idx 6 (zI 0) 0,.idx 6 (zI 0) 1,.idx 6 (zI 0) 2] [] (.lets [.call 12 [26,27,28,.c (.nil 6)] 0] [] zqh)
def znv:T :=
 .lets [.len 6] [] (.lets [.bin .lss 23 24] [] (.ite 25 (.lets [] [.inr 3 6 23] zqd) (.lets [] [.inr 3 6 (zI 0)]
 zqi)))
def znw:T :=
 .lets [.call 66 [3] 0,.call 66 [3] 1] [] (.lets [.len 6] [] (.lets [.mkz 1 [.nil 6] 16] [] (.loop [1,.c (.nil 6),17,12,14,zI 1]
 znv)))
def znx:T :=
 .lets [.call 65 [0,2,3,4,5,6] 0,.call 65 [0,2,3,4,5,6] 1,.call 65 [0,2,3,4,5,6] 2,.call 65 [0,2,3,
 .v 4,5,6] 3] [] (.lets [.bin .neq 12 (zI 0)] [] (.ite 13 (.ret [.c (.nil 6),.c (.nil 1),12]) znw))
def zco:T :=
 .lets [.call 8 [1] 0] [] (.lets [.bin .neq 7 (zI 0)] [] (.ite 8 (.ret [.c (.nil 6),.c (.nil 1),7]) znx))
def z08i:T :=
 .lets [.bin .neq 40 (zI 0)] [] (.ite 41 (.ret [.c (.nil 6),40]) (.lets [.bin .sub 32 (zI 1)] [] (.again 0 [39,40,30,31,.v
 42])))
def z08j:T :=
 .lets [.idx 7 32 0] [] (.lets [.call 28 [28,34,35,36,37,38] 0,.call 28 [28,34,35,36,37,38] 1] [] z08i)
def z08k:T :=
 .lets [.idx 6 32 0,.idx 6 32 1,.idx 6 32 2] [] (.lets [] [.inr 1 12 32] (.lets [.idx 12 32 0] [] (.lets [] [.inr 1 7 (.v
 32)] z08j)))
def z08l:T :=
 .loop [23,24,.c (.nil 6),zI 0,27] (.lets [.bin .gtr 32 (zI 0)] [] (.ite 33 (.lets [] [.inr 3 6 32] z08k) (.ret [28,.c
 (.i .i64 0)])))
def z08m:T :=
 .lets [.bin .neq 24 (zI 0)] [] (.ite 25 (.ret [.c (.nil 6),24]) (.lets [.len 6] [] (.lets [.bin .sub 26 (zI 1)] [] z08l)))
def z08n:T :=
 .lets [.idx 7 (zI 0) 0] [] (.lets [.call 28 [1,18,19,20,21,22] 0,.call 28 [1,18,19,20,21,22] 1] [] z08m)
def z08o:T :=
 .lets [.idx 6 (zI 0) 0,.idx 6 (zI 0) 1,.idx 6 (zI 0) 2] [] (.lets [] [.inr 1 12 (zI 0)] (.lets [.idx 12 (.c (.i
 .i64 0)) 0] [] (.lets [] [.inr 1 7 (zI 0)] z08n)))
def z08p:T :=
 .lets [.len 6] [] (.lets [.bin .neq 15 16] [] (.ite 17 (.ret [.c (.nil 6),zI 4]) (.lets [] [.inr 3 6 (zI 0)] z08o)))
def z08q:T :=
 .lets [.call 65 [0,2,3,4,5,6] 0,.call 65 [0,2,3,4,5,6] 1,.call 65 [0,2,3,4,5,6] 2,.call 65 [0,2,3,
 .v 4,5,6] 3] [] (.lets [.bin .neq 13 (zI 0)] [] (.ite 14 (.ret [.c (.nil 6),13]) (.lets [.len 7] [] z08p)))
def zhw:T :=
 .lets [.call 8 [1] 0] [] (.lets [.bin .neq 8 (zI 0)] [] (.ite 9 (.ret [.c (.nil 6),8]) z08q))
attribute [local irreducible] z26 z4x z7l z2u z72
theorem zhx:Meets Tryz.prog z2w 24 ⟨[.agg 1,.one,.agg 5],[(false,[.pure]),(false,[.pure]),(false,[.scal])],false⟩:=by
 refine zl (sp:=(z0g [(8,z2u),(12,z72),(17,z7l),(65,z26),(66,z4x)])) (sigs:=z0p) (cut:=[]) (hints:=[⟨10,[.t 1,.r 6 101 6,.r 7 111 1,.t 8,.t 13,.t 15,.z 41]⟩]) (fn:=Tryz.f24) (t:=zco) (by kernel_rfl) (by kernel_rfl) (by kernel_rfl) ?_ ?_
 ·exact (z05 (L:=[(8,z2u),(12,z72),(17,z7l),(65,z26),(66,z4x)]) ⟨ze rfl zdc,ze rfl z0af,ze rfl z0fr,ze rfl zbl,ze rfl z01r,trivial⟩)
 ·rintro ds rs hok h
  obtain ⟨⟨k,l,b⟩,-,rfl,rfl⟩:=zp h;clear h;refine ⟨⟨100,?_⟩,z8l ⟨rfl,trivial⟩⟩
  show den _ _ zco [.l 1 (k.texts.map z13),.l 6 (l.map zb),I b.parent,I b.height,I b.work,I b.nonce,.l 3 (b.txs.map eTx)] []=ret (z1n k l b)
  have a1:=z44 l;have a2:=z7i k b;have a3:=zkp b.height;have hnm:=zbm (k:=k) (b:=b);have hrw:0≤z0e b.height∧z0e b.height≤1000:=z033 b.height;unfold zco z1n;generalize z09 k b=nm at *;obtain ⟨tx,n0,ns,e⟩:=nm;generalize z0e b.height=rw0 at *;simp only at *
  by_cases hc:z9 l=0
  rotate_left
  ·repeat' (first|refine dq1 ?_|refine dqk rfl (a1) ?_|exact z6 rfl rfl|refine tR (fun h=>?_) fun h=>?_|fail)
   all_goals (exfalso;omega)
  by_cases he:e=0
  rotate_left
  ·repeat' (first|refine dq1 ?_|refine dqk rfl (a1) ?_|refine dqK rfl (a2) ?_|exact z6 rfl rfl|refine tR (fun h=>?_) fun h=>?_|fail)
   all_goals (exfalso;omega)
  obtain ⟨hb,hnl⟩:=hnm he;have ok:=z1g hb;have hl4:=ok.len;have hl1:=ok.some;subst he
  repeat' (first|refine dq1 ?_|refine dqk rfl (a1) ?_|refine dqK rfl (a2) ?_|refine dqK rfl (a3) ?_|refine z5 (z031 rfl (by omega)) ?_|exact z6 rfl rfl|refine tR (fun h=>?_) fun h=>?_|fail)
  have hdl:(b.txs.drop 1).length=b.txs.length - 1:=by simp
  (refine zr (fun (a:List Coin × List Undo × Int) k=>[.l 6 (a.1.map zb),.l 6 [],.l 1 (a.2.1.map z2h),I 0,I a.2.2,I (k+1)]) (fun (a:List Coin × List Undo × Int) k (r:List Tx)=>z94 b ns a.1 a.2.1 a.2.2 (k+1) r) (fun a k=>a.2.1.length=b.txs.length ∧ -(10000000000 * ((k:Int)+1))≤a.2.2∧a.2.2≤10000000000 * ((k:Int)+1)) (l,List.replicate b.txs.length ⟨[]⟩,rw0) (b.txs.drop 1) ?_ ?_ ?_ ?_ ?_;rfl;exact ⟨by simp,by simp only;omega,by simp only;omega⟩;omega)
  ·rintro ⟨l,us,most⟩ i x r hx hd hk ⟨hu,m1,m2⟩ again hag
   simp only at hu m1 m2 hag ⊢;have hx':b.txs[((i:Int)+1).toNat]? = some x:=by
    rw [show ((i:Int)+1).toNat=1+i by omega,← zY1t];exact hx
   have hn':ns[((i:Int)+1).toNat]? = some (ns.getD (i+1) 0):=by
    rw [show ((i:Int)+1).toNat=i+1 by omega];exact z1j 0 (by omega)
   have hu':us[i+1]? = some (us.getD (i+1) ⟨[]⟩):=z1j _ (by omega);rw [z94];have a4:=zgb l x (ns.getD (i+1) 0) b.height;have hfee:=zsi (l:=l) (t:=x) (nm:=ns.getD (i+1) 0) (h:=b.height);generalize ns.getD (i+1) 0=nm at *;generalize us.getD (i+1) ⟨[]⟩=u0 at *;generalize zx l x nm b.height=q at *;obtain ⟨l2,sp,f⟩:=q;simp only at a4 hfee ⊢
   by_cases hf:f=0
   ·obtain ⟨hd1,hd2,hd3⟩:=hfee hf
    subst hf;rw [if_neg (fun h=>h rfl)];have a5:=zdz x sp hd1;have hs1:(us.set (i+1) (⟨sp⟩:Undo))[((i:Int)+1).toNat]? = some ⟨sp⟩:=by
     rw [show ((i:Int)+1).toNat=i+1 by omega];exact zY0f (by omega)
    have hsl:(us.set (i+1) (⟨sp⟩:Undo)).length=us.length:=zY3b ..;generalize z0u x sp=fe at *
    repeat' (first|refine dq1 ?_|refine dqc ?_|refine dqm ?_|refine dqK rfl (a4) ?_|refine dqk rfl (a5) ?_|refine z5 (zev (n:=i+1) (x:=u0) (y:=⟨sp⟩) (by omega) rfl rfl rfl (by omega) (zY0h _) hu' rfl) ?_|refine dqT ?_|refine dqF ?_|fail)
    exact z7 rfl rfl (hag (l2,us.set (i+1) ⟨sp⟩,most+fe) ⟨by simpa using hu,by simp only;omega,by simp only;omega⟩)
   ·rw [if_pos hf]
    repeat' (first|refine dq1 ?_|refine dqc ?_|refine dqm ?_|refine dqK rfl (a4) ?_|refine z5 (zev (n:=i+1) (x:=u0) (y:=⟨sp⟩) (by omega) rfl rfl rfl (by omega) (zY0h _) hu' rfl) ?_|exact z6 rfl rfl|refine dqT ?_|fail)
  ·rintro ⟨l,us,most⟩ ⟨hu,m1,m2⟩ again
   simp only at hu m1 m2 ⊢;have ht0:b.txs[(0:Int).toNat]? = some (b.txs.getD 0 zTx):=z1j _ hl1;have hn0:ns[(0:Int).toNat]? = some (ns.getD 0 0):=z1j _ (by omega);have hu0:us[0]? = some (us.getD 0 ⟨[]⟩):=z1j _ (by omega);have e0:z94 b ns l us most ((b.txs.drop 1).length+1) []=ziw b ns l us most:=by rw [z94]
   rw [e0];unfold ziw;have hct:=ok.each (b.txs.getD 0 zTx) (zY0a ht0);obtain ⟨f1,f2⟩:=z0m3 hct;have a5:=zdz (b.txs.getD 0 zTx) [] (z0j6 hct);have a4:=zgb l (b.txs.getD 0 zTx) (ns.getD 0 0) b.height;generalize b.txs.getD 0 zTx=t0 at *;generalize ns.getD 0 0=nm at *;generalize us.getD 0 ⟨[]⟩=u0 at *;generalize z0u t0 []=fe at *;generalize zx l t0 nm b.height=q at *;obtain ⟨l2,sp,f⟩:=q;simp only at a4 ⊢
   repeat' (first|refine dq1 ?_|refine dqc ?_|refine dqm ?_|refine dqK rfl (a4) ?_|refine dqk rfl (a5) ?_|refine z5 (zev (n:=0) (x:=u0) (y:=⟨sp⟩) rfl rfl rfl rfl (by omega) (zY0h _) hu0 rfl) ?_|exact z6 rfl rfl|refine tR (fun h=>?_) fun h=>?_|refine dqF ?_|fail)
attribute [local irreducible] z7z
theorem z0fx:Meets Tryz.prog z7m 25 ⟨[.agg 1,.one,.agg 5,.one],[(false,[.pure]),(false,[.scal])],false⟩:=by
 refine zl (sp:=(z0g [(8,z2u),(28,z7z),(65,z26)])) (sigs:=z0p) (cut:=[]) (hints:=[⟨13,[.t 1,.t 14,.r 8 101 6,.t 9,.t 15]⟩]) (fn:=Tryz.f25) (t:=zhw) (by kernel_rfl) (by kernel_rfl) (by kernel_rfl) ?_ ?_
 ·exact (z05 (L:=[(8,z2u),(28,z7z),(65,z26)]) ⟨ze rfl zdc,ze rfl z0ci,ze rfl zbl,trivial⟩)
 ·rintro ds rs hok h
  obtain ⟨⟨k,l,b,us⟩,hus,rfl,rfl⟩:=zp h;clear h;simp only at hus;refine ⟨⟨100,?_⟩,z8l ⟨rfl,trivial⟩⟩
  show den _ _ zhw [.l 1 (k.texts.map z13),.l 6 (l.map zb),I b.parent,I b.height,I b.work,I b.nonce,.l 3 (b.txs.map eTx),.l 1 (us.map z2h)] []=ret (z3n k l b us)
  have a1:=z44 l;have a2:=z7i k b;have hnm:=zbm (k:=k) (b:=b);unfold zhw z3n;generalize z09 k b=nm at *;obtain ⟨tx,n0,ns,e⟩:=nm;simp only at *
  by_cases hc:z9 l=0
  rotate_left
  ·repeat' (first|refine dq1 ?_|refine dqk rfl (a1) ?_|exact z6 rfl rfl|refine tR (fun h=>?_) fun h=>?_|fail)
   all_goals (exfalso;omega)
  by_cases he:e=0
  rotate_left
  ·repeat' (first|refine dq1 ?_|refine dqc ?_|refine dqk rfl (a1) ?_|refine dqK rfl (a2) ?_|exact z6 rfl rfl|refine tR (fun h=>?_) fun h=>?_|fail)
   all_goals (exfalso;omega)
  obtain ⟨hb,hnl⟩:=hnm he;have ok:=z1g hb;have hl4:=ok.len;have hl1:=ok.some;subst he
  by_cases hul:us.length=b.txs.length
  rotate_left
  ·repeat' (first|refine dq1 ?_|refine dqc ?_|refine dqk rfl (a1) ?_|refine dqK rfl (a2) ?_|exact z6 rfl rfl|refine tR (fun h=>?_) fun h=>?_|fail)
   all_goals (exfalso;omega)
  have ht0:b.txs[(0:Int).toNat]? = some (b.txs.getD 0 zTx):=z1j _ hl1;have hn0:ns[(0:Int).toNat]? = some (ns.getD 0 0):=z1j _ (by omega);have hu0:us[(0:Int).toNat]? = some (us.getD 0 ⟨[]⟩):=z1j _ (by omega);have a3:=zdj l (b.txs.getD 0 zTx) (ns.getD 0 0) (us.getD 0 ⟨[]⟩).spent (z034 hus 0);generalize hT:b.txs.getD 0 zTx=t0 at *;generalize ns.getD 0 0=nm at *;generalize us.getD 0 ⟨[]⟩=u0 at *;generalize z16 l t0 nm u0.spent=q at *;obtain ⟨l1,f⟩:=q;simp only at a3 ⊢
  by_cases hf:f=0
  rotate_left
  ·repeat' (first|refine dq1 ?_|refine dqc ?_|refine dqm ?_|refine dqk rfl (a1) ?_|refine dqK rfl (a2) ?_|refine dqK rfl (a3) ?_|exact z6 rfl rfl|refine tR (fun h=>?_) fun h=>?_|fail)
   all_goals (exfalso;omega)
  subst hf
  repeat' (first|refine dq1 ?_|refine dqc ?_|refine dqm ?_|refine dqk rfl (a1) ?_|refine dqK rfl (a2) ?_|refine dqK rfl (a3) ?_|exact z6 rfl rfl|refine tR (fun h=>?_) fun h=>?_|fail)
  (refine z032 (fun (l:List Coin) k=>[.l 6 (l.map zb),I 0,.l 6 [],I 0,I k]) (fun (l:List Coin) i=>zdk b ns us l i) (fun _ _=>True) l1 (b.txs.length - 1) ?_ ?_ ?_ ?_ ?_;exact z0fw rfl (by omega);exact trivial;omega)
  ·rintro l i hi - again hag
   have hti:b.txs[((i:Int)+1).toNat]? = some (b.txs.getD (i+1) zTx):=by
    rw [show ((i:Int)+1).toNat=i+1 by omega];exact z1j _ (by omega)
   have hni:ns[((i:Int)+1).toNat]? = some (ns.getD (i+1) 0):=by
    rw [show ((i:Int)+1).toNat=i+1 by omega];exact z1j _ (by omega)
   have hui:us[((i:Int)+1).toNat]? = some (us.getD (i+1) ⟨[]⟩):=by
    rw [show ((i:Int)+1).toNat=i+1 by omega];exact z1j _ (by omega)
   have a4:=zdj l (b.txs.getD (i+1) zTx) (ns.getD (i+1) 0) (us.getD (i+1) ⟨[]⟩).spent (z034 hus (i+1));rw [zdk];generalize b.txs.getD (i+1) zTx=ti at *;generalize ns.getD (i+1) 0=ni at *;generalize us.getD (i+1) ⟨[]⟩=ui at *;generalize z16 l ti ni ui.spent=q at *;obtain ⟨l2,f⟩:=q;simp only at a4 ⊢
   by_cases hf:f=0
   ·subst hf
    rw [if_neg (fun h=>h rfl)];have hag':=hag l2 trivial;rw [show ((i:Nat):Int)=(i:Int)+1 - 1 by omega] at hag'
    repeat' (first|refine dq1 ?_|refine dqc ?_|refine dqm ?_|refine dqK rfl (a4) ?_|refine dqT ?_|refine dqF ?_|fail)
    exact z7 rfl rfl hag'
   ·rw [if_pos hf]
    repeat' (first|refine dq1 ?_|refine dqc ?_|refine dqm ?_|refine dqK rfl (a4) ?_|exact z6 rfl rfl|refine dqT ?_|fail)
  ·rintro l - again
   rw [zdk]
   repeat' (first|refine dq1 ?_|exact z6 rfl rfl|refine dqF ?_|fail)
end
section
open Go.RowKit
open Go.Lib (itoa)
set_option maxRecDepth 100000
set_option maxHeartbeats 4000000
def zqj (k:Book) (t:Tree) (n:Int):List Int × Int:=if zk k≠0 then ([],zk k) else z0cf t n
def z0ak (k:Book) (t:Tree):List Coin→List Int→List Coin × Int
 | l,[]=>(l,0)
 | l,n::r=>if (z1n k l (zhq t n)).2.2≠0 then ([],(z1n k l (zhq t n)).2.2) else z0ak k t (z1n k l (zhq t n)).1 r
def z0m4 (k:Book) (t:Tree) (n:Int):List Coin × Int:=if (zqj k t n).2≠0 then ([],(zqj k t n).2) else z0ak k t [] (zqj k t n).1
def z0k7:List Int→List Int→Nat
 | a::x,b::y=>if a=b then z0k7 x y+1 else 0
 | _,_=>0
section
variable {α:Type} {f:α→List Dt} {sp:Nat→zd} {E:Env}
end
noncomputable def z0cj:zd:=spD (fun l:List Coin=>l.length≤2199023255552) fun l=>l
attribute [local irreducible] den denX z0i z0q
attribute [local irreducible] z00 spD z1n z3n zhq z0cf zk z0k7
attribute [local irreducible] z0cj z7f
noncomputable def z0ck:zd:=spD (fun _:Book × Tree × Int=>True) fun x=>z0m4 x.1 x.2.1 x.2.2
attribute [local irreducible] zhs z087
attribute [local irreducible] z2w z01z
attribute [local irreducible] z0ck
attribute [local irreducible] zsd
attribute [local irreducible] z7m z01s zse
end
section
open Go.RowKit
open Go.Lib (itoa)
set_option maxRecDepth 100000
set_option maxHeartbeats 4000000
attribute [local irreducible] den denX z0i z0q
def lb0:Block:=⟨0,1,2,0,[⟨1,[],[⟨64,[]⟩]⟩]⟩
def lbT:List UInt8:=[98,108,111,99,107,32,48,32,49,32,50,32,48,10,116,120,32,49,10,111,117,116,32,54,52,58,10]
def lbX:List UInt8:=[116,120,32,49,10,111,117,116,32,54,52,58,10]
deriving instance DecidableEq for Undo
theorem z0fy:z0h lb0=(lbT,0):=by with_unfolding_all decide +kernel
theorem z0fz:z09 ⟨[]⟩ lb0=([lbX,lbT],2,[1],0):=by with_unfolding_all decide +kernel
theorem z0j7:z1n ⟨[]⟩ [] lb0=([⟨⟨1,0⟩,⟨64,[]⟩,1,true⟩],[⟨[]⟩],0):=by with_unfolding_all decide +kernel
noncomputable def zcp:zd:=spD (fun _:Unit=>True) fun _=>true
theorem z08r:zcp []=some [.b true]:=zm (f:=fun _:Unit=>true) () trivial
attribute [local irreducible] z0h z09 z1n z3m z26 z2w
def z0g0:T :=
 .lets [.bin .eql 22 (zI 1)] [] (.ite 23 (.lets [] [.inr 6 8 (zI 0)] (.lets [.idx 8 (zI 0) 5] [] (.ret [24]))) (.ret [.c (.b
 false)]))
def z0g1:T :=
 .ite 19 (.lets [.len 8] [] (.lets [.bin .eql 20 (zI 1)] [] (.ite 21 (.lets [.len 9] [] z0g0) (.ret [.c (.b false)])))) (.ret [.c (.b false)])
def z0g2:T :=
 .lets [.mk 1 [[zI 1]]] [] (.lets [.call 46 [6,16] 0] [] (.ite 17 (.lets [.len 4] [] (.lets [.bin .eql 18 (zI 2)] [] z0g1)) (.ret [.c
 (.b false)])))
def z0g3:T :=
 .lets [.bin .eql 2 (.c (.s [98,108,111,99,107,32,48,32,49,32,50,32,48,10,116,120,32,49,10,111,117,116,32,54,52,58,10]))] [] (.ite 14 (.lets [.bin
 .eql 5 (zI 2)] [] (.ite 15 z0g2 (.ret [.c (.b false)]))) (.ret [.c (.b false)]))
def z0g4:T :=
 .lets [.bin .eql 7 (zI 0)] [] (.ite 12 (.lets [.bin .eql 10 (zI 0)] [] (.ite 13 z0g3 (.ret [.c (.b false)]))) (.ret [.c (.b false)]))
def z0g5:T :=
 .lets [.call 67 [.c (.nil 1),.c (.nil 6),zI 0,zI 1,zI 2,zI 0,1] 0,.call 67 [.c (.nil 1),.c (.nil 6),zI 0,.c (.i .i64
 1),zI 2,zI 0,1] 1,.call 67 [.c (.nil 1),.c (.nil 6),zI 0,zI 1,zI 2,zI 0,1] 2] [] (.lets [.bin .eql 3
 (zI 0)] [] (.ite 11 z0g4 (.ret [.c (.b false)])))
def z0g6:T :=
 .lets [.call 65 [.c (.nil 1),zI 0,zI 1,zI 2,zI 0,1] 0,.call 65 [.c (.nil 1),zI 0,zI 1,zI 2,.c (.i
 .i64 0),1] 1,.call 65 [.c (.nil 1),zI 0,zI 1,zI 2,zI 0,1] 2,.call 65 [.c (.nil 1),zI 0,zI 1,.c (.i .i64
 2),zI 0,1] 3] [] z0g5
def z0g7:T :=
 .lets [.call 57 [zI 0,zI 1,zI 2,zI 0,1] 0,.call 57 [zI 0,zI 1,zI 2,zI 0,1] 1] []
 z0g6
def zqk:T :=
 .lets [.mk 2 [[zI 64,.c (.nil 2)]]] [] (.lets [.mk 3 [[zI 1,.c (.nil 3),0]]] [] z0g7)
attribute [local irreducible] z5q
theorem z0m5:Meets Tryz.prog zcp 27 ⟨[],[(false,[.scal])],true⟩:=by
 refine zl (sp:=(z0g [(46,z5q),(57,z3m),(65,z26),(67,z2w)])) (sigs:=z0p) (cut:=[]) (hints:=[]) (fn:=Tryz.f27) (t:=zqk) (by kernel_rfl) (by kernel_rfl) (by kernel_rfl) ?_ ?_
 ·exact (z05 (L:=[(46,z5q),(57,z3m),(65,z26),(67,z2w)]) ⟨ze rfl z01k,ze rfl znn,ze rfl zbl,ze rfl zhx,trivial⟩)
 ·rintro ds rs - h
  obtain ⟨⟨⟩,-,rfl,rfl⟩:=zp h;clear h;refine ⟨⟨1,?_⟩,z04 rfl⟩
  show den _ _ zqk [] []=ret true
  have a1:=zdi lb0;rw [z0fy] at a1;have a2:=z7i ⟨[]⟩ lb0;rw [z0fz] at a2;have a3:=zcn ⟨[]⟩ [] lb0;rw [z0j7] at a3;have a4:=zhl [1] [1];rw [decide_eq_true rfl] at a4;have x0:([⟨⟨1,0⟩,⟨64,[]⟩,1,true⟩]:List Coin)[(0:Int).toNat]? = some ⟨⟨1,0⟩,⟨64,[]⟩,1,true⟩:=rfl;have x1:([⟨⟨1,0⟩,⟨64,[]⟩,1,true⟩]:List Coin).length=1:=rfl;unfold zqk
  repeat' (first|refine dq1 ?_|refine dqc ?_|refine dqK rfl (a1) ?_|refine dqK rfl (a2) ?_|refine dqK rfl (a3) ?_|refine dqk rfl (a4) ?_|refine z5 (z24 rfl rfl (by simp)) ?_|exact z6 rfl rfl|refine dqT ?_|refine z0j rfl ?_|fail)
end
section
open Go.RowKit
open Go.Lib (itoa)
set_option maxRecDepth 100000
set_option maxHeartbeats 4000000
def zbn (x:List (List UInt8)) (l:List Coin) (t:Tx) (h:Int):List (List UInt8) × List Coin × Int × Int :=
 if (z0b t).2≠0 then (x,[],0,(z0b t).2) else if (t.ins.length:Int)=0 then (x,[],0,4) else
 if zmy ⟨x⟩ (z0b t).1≠0 then (x,[],0,zmy ⟨x⟩ (z0b t).1) else
 if (zx l t (zeh ⟨x⟩ (z0b t).1) h).2.2≠0 then (x,[],0,(zx l t (zeh ⟨x⟩ (z0b t).1) h).2.2) else
 (zyd ⟨x⟩ (z0b t).1,(zx l t (zeh ⟨x⟩ (z0b t).1) h).1,z0u t (zx l t (zeh ⟨x⟩ (z0b t).1) h).2.1,0)
abbrev z0k8:=List (List UInt8) × List Tx × List Coin × Int × Int
structure Sw where
 x:List (List UInt8)
 s:List Tx
 m:List Coin
 f:Int
def zql (h:Int):Sw→List Tx→z0k8
 | a,[]=>(a.x,a.s,a.m,a.f,0)
 | a,t::r=>if (zbn a.x a.m t h).2.2.2≠0 then zql h a r else
  zql h ⟨(zbn a.x a.m t h).1,a.s++[t],(zbn a.x a.m t h).2.1,a.f+(zbn a.x a.m t h).2.2.1⟩ r
def z2k (k:Book) (l:List Coin) (p:List Tx) (h:Int):z0k8 :=
 if zk k≠0 then ([],[],[],0,zk k) else if z9 l≠0 then ([],[],[],0,z9 l) else
 if h<1 then ([],[],[],0,3) else if h > 1000 then ([],[],[],0,3) else if (p.length:Int) > 8 then ([],[],[],0,2) else
 zql h ⟨k.texts,[],l,0⟩ p
def z0g8 (x:List (List UInt8)) (s:List Tx) (m:List Coin) (t:Tx) (h:Int):List (List UInt8) × List Tx × Int :=
 if (zbn x m t h).2.2.2≠0 then ([],[],(zbn x m t h).2.2.2) else if (s.length:Int)=8 then ([],[],12) else ((zbn x m t h).1,s++[t],0)
def z035 (k:Book) (l:List Coin) (p:List Tx) (t:Tx) (h:Int):List (List UInt8) × List Tx × Int :=
 if (z2k k l p h).2.2.2.2≠0 then ([],[],(z2k k l p h).2.2.2.2) else if t ∈ (z2k k l p h).2.1 then ([],[],6) else
 z0g8 (z2k k l p h).1 (z2k k l p h).2.1 (z2k k l p h).2.2.1 t h
def z0m6 (parent height work nonce:Int) (lk:List Op) (s:List Tx) (f:Int):Block × Int :=
 if z40 height≠0 then (zes,z40 height) else if z0e height+f=0 then (zes,9) else
 if zf ⟨parent,height,work,nonce,⟨height,[],[⟨z0e height+f,lk⟩]⟩::s⟩≠0 then (zes,zf ⟨parent,height,work,nonce,⟨height,[],[⟨z0e height+f,lk⟩]⟩::s⟩) else
 (⟨parent,height,work,nonce,⟨height,[],[⟨z0e height+f,lk⟩]⟩::s⟩,0)
def z0g9 (k:Book) (l:List Coin) (p:List Tx) (parent height work nonce:Int) (lk:List Op):Block × Int :=
 if (z2k k l p (height+1)).2.2.2.2≠0 then (zes,(z2k k l p (height+1)).2.2.2.2) else
 if (z2k k l ((z2k k l p (height+1)).2.1.take 3) (height+1)).2.2.2.2≠0 then (zes,(z2k k l ((z2k k l p (height+1)).2.1.take 3) (height+1)).2.2.2.2) else
 z0m6 parent (height+1) work nonce lk (z2k k l ((z2k k l p (height+1)).2.1.take 3) (height+1)).2.1 (z2k k l ((z2k k l p (height+1)).2.1.take 3) (height+1)).2.2.2.1
attribute [local irreducible] z00 spD z0b zx z0u zmy zyd zeh zk z9 zf z0e z40
attribute [local irreducible] den denX z0i z0q
noncomputable def z0cl:zd:=spD (fun _:List (List UInt8) × List Coin × Tx × Int=>True) fun x=>zbn x.1 x.2.1 x.2.2.1 x.2.2.2
attribute [local irreducible] z085 z5w z7l z72
noncomputable def z036:zd:=spD (fun _:List (List UInt8) × List Coin × List Tx × Int=>True) fun x=>z2k ⟨x.1⟩ x.2.1 x.2.2.1 x.2.2.2
attribute [local irreducible] zhs z0ix zsf z2u z71
end
section
open Go.RowKit
open Go.Lib (itoa)
set_option maxRecDepth 100000
set_option maxHeartbeats 4000000
attribute [local irreducible] z00 spD z2k zbn z0b zx z0u zk z9 zf z0e z40
attribute [local irreducible] den denX z0i z0q
noncomputable def zu4:zd:=spD (fun _:List (List UInt8) × List Coin × List Tx × Tx × Int=>True) fun x=>z035 ⟨x.1⟩ x.2.1 x.2.2.1 x.2.2.2.1 x.2.2.2.2
attribute [local irreducible] z0cl z036 zsf z0fg
noncomputable def z08s:zd:=spD (fun x:List (List UInt8) × List Coin × List Tx × Int × Int × Int × Int × List Op=>(-1≤x.2.2.2.2.1∧x.2.2.2.2.1≤1000)∧x.2.2.2.2.2.2.2.length≤8796093022208) fun x=>z0g9 ⟨x.1⟩ x.2.1 x.2.2.1 x.2.2.2.1 x.2.2.2.2.1 x.2.2.2.2.2.1 x.2.2.2.2.2.2.1 x.2.2.2.2.2.2.2
attribute [local irreducible] zjm z7f z4x
end
section
open Go.RowKit
open Go.Lib (itoa)
set_option maxRecDepth 100000
set_option maxHeartbeats 4000000
attribute [local irreducible] den denX z0i z0q
attribute [local irreducible] z00 spD z035 z0g9
attribute [local irreducible] zu4 z08s
end
section
open Go.RowKit
set_option maxRecDepth 100000
theorem Done.total {l:List Coin} {t:Tx} {nm h:Int} {r s m:List Coin} (d:Done l t nm h r s m):zh m=zh l - z0u t s:=by
 have h1:=d.spentAs.total;have h2:=d.broughtAs.total;rw [zcm];omega
theorem Done.most {l:List Coin} {t:Tx} {nm h:Int} {r s m:List Coin} (d:Done l t nm h r s m):zh m≤zh l - z0u t []:=by
 have S:=d.spentAs;have h1:=S.total;have h2:=d.broughtAs.total;have hs:0≤zh s:=zce fun c hc=>d.ok.good c (S.from hc).1
 rw [zcm];simp only [zh];omega
theorem getD_set_ne {α:Type} {l:List α} {i j:Nat} {x d:α} (h:i≠j):(l.set i x).getD j d=l.getD j d:=by
 rw [zY0w,zY0g h,← zY0w]
end
section
open Go.RowKit
set_option maxRecDepth 100000
end
section
open Go.RowKit
set_option maxRecDepth 100000
end
section
open Go.RowKit
set_option maxRecDepth 100000
inductive RunC (h:Int) (y:List Text):List Coin→List Tx→List Coin→Int→Prop where
 | nil (m:List Coin):RunC h y m [] m 0
 | cons {m m1 m' sp:List Coin} {t:Tx} {K:List Tx} {f:Int}:zg t=0→t.ins.length≠0→(z0d t).length≤4000→0≤idx y (z0d t)→zx m t (idx y (z0d t)+1) h=(m1,sp,0)→RunC h y m1 K m' f→RunC h y m (t::K) m' (z0u t sp+f)
theorem RunC.more {h:Int} {y z:List Text} {m m':List Coin} {K:List Tx} {f:Int} (hp:y <+: z) (R:RunC h y m K m' f):RunC h z m K m' f:=by
 induction R with
 | nil m=>exact .nil m
 | cons h1 h2 h3 h4 h5 _ ih =>
  have e:=znr hp h4;exact .cons h1 h2 h3 (by omega) (by rw [e];exact h5) ih
theorem z08t {m m1 sp:List Coin} {t:Tx} {nm h:Int} (hi:t.ins.length≠0) (h0:zx m t nm h=(m1,sp,0)):CoinsOK m∧CoinsOK m1∧0≤z0u t sp∧zh m1=zh m - z0u t sp:=by
 obtain ⟨r,d⟩:=zfv (l:=m) (t:=t) (nm:=nm) (h:=h) (by rw [h0]);rw [h0] at d;exact ⟨d.ok,d.end_,d.fee hi,d.total⟩
theorem RunC.facts {h:Int} {y:List Text} {m m':List Coin} {K:List Tx} {f:Int} (R:RunC h y m K m' f):0≤f∧zh m'=zh m - f∧(CoinsOK m→CoinsOK m'):=by
 induction R with
 | nil m=>exact ⟨by omega,by omega,fun h=>h⟩
 | cons h1 h2 h3 h4 h5 _ ih =>
  obtain ⟨a,b,c,d⟩:=z08t h2 h5;obtain ⟨e,f,g⟩:=ih;exact ⟨by omega,by omega,fun _=>g b⟩
theorem RunC.part {h:Int} {y:List Text} {m':List Coin} {L:List Tx}:∀ {K:List Tx} {m:List Coin} {f:Int},RunC h y m (K++L) m' f→∃ m1 f1 f2,RunC h y m K m1 f1∧RunC h y m1 L m' f2
 | [],m,f,R=>⟨m,0,f,.nil m,R⟩
 | t::K,m,f,R=>by
  rw [zY1l] at R
  cases R with
  | cons h1 h2 h3 h4 h5 R =>
   obtain ⟨m1,f1,f2,a,b⟩:=RunC.part R;exact ⟨m1,_,f2,.cons h1 h2 h3 h4 h5 a,b⟩
end
section
open Go.RowKit
set_option maxRecDepth 100000
end
section
open Go.RowKit
set_option maxRecDepth 100000
end
section
open Go.RowKit
set_option maxRecDepth 100000
def z0cm (x:Node):List Dt:=zf7 x.t++[.l 3 (x.pool.map eTx),I x.tip]
theorem z0ga (x y:Node) (h:z0cm x=z0cm y):x=y:=by
 obtain ⟨t,p,n⟩:=x;obtain ⟨t',p',n'⟩:=y;obtain ⟨h1,h2⟩:=List.append_inj' h rfl;simp only [zY22,Dt.l.injEq,true_and,and_true] at h2;obtain rfl:=zrq t t' h1;obtain rfl:=z3x zpf h2.1;obtain rfl:=zke n n' (by unfold z0r;rw [h2.2]);rfl
instance:Enc Node:=⟨z0cm,4,fun _=>rfl,z0ga⟩
end
section
open Go.RowKit
set_option maxRecDepth 100000
set_option maxHeartbeats 4000000
attribute [local irreducible] z00 spD
attribute [local irreducible] den denX z0i z0q
attribute [local irreducible] z6x z4b
end
section
open Go.RowKit
set_option maxRecDepth 100000
set_option maxHeartbeats 4000000
noncomputable def z96:zd:=spD (fun _:List Op=>True) fun l=>za l
theorem zny (l:List Op):z96 [.l 2 (l.map eOp)]=some [I (za l)]:=zm (f:=fun l:List Op=>za l) l trivial
theorem z08u:Meets Tryz.prog z96 67 ⟨[.one],[(false,[.scal])],true⟩ :=
 za4 (e:=fun x:{ x:List Op // True }=>Enc.e x.1) (d:=fun x=>I (za x.1)) rfl (z2t (fn:=Tryz.f67) (by kernel_rfl) (by kernel_rfl) (by kernel_rfl)) (fun _=>rfl) fun x W F us hF h=>by
  obtain ⟨v,us,rfl,h1,h⟩:=z1q h;obtain rfl:=z30 h;obtain ⟨A,n,c,rfl,k1⟩:=z3w z8u h1;exact (zfo x.1 A n c W F k1 hF).mono fun e w' h=>⟨_,h.1,h.2,.i _ _ (wrap_i64 (zn4 x.1).i64)⟩
noncomputable def z7n:zd:=spD (fun _:Point × Point=>True) fun x=>decide (ltP x.1 x.2)
theorem zgd (p q:Point):z7n [I p.tx,I p.at_,I q.tx,I q.at_]=some [.b (decide (ltP p q))]:=zm (f:=fun x:Point × Point=>decide (ltP x.1 x.2)) (p,q) trivial
attribute [local irreducible] z00 spD z1h
def znz:T :=
 .lets [.bin .gtr 30 (zI 1000000000)] [] (.ite 31 (.ret [zI 12]) (.lets [.bin .add 6 (zI 1)] [] (.again 0 [30,5,32])))
def zo0:T :=
 .lets [.call 24 [26,27,8,9] 0] [] (.lets [.not 28] [] (.ite 29 (.ret [zI 6]) (.lets [.bin .add 4 10] [] znz)))
def zo1:T :=
 .lets [.bin .gtr 25 (zI 1000000000)] [] (.ite 26 (.ret [zI 12]) (.lets [.bin .add 6 (zI 1)] [] (.again 0 [25,5,27])))
def zo2:T :=
 .ite 24 (.lets [.bin .sub 6 (zI 1)] [] (.lets [] [.inr 6 0 25] (.lets [.idx 0 25 0,.idx 0 25 1] [] zo0))) (.lets [.bin
 .add 4 10] [] zo1)
def zo3:T :=
 .lets [.call 23 [11] 0] [] (.lets [.bin .neq 22 (zI 0)] [] (.ite 23 (.ret [22]) (.lets [.bin .gtr 6 (zI 0)] [] zo2)))
def zo4:T :=
 .lets [.bin .lss 12 (zI 1)] [] (.ite 20 (.ret [zI 3]) (.lets [.bin .gtr 12 (zI 1000)] [] (.ite 21 (.ret [zI 3])
 zo3)))
def zo5:T :=
 .lets [.bin .lss 10 (zI 1)] [] (.ite 18 (.ret [zI 3]) (.lets [.bin .gtr 10 (zI 1000000000)] [] (.ite 19 (.ret [zI 3])
 zo4)))
def zo6:T :=
 .lets [.bin .lss 9 (zI 0)] [] (.ite 16 (.ret [zI 3]) (.lets [.bin .gtr 9 (zI 5)] [] (.ite 17 (.ret [zI 3])
 zo5)))
def zo7:T :=
 .lets [.bin .lss 8 (zI 1)] [] (.ite 14 (.ret [zI 3]) (.lets [.bin .gtr 8 (zI 120)] [] (.ite 15 (.ret [zI 3])
 zo6)))
def zo8:T :=
 .lets [] [.inr 6 0 6] (.lets [.idx 0 6 0,.idx 0 6 1,.idx 0 6 2,.idx 0 6 3,.idx 0 6 4,.idx 0 6 5] []
 zo7)
def zks:T :=
 .lets [.len 0] [] (.loop [zI 0,zI 0,zI 0] (.lets [.bin .lss 6 3] [] (.ite 7 zo8 (.ret [zI 0]))))
def zb0:T :=
 .lets [.len 0] [] (.lets [.bin .gtr 1 (zI 720)] [] (.ite 2 (.ret [zI 2]) zks))
theorem z0m7 (p q:Point):(decide (p.tx<q.tx) || (decide (p.tx=q.tx) && decide (p.at_<q.at_)))=decide (ltP p q):=by
 unfold ltP
 by_cases h1:p.tx<q.tx <;> by_cases h2:p.tx=q.tx <;> by_cases h3:p.at_<q.at_ <;> simp [h1,h2,h3]
theorem zsj:Meets Tryz.prog z7n 68 ⟨[.agg 2,.agg 2],[(false,[.scal])],true⟩:=by
 refine zl (sp:=(z0g [])) (sigs:=z0p) (cut:=[]) (hints:=[]) (fn:=Tryz.f68) (t:=zhn) (by kernel_rfl) (by kernel_rfl) (by kernel_rfl) ?_ ?_
 ·exact (z05 (L:=[]) trivial)
 ·rintro ds rs - h
  obtain ⟨⟨p,q⟩,-,rfl,rfl⟩:=zp h;clear h;refine ⟨⟨1,?_⟩,z04 rfl⟩
  show den _ _ zhn [I p.tx,I p.at_,I q.tx,I q.at_] []=ret (decide (ltP p q))
  rw [← z0m7];unfold zhn
  repeat' (first|refine dq1 ?_|refine dqc ?_|refine dqm ?_|exact z6 rfl rfl|((first|refine tR ?_ ?_|refine tB ?_ ?_|refine tC ?_ ?_|refine tN ?_ ?_|refine tF ?_ ?_|refine tG ?_ ?_|refine tP ?_ ?_|refine tQ ?_ ?_|refine tA ?_ ?_|refine tO ?_ ?_|refine tU ?_ ?_|refine tV ?_ ?_) <;> intro h)|refine dqT ?_|refine dqF ?_|refine z0j rfl ?_|refine z0o rfl ?_|refine z9t ?_|refine z6s ?_)
def z9w:Point→Int→List Coin→Int
 | _,_,[]=>0
 | pv,s,c::r=>if c.p.tx<1∨120<c.p.tx∨c.p.at_<0∨5<c.p.at_∨c.o.coin<1∨1000000000<c.o.coin∨c.height<1∨1000<c.height then 3
  else if za c.o.lock≠0 then za c.o.lock else if decide (ltP pv c.p)=true then (if 1000000000<s+c.o.coin then 12 else z9w c.p (s+c.o.coin) r) else 6
theorem zjr:∀ (l:List Coin) (p:Point) (s:Int),z9w p s l=z6b p s l
 | [],p,s=>rfl
 | c::l,p,s=>by
  rw [z9w,z6b,zjr l];have e:5<c.p.at_↔6≤c.p.at_:=by omega
  have ho:=zir p c.p;simp only [e]
  by_cases h:ltP p c.p
  ·have:=ho.2 h
   rw [if_pos (c:=decide (ltP p c.p)=true) (by simpa using h),if_neg (c:=0≤z1h p c.p) (by omega)]
  ·have:¬ z1h p c.p<0:=fun hh=>h (ho.1 hh)
   rw [if_neg (c:=decide (ltP p c.p)=true) (by simpa using h),if_pos (c:=0≤z1h p c.p) (by omega)]
noncomputable def z1t:zd:=spD (fun _:List Coin=>True) fun l=>z9 l
theorem z5e (l:List Coin):z1t [.l 6 (l.map zb)]=some [I (z9 l)]:=zm (f:=fun l:List Coin=>z9 l) l trivial
theorem zb1:Meets Tryz.prog z1t 20 ⟨[.one],[(false,[.scal])],true⟩:=by
 refine zl (sp:=(z0g [(23,z96),(24,z7n)])) (sigs:=z0p) (cut:=[]) (hints:=[⟨5,[.t 3,.t 2,.t 12]⟩]) (fn:=Tryz.f20) (t:=zb0) (by kernel_rfl) (by kernel_rfl) (by kernel_rfl) ?_ ?_
 ·exact (z05 (L:=[(23,z96),(24,z7n)]) ⟨ze rfl z08u,ze rfl zsj,trivial⟩)
 ·rintro ds rs - h
  obtain ⟨l,-,rfl,rfl⟩:=zp h;clear h;refine ⟨⟨l.length+1,?_⟩,z04 rfl⟩
  show den _ _ zb0 [.l 6 (l.map zb)] []=ret (z9 l)
  unfold zb0 z9
  repeat' (first|refine dq1 ?_|refine dqc ?_|refine dqm ?_|exact z6 rfl rfl|((first|refine tR ?_ ?_|refine tB ?_ ?_|refine tC ?_ ?_|refine tN ?_ ?_|refine tF ?_ ?_|refine tG ?_ ?_|refine tP ?_ ?_|refine tQ ?_ ?_|refine tA ?_ ?_|refine tO ?_ ?_|refine tU ?_ ?_|refine tV ?_ ?_) <;> intro h)|refine dqT ?_|refine dqF ?_|refine z0j rfl ?_|refine z0o rfl ?_|refine z9t ?_|refine z6s ?_)
  rw [← zjr]
  (refine zr (fun (st:Point × Int) k=>[I st.2,I 0,I k]) (fun st k (r:List Coin)=>z9w st.1 st.2 r) (fun st k=>((k=0∧st.1=⟨0,0⟩)∨(0<k∧∃ d,l[((k:Int) - 1).toNat]? = some d∧d.p=st.1))∧0≤st.2∧st.2≤1000000000) (⟨0,0⟩,0) l ?_ ?_ ?_ ?_ ?_;rfl;exact ⟨.inl ⟨rfl,rfl⟩,by decide,by decide⟩;first|exact zY26 _|omega)
  ·rintro ⟨pv,s⟩ k c r hx hd hk ⟨hp,hs0,hs1⟩ again hag
   simp only at hp hs0 hs1 ⊢;rw [z9w]
   repeat' (first|refine dq1 ?_|refine dqc ?_|refine dqm ?_|refine dqK rfl (zny _) ?_|exact z6 rfl rfl|((first|refine tR ?_ ?_|refine tB ?_ ?_|refine tC ?_ ?_|refine tN ?_ ?_|refine tF ?_ ?_|refine tG ?_ ?_|refine tP ?_ ?_|refine tQ ?_ ?_|refine tA ?_ ?_|refine tO ?_ ?_|refine tU ?_ ?_|refine tV ?_ ?_) <;> intro h)|refine dqT ?_|refine dqF ?_|refine z0j rfl ?_|refine z0o rfl ?_|refine z9t ?_|refine z6s ?_)
   refine z36 rfl (fun h=>?_) (fun h=>?_)
   ·obtain ⟨hk0,-⟩|⟨hk0,d,hd',rfl⟩:=hp
    ·omega
    repeat' (first|refine dq1 ?_|refine dqc ?_|refine dqm ?_|refine dqK rfl (zgd _ _) ?_|exact z6 rfl rfl|((first|refine tR ?_ ?_|refine tB ?_ ?_|refine tC ?_ ?_|refine tN ?_ ?_|refine tF ?_ ?_|refine tG ?_ ?_|refine tP ?_ ?_|refine tQ ?_ ?_|refine tA ?_ ?_|refine tO ?_ ?_|refine tU ?_ ?_|refine tV ?_ ?_) <;> intro h)|refine dqT ?_|refine dqF ?_|refine z0j rfl ?_|refine z0o rfl ?_|refine z9t ?_|refine z6s ?_)
    exact z7 rfl rfl (hag (c.p,s+c.o.coin) ⟨.inr ⟨by omega,c,by simpa using hx,rfl⟩,by simp only;omega,by simp only;omega⟩)
   ·obtain ⟨rfl,rfl⟩|⟨hk0,-⟩:=hp
    ·have ho:ltP ⟨0,0⟩ c.p:=by
      unfold ltP;simp only;omega
     rw [if_pos (by simpa using ho)]
     repeat' (first|refine dq1 ?_|refine dqc ?_|refine dqm ?_|exact z6 rfl rfl|((first|refine tR ?_ ?_|refine tB ?_ ?_|refine tC ?_ ?_|refine tN ?_ ?_|refine tF ?_ ?_|refine tG ?_ ?_|refine tP ?_ ?_|refine tQ ?_ ?_|refine tA ?_ ?_|refine tO ?_ ?_|refine tU ?_ ?_|refine tV ?_ ?_) <;> intro h)|refine dqT ?_|refine dqF ?_|refine z0j rfl ?_|refine z0o rfl ?_|refine z9t ?_|refine z6s ?_)
     exact z7 rfl rfl (hag (c.p,s+c.o.coin) ⟨.inr ⟨by omega,c,by simpa using hx,rfl⟩,by simp only;omega,by simp only;omega⟩)
    ·omega
  ·intro st hI again
   simp only [z9w]
   repeat' (first|refine dq1 ?_|refine dqc ?_|refine dqm ?_|exact z6 rfl rfl|((first|refine tR ?_ ?_|refine tB ?_ ?_|refine tC ?_ ?_|refine tN ?_ ?_|refine tF ?_ ?_|refine tG ?_ ?_|refine tP ?_ ?_|refine tQ ?_ ?_|refine tA ?_ ?_|refine tO ?_ ?_|refine tU ?_ ?_|refine tV ?_ ?_) <;> intro h)|refine dqT ?_|refine dqF ?_|refine z0j rfl ?_|refine z0o rfl ?_|refine z9t ?_|refine z6s ?_)
end
section
open Go.RowKit
open Go.Lib (itoa atoiAll atoiSat)
set_option maxRecDepth 100000
set_option maxHeartbeats 4000000
def zdl:List UInt8:=[45,32,45,32,100,117,112,32,115,119,97,112,32,100,114,111,112,32,97,100,100,32,115,117,98,32,115,97,109,101,32,108,101,115,115,32,110,111,116,32,97,110,100,32,118,101,114,105,102,121,32,104,101,105,103,104,116,32,109,105,120]
def wordsL:List (List UInt8):=[45]::[45]::opNames.drop 2
theorem zcq:Go.Lib.fields zdl=wordsL:=by decide +kernel
theorem z08v:∀ b ∈ zdl,b.toNat<128:=by decide
theorem z08w:∀ y ∈ wordsL,y.length≤1000000:=by decide
theorem z0j8:z5j [.s zdl]=some [.l 1 (wordsL.map z13)]:=by
 have h:=zn9 zdl ⟨by decide,z08v,by rw [zcq];decide,by rw [zcq];exact z08w⟩;rw [zcq] at h;exact h
theorem zsk {k:Int} (h0:2≤k) (h1:k≤13):wordsL[k.toNat]? = some ((opNames[k.toNat]?).getD []):=by
 have hk:k=2∨k=3∨k=4∨k=5∨k=6∨k=7∨k=8∨k=9∨k=10∨k=11∨k=12∨k=13:=by omega
 rcases hk with rfl|rfl|rfl|rfl|rfl|rfl|rfl|rfl|rfl|rfl|rfl|rfl <;> rfl
def joinTail (acc:List UInt8) (first:Bool):List (List UInt8)→List UInt8
 | []=>acc
 | x::r=>joinTail (if first then acc++x else acc++[32]++x) false r
theorem zge:∀ (r:List (List UInt8)) (acc:List UInt8),joinTail acc false r=acc++(match r with | []=>[]|_=>32::z3y 32 r)
 | [],acc=>by simp [joinTail]
 | x::r,acc=>by
  rw [joinTail,zge r]
  cases r with
  | nil=>simp [z3y]
  | cons y r=>simp [z3y]
theorem z037 (l:List (List UInt8)):joinTail [] true l=z3y 32 l:=by
 cases l with
 | nil=>rfl
 | cons x r =>
  rw [joinTail,zge]
  cases r with
  | nil=>simp [z3y]
  | cons y r=>simp [z3y]
noncomputable def z80:zd:=spD (fun l:List Op=>za l=0) fun l=>z5i l
theorem zew (l:List Op) (h:za l=0):z80 [.l 2 (l.map eOp)]=some [.s (z5i l)]:=zm (p:=fun l:List Op=>za l=0) (f:=fun l:List Op=>z5i l) l h
attribute [local irreducible] z00 spD z1h itoa za z20 z3y z3s z01j zcf z6h zh8 zh9 joinTail
attribute [local irreducible] den denX z0i z0q
def z038:T :=
 .lets [] [.inr 1 1 6] (.lets [.idx 1 6 0] [] (.lets [.bin .add 9 11] [] (.lets [.bin .add 4 (zI 1)] [] (.again 0 [12,13]))))
def z039:T :=
 .ite 10 (.lets [.call 38 [7] 0] [] (.lets [.bin .add 9 11] [] (.lets [.bin .add 4 (zI 1)] [] (.again 0 [12,13])))) z038
def z03a:T :=
 .lets [] [.inr 1 1 6] (.lets [.idx 1 6 0] [] (.lets [.bin .add 3 10] [] (.lets [.bin .add 4 (zI 1)] [] (.again 0 [11,12]))))
def z03b:T :=
 .ite 9 (.lets [.call 38 [7] 0] [] (.lets [.bin .add 3 10] [] (.lets [.bin .add 4 (zI 1)] [] (.again 0 [11,12])))) z03a
def z03c:T :=
 .ite 8 (.lets [.bin .add 3 (.c (.s [32]))] [] (.lets [.bin .eql 6 (zI 1)] [] z039)) (.lets [.bin .eql 6 (zI 1)] [] z03b)
def z03d:T :=
 .ite 5 (.lets [] [.inr 2 0 4] (.lets [.idx 0 4 0,.idx 0 4 1] [] (.lets [.bin .gtr 4 (zI 0)] [] z03c))) (.ret [3])
def zfw:T :=
 .lets [.call 45 [.c (.s [45,32,45,32,100,117,112,32,115,119,97,112,32,100,114,111,112,32,97,100,100,32,115,117,98,32,115,97,109,101,32,108,101,115,
 115,32,110,111,116,32,97,110,100,32,118,101,114,105,102,121,32,104,101,105,103,104,116,32,109,105,120])] 0] [] (.lets [.len 0] [] (.loop [.c (.s []),
 .c (.i .i64 0)] (.lets [.bin .lss 4 2] [] z03d)))
section
variable {sp:Nat→zd} {N:Nat} {E E':Env} {ks:List (List Dt→Option (List Dt))} {res:Option (List Dt)}
theorem z75 {a b:Atom} {x y:List UInt8} (ha:a.val E=some (.s x)) (hb:b.val E=some (.s y)) (h:x.length+y.length≤1000000000):denX sp E (.bin .add a b)=some (.s (x++y)):=by
 have e:denX sp E (.bin .add a b)=(if x.length+y.length≤1000000000 then some (.s (x++y)) else none):=by with_unfolding_all simp only [denX,ha,hb,zY09,zY06];with_unfolding_all rfl
 rw [e,if_pos h]
end
attribute [local irreducible] z4d z5j
theorem z0cn:Meets Tryz.prog z80 105 ⟨[.one],[(false,[.scal])],true⟩:=by
 refine zl (sp:=(z0g [(38,z4d),(45,z5j)])) (sigs:=z0p) (cut:=[]) (hints:=[⟨4,[.t 4,.t 10]⟩]) (fn:=Tryz.f105) (t:=zfw) (by kernel_rfl) (by kernel_rfl) (by kernel_rfl) ?_ ?_
 ·exact (z05 (L:=[(38,z4d),(45,z5j)]) ⟨ze rfl zn8,ze rfl z074,trivial⟩)
 ·rintro ds rs - h
  obtain ⟨l,hc0,rfl,rfl⟩:=zp h;clear h;refine ⟨⟨l.length+1,?_⟩,z04 rfl⟩
  show den _ _ zfw [.l 2 (l.map eOp)] []=ret (z5i l)
  obtain ⟨hl16,hall⟩:=zcd hc0;have et:z5i l=joinTail [] true (l.map z1s):=by rw [z037];with_unfolding_all rfl
  rw [et];have a1:=z0j8;unfold zfw
  repeat' (first|refine dq1 ?_|refine dqk rfl (a1) ?_|fail)
  (refine zr (fun (a:List UInt8) k=>[.s a,I k]) (fun (a:List UInt8) k (r:List Op)=>joinTail a (decide (k=0)) (r.map z1s)) (fun a k=>a.length≤100 * k) [] l ?_ ?_ ?_ ?_ ?_;rfl;exact Nat.zero_le _;omega)
  ·rintro a k o r hx hd hk ha again hag
   have hbad:=hall o (zY0a hx);have ho:=zkj hbad;obtain ⟨ho1,ho2,-⟩:=ho;have hto:=zn0 hbad;have e1:joinTail a (decide (k=0)) (z1s o::r.map z1s)=joinTail (if decide (k=0)=true then a++z1s o else a++[32]++z1s o) false (r.map z1s):=by with_unfolding_all rfl
   rw [zY1m,e1];have hk1:decide (k+1=0)=false:=rfl
   by_cases hk0:k=0
   ·rw [if_pos (decide_eq_true hk0)]
    have ha':=hag (a++z1s o) (by rw [zY04];omega);rw [hk1] at ha'
    repeat' (first|refine dq1 ?_|refine dqc ?_|refine dqm ?_|refine dqT ?_|refine dqF ?_|fail)
    refine z36 rfl (fun h=>?_) (fun h=>?_)
    ·have ht:z1s o=itoa o.n:=by with_unfolding_all exact if_pos h
     rw [ht] at ha' hto ⊢
     repeat' (first|refine dq1 ?_|refine dqk rfl (z5v _) ?_|refine z5 (z75 rfl rfl (by omega)) ?_|fail)
     exact z7 rfl rfl ha'
    ·have hw:=zsk (k:=o.kind) (by omega) ho2
     have ht:z1s o=(opNames[o.kind.toNat]?).getD []:=by with_unfolding_all exact if_neg h
     rw [ht] at ha' hto ⊢;have hwl:wordsL.length=14:=rfl
     repeat' (first|refine dq1 ?_|refine dqc ?_|refine z5 (z75 rfl rfl (by omega)) ?_|fail)
     exact z7 rfl rfl ha'
   ·rw [if_neg (by simpa using hk0)]
    have ha':=hag (a++[32]++z1s o) (by simp only [zY04,zY0c,zY0r];omega);rw [hk1] at ha'
    repeat' (first|refine dq1 ?_|refine dqc ?_|refine dqm ?_|refine dqT ?_|fail)
    refine z5 (z75 rfl rfl (by simp only [zY0c,zY0r];omega)) ?_;have hal:(a++[32]).length≤2000:=by simp only [zY04,zY0c,zY0r];omega
    generalize a++[32]=a2 at *
    repeat' (first|refine dq1 ?_|fail)
    refine z36 rfl (fun h=>?_) (fun h=>?_)
    ·have ht:z1s o=itoa o.n:=by with_unfolding_all exact if_pos h
     rw [ht] at ha' hto ⊢
     repeat' (first|refine dq1 ?_|refine dqk rfl (z5v _) ?_|refine z5 (z75 rfl rfl (by omega)) ?_|fail)
     exact z7 rfl rfl ha'
    ·have hw:=zsk (k:=o.kind) (by omega) ho2
     have ht:z1s o=(opNames[o.kind.toNat]?).getD []:=by with_unfolding_all exact if_neg h
     rw [ht] at ha' hto ⊢;have hwl:wordsL.length=14:=rfl
     repeat' (first|refine dq1 ?_|refine dqc ?_|refine z5 (z75 rfl rfl (by omega)) ?_|fail)
     exact z7 rfl rfl ha'
  ·rintro a ha again
   have e0:∀ b:Bool,joinTail a b []=a:=fun b=>by with_unfolding_all rfl
   simp only [zY2e,e0]
   repeat' (first|refine dq1 ?_|exact z6 rfl rfl|refine dqF ?_|fail)
def z0on (w:List UInt8):Int × Bool:=((zcf w).1,!(zcf w).2.is && decide (itoa (zcf w).1=w))
attribute [local irreducible] z0on zyf
end
section
open Go.RowKit
set_option maxRecDepth 100000
end
section
open Go.RowKit
open Go.Lib (itoa)
set_option maxRecDepth 100000
set_option maxHeartbeats 4000000
attribute [local irreducible] z00 spD z1h itoa za z20 z3y z3s z01j zcf z6h zh8 zh9 zg zmz
attribute [local irreducible] den denX z0i z0q
theorem z0co {x:In} (h:za x.key=0):z3f x=[105,110,32]++itoa x.p.tx++[32]++itoa x.p.at_++[58]++z5i x.key++[10]:=by
 unfold z3f z3a;rw [if_neg (fun k=>k h)]
theorem z08x {x:Out} (h:za x.lock=0):z2j x=[111,117,116,32]++itoa x.coin++[58]++z5i x.lock++[10]:=by
 unfold z2j z3a;rw [if_neg (fun k=>k h)]
noncomputable def z53:zd:=spD (fun t:Tx=>zg t=0) fun t=>z0d t
theorem zgf (t:Tx) (h:zg t=0):z53 [I t.height,.l 3 (t.ins.map eIn),.l 2 (t.outs.map z3r)]=some [.s (z0d t)]:=zm (p:=fun t:Tx=>zg t=0) (f:=fun t:Tx=>z0d t) t h
def z08y:T :=
 .lets [.bin .add 18 19] [] (.lets [.bin .add 20 (.c (.s [10]))] [] (.lets [.bin .add 7 21] [] (.lets [.bin .add 8 (zI 1)] [] (.again 0 [.v
 22,23]))))
def z08z:T :=
 .lets [.bin .add 14 (.c (.s [32]))] [] (.lets [.call 38 [11] 0] [] (.lets [.bin .add 15 16] [] (.lets [.bin .add 17 (.c (.s [58]))] [] (.lets [.call 48 [.v
 12] 0] [] z08y))))
def z090:T :=
 .lets [.idx 1 8 0,.idx 1 8 1,.idx 1 8 2] [] (.lets [.call 38 [10] 0] [] (.lets [.bin .add (.c (.s [105,110,32])) 13] [] z08z))
def z091:T :=
 .lets [.bin .add 18 19] [] (.lets [.bin .add 20 (.c (.s [10]))] [] (.lets [.bin .add 11 21] [] (.lets [.bin .add 12 (zI 1)] [] (.again 1 [.v
 22,23]))))
def z092:T :=
 .lets [.call 38 [14] 0] [] (.lets [.bin .add (.c (.s [111,117,116,32])) 16] [] (.lets [.bin .add 17 (.c (.s [58]))] [] (.lets [.call 48 [15] 0] [] z091)))
def z093:T :=
 .lets [.bin .lss 12 10] [] (.ite 13 (.lets [] [.inr 2 2 12] (.lets [.idx 2 12 0,.idx 2 12 1] [] z092)) (.ret [11]))
def z094:T :=
 .lets [.bin .lss 8 6] [] (.ite 9 (.lets [] [.inr 3 1 8] z090) (.lets [.len 2] [] (.loop [7,zI 0] z093)))
def z095:T :=
 .lets [.bin .add (.c (.s [116,120,32])) 3] [] (.lets [.bin .add 4 (.c (.s [10]))] [] (.lets [.len 1] [] (.loop [5,zI 0] z094)))
def zhy:T :=
 .lets [.call 38 [0] 0] [] z095
attribute [local irreducible] z4d z80
theorem zsl:Meets Tryz.prog z53 54 ⟨[.agg 3],[(false,[.scal])],true⟩:=by
 refine zl (sp:=(z0g [(38,z4d),(48,z80)])) (sigs:=z0p) (cut:=[]) (hints:=[⟨3,[.t 3,.t 16]⟩,⟨8,[.t 3,.t 43]⟩]) (fn:=Tryz.f54) (t:=zhy) (by kernel_rfl) (by kernel_rfl) (by kernel_rfl) ?_ ?_
 ·exact (z05 (L:=[(38,z4d),(48,z80)]) ⟨ze rfl zn8,ze rfl z0cn,trivial⟩)
 ·rintro ds rs - h
  obtain ⟨t,ht,rfl,rfl⟩:=zp h;clear h;refine ⟨⟨20,?_⟩,z04 rfl⟩
  show den _ _ zhy [I t.height,.l 3 (t.ins.map eIn),.l 2 (t.outs.map z3r)] []=ret (z4e t++t.ins.flatMap z3f++t.outs.flatMap z2j)
  have ok:=z39 ht;have h0:=zg7 ok.head;have lh:=z4f (n:=t.height) (by omega) (by omega);have hn1:=ok.ins;have hn2:=ok.outs;have lhh:(z4e t).length≤24:=by simp only [z4e,zY04,zY0c,zY0r];omega
  unfold zhy
  repeat' (first|refine dq1 ?_|refine dqk rfl (z5v _) ?_|refine z5 (z75 rfl rfl (by simp only [zY04,zY0c,zY0r];omega)) ?_|fail)
  (refine zr (fun (a:List UInt8) k=>[.s a,I k]) (fun (a:List UInt8) _ (r:List In)=>a++r.flatMap z3f++t.outs.flatMap z2j) (fun a k=>a.length≤24+200 * k) (z4e t) t.ins ?_ ?_ ?_ ?_ ?_;rfl;exact (by omega);omega)
  ·rintro a k x r hx hd hk ha again hag
   have hxb:=zkl ok.insOk x (zY0a hx);obtain ⟨b1,b2,b3,b4,b5⟩:=zyt hxb;have il:=zs5 hxb;have l1:=z4f (n:=x.p.tx) (by omega) (by omega);have l2:=z4f (n:=x.p.at_) (by omega) (by omega);have ol:=za7 b5;have a3:=zew x.key b5;have hag':=hag (a++z3f x) (by rw [zY04];omega);have e:a++(x::r).flatMap z3f=(a++z3f x)++r.flatMap z3f:=by simp
   rw [e];rw [z0co b5] at hag' ⊢;clear hag e il
   repeat' (first|refine dq1 ?_|refine dqc ?_|refine dqm ?_|refine dqk rfl (z5v _) ?_|refine dqk rfl (a3) ?_|refine z5 (z75 rfl rfl (by simp only [zY04,zY0c,zY0r];omega)) ?_|refine dqT ?_|fail)
   exact z7 rfl rfl hag'
  ·rintro a ha again
   simp only [zY2n,zY1e]
   repeat' (first|refine dq1 ?_|refine dqF ?_|fail)
   (refine zr (fun (b:List UInt8) k=>[.s b,I k]) (fun (b:List UInt8) _ (r:List Out)=>b++r.flatMap z2j) (fun b k=>b.length≤a.length+200 * k) a t.outs ?_ ?_ ?_ ?_ ?_;rfl;exact (by omega);omega)
   ·rintro b k x r hx hd hk hb again' hag
    obtain ⟨b1,b2,b5⟩:=ok.good x (zY0a hx);have il:=zna b1 b2;have l1:=z4f (n:=x.coin) (by omega) (by omega);have ol:=za7 b5;have a3:=zew x.lock b5;have hag':=hag (b++z2j x) (by rw [zY04];omega);have e:b++(x::r).flatMap z2j=(b++z2j x)++r.flatMap z2j:=by simp
    rw [e];rw [z08x b5] at hag' ⊢;clear hag e il
    repeat' (first|refine dq1 ?_|refine dqc ?_|refine dqm ?_|refine dqk rfl (z5v _) ?_|refine dqk rfl (a3) ?_|refine z5 (z75 rfl rfl (by simp only [zY04,zY0c,zY0r];omega)) ?_|refine dqT ?_|fail)
    exact z7 rfl rfl hag'
   ·rintro b hb again'
    simp only [zY2n,zY1e]
    repeat' (first|refine dq1 ?_|exact z6 rfl rfl|refine dqF ?_|fail)
end
section
open Go.RowKit
set_option maxRecDepth 100000
set_option maxHeartbeats 4000000
end
section
open Go.RowKit
open Go.Lib (itoa)
set_option maxRecDepth 100000
set_option maxHeartbeats 4000000
section
variable {sp:Nat→zd} {E:Env}
end
attribute [local irreducible] den denX z0i z0q
attribute [local irreducible] z00 spD z6h zcf z0ez zf z0fa z01l z0c7 itoa
end
section
open Go.RowKit
open Go.Lib (itoa)
set_option maxRecDepth 100000
set_option maxHeartbeats 4000000
noncomputable def z3t:zd:=spD (fun _:Block=>True) fun b=>zf b
theorem zdm (b:Block):z3t [I b.parent,I b.height,I b.work,I b.nonce,.l 3 (b.txs.map eTx)]=some [I (zf b)]:=zm (f:=fun b:Block=>zf b) b trivial
theorem zjs:Meets Tryz.prog z3t 26 ⟨[.agg 5],[(false,[.scal])],true⟩ :=
 zfk rfl (z2t (fn:=Tryz.f26) (by kernel_rfl) (by kernel_rfl) (by kernel_rfl)) fun b _ W F us hF h=>by
  obtain ⟨cs,rfl,hr⟩:=zca h;have hS:Sep W F [rep b cs shBlock] W:=(Sep.start W F hF.1).addRep (S:=shBlock) (shBlock.more (fun b hb=>⟨.inl hb,by simp⟩) (she_block.of hr));exact ⟨(z0et b).i64,(z0j9 b cs hS At.z).mono fun e w' h=>⟨h.1,h.2.below⟩⟩
attribute [local irreducible] z00 spD itoa zg zf z0ez z0d z01m z6h
attribute [local irreducible] den denX z0i z0q
theorem z03e (b:Block):z4k b=tBlk++[b.parent,b.height,b.work,b.nonce].flatMap (fun n=>32::itoa n)++[10]:=by simp [z4k,tBlk]
noncomputable def z81:zd:=spD (fun b:Block=>zf b=0) fun b=>z18 b
theorem zqm (b:Block) (h:zf b=0):z81 [I b.parent,I b.height,I b.work,I b.nonce,.l 3 (b.txs.map eTx)]=some [.s (z18 b)]:=zm (p:=fun b:Block=>zf b=0) (f:=fun b:Block=>z18 b) b h
def z03f:T :=
 .lets [.call 38 [10] 0] [] (.lets [.bin .add (.c (.s [32])) 11] [] (.lets [.bin .add 7 12] [] (.lets [.bin .add 8 (zI 1)] [] (.again 0 [13,.v
 14]))))
def z03g:T :=
 .lets [.idx 4 13 0,.idx 4 13 1,.idx 4 13 2] [] (.lets [.call 71 [15,16,17] 0] [] (.lets [.bin .add 12 18] [] (.lets [.bin .add
 13 (zI 1)] [] (.again 1 [19,20]))))
def z03h:T :=
 .lets [.len 4] [] (.loop [10,zI 0] (.lets [.bin .lss 13 11] [] (.ite 14 (.lets [] [.inr 3 4 13] z03g) (.ret [12]))))
def z03i:T :=
 .lets [.bin .lss 8 6] [] (.ite 9 (.lets [] [.inr 1 5 8] (.lets [.idx 5 8 0] [] z03f)) (.lets [.bin .add 7 (.c (.s [10]))] []
 z03h))
def zfx:T :=
 .lets [.mk 1 [[0],[1],[2],[3]]] [] (.lets [.len 5] [] (.loop [.c (.s [98,108,111,99,107]),zI 0] z03i))
attribute [local irreducible] z4d z53
theorem z0cq:Meets Tryz.prog z81 77 ⟨[.agg 5],[(false,[.scal])],true⟩:=by
 refine zl (sp:=(z0g [(38,z4d),(71,z53)])) (sigs:=z0p) (cut:=[]) (hints:=[⟨3,[.t 3,.t 18]⟩,⟨9,[.t 3,.t 33]⟩]) (fn:=Tryz.f77) (t:=zfx) (by kernel_rfl) (by kernel_rfl) (by kernel_rfl) ?_ ?_
 ·exact (z05 (L:=[(38,z4d),(71,z53)]) ⟨ze rfl zn8,ze rfl zsl,trivial⟩)
 ·rintro ds rs - h
  obtain ⟨b,hb,rfl,rfl⟩:=zp h;clear h;refine ⟨⟨20,?_⟩,z04 rfl⟩
  show den _ _ zfx [I b.parent,I b.height,I b.work,I b.nonce,.l 3 (b.txs.map eTx)] []=ret (z4k b++b.txs.flatMap z0d)
  have ok:=z1g hb;have hn:=ok.len;have hr:=ok.range;unfold z38 at hr;have htb:tBlk.length=5:=rfl;rw [z03e];unfold zfx
  repeat' (first|refine z5 (z24 rfl rfl (by simp)) ?_|fail)
  change den _ _ _ [I b.parent,I b.height,I b.work,I b.nonce,.l 3 (b.txs.map eTx),.l 1 (([b.parent,b.height,b.work,b.nonce]:List Int).map z0r)] []=_
  repeat' (first|refine dq1 ?_|fail)
  (refine zr (fun (a:List UInt8) k=>[.s a,I k]) (fun (a:List UInt8) _ (r:List Int)=>a++r.flatMap (fun n=>32::itoa n)++[10]++b.txs.flatMap z0d) (fun a k=>a.length≤5+30 * k) tBlk [b.parent,b.height,b.work,b.nonce] ?_ ?_ ?_ ?_ ?_;rfl;exact (by omega);simp)
  ·rintro a k x r hx hd hk ha again hag
   have hxm:x ∈ [b.parent,b.height,b.work,b.nonce]:=zY0a hx;have hxb:0≤x∧x≤1000000000:=by
    simp only [zY0i,zY1h,or_false] at hxm;omega
   have l1:=z4f (n:=x) (by omega) (by omega);have hk4:k<4:=hk;have e:a++(x::r).flatMap (fun n=>32::itoa n)++[10]++b.txs.flatMap z0d=(a++32::itoa x)++r.flatMap (fun n=>32::itoa n)++[10]++b.txs.flatMap z0d:=by simp
   rw [e];have hag':=hag (a++32::itoa x) (by simp only [zY04,zY0c,zY0r];omega);clear hag e
   repeat' (first|refine dq1 ?_|refine dqc ?_|refine dqk rfl (z5v _) ?_|refine z5 (z75 rfl rfl (by simp only [zY04,zY0c,zY0r];omega)) ?_|refine dqT ?_|fail)
   exact z7 rfl rfl hag'
  ·rintro a ha again
   simp only [zY2n,zY1e];have ha4:a.length≤200:=by simp only [zY0c,zY0r] at ha;omega
   repeat' (first|refine dq1 ?_|refine z5 (z75 rfl rfl (by simp only [zY04,zY0c,zY0r];omega)) ?_|refine dqF ?_|fail)
   (refine zr (fun (c:List UInt8) k=>[.s c,I k]) (fun (c:List UInt8) _ (r:List Tx)=>c++r.flatMap z0d) (fun c k=>c.length≤300+3000 * k) (a++[10]) b.txs ?_ ?_ ?_ ?_ ?_;rfl;exact (by simp only [zY04,zY0c,zY0r];omega);omega)
   ·rintro c k x r hx hd hk hc again' hag
    have hxc:=ok.each x (zY0a hx);have a3:=zgf x hxc;have tl:=zhc hxc;have e:c++(x::r).flatMap z0d=(c++z0d x)++r.flatMap z0d:=by simp
    rw [e];have hag':=hag (c++z0d x) (by rw [zY04];omega);clear hag e
    repeat' (first|refine dq1 ?_|refine dqc ?_|refine dqm ?_|refine dqk rfl (a3) ?_|refine z5 (z75 rfl rfl (by omega)) ?_|refine dqT ?_|fail)
    exact z7 rfl rfl hag'
   ·rintro c hc again'
    simp only [zY2n,zY1e]
    repeat' (first|refine dq1 ?_|exact z6 rfl rfl|refine dqF ?_|fail)
end
section
open Go.RowKit
open Go.Lib (itoa)
set_option maxRecDepth 100000
set_option maxHeartbeats 4000000
noncomputable def z65:zd:=spD (fun _:Book=>True) fun k=>zk k
theorem zkt (k:Book):z65 [.l 1 (k.texts.map z13)]=some [I (zk k)]:=zm (f:=fun k:Book=>zk k) k trivial
theorem z03j:Meets Tryz.prog z65 19 ⟨[.agg 1],[(false,[.scal])],true⟩ :=
 zfk rfl (z2t (fn:=Tryz.f19) (by kernel_rfl) (by kernel_rfl) (by kernel_rfl)) fun k _ W F us hF h=>by
  obtain ⟨cs,rfl,hr⟩:=zca h;exact ⟨(z0ai k).i64,z082 k cs W F (she_book.of hr) hF.1⟩
theorem z0m8 {W W':World} {F:Nat→Prop}:∀ b,(zfq F W W' b∨Mid W W' b)→F b∨(W.heap.size≤b∧b<W'.heap.size):=fun b h=>h.elim id .inr
noncomputable def z76:zd:=spD (fun x:List (List UInt8) × List (List UInt8)=>x.1.length≤120∧x.2.length≤8796093022207) fun x=>z11 x.2 x.1 []
theorem zo9 (t l:List (List UInt8)) (h:t.length≤120) (hl:l.length≤8796093022207):z76 [.l 1 (t.map z13),.l 1 (l.map z13)]=some [.l 1 ((z11 l t []).1.map z13),.l 1 ((z11 l t []).2.1.map z0r),I (z11 l t []).2.2]:=zm (p:=fun x:List (List UInt8) × List (List UInt8)=>x.1.length≤120∧x.2.length≤8796093022207) (f:=fun x:List (List UInt8) × List (List UInt8)=>z11 x.2 x.1 []) (t,l) ⟨h,hl⟩
theorem z096:Meets Tryz.prog z76 78 ⟨[.one,.one],[(false,[.pure]),(false,[.pure]),(false,[.scal])],false⟩ :=
 z52 rfl (z2t (fn:=Tryz.f78) (by kernel_rfl) (by kernel_rfl) (by kernel_rfl)) fun x hx W F us hF h=>by
  obtain ⟨t,l⟩:=x;obtain ⟨v,us,rfl,h1,h⟩:=z1q (d:=.l 1 (t.map z13)) h;obtain ⟨v2,us,rfl,h2,h⟩:=z1q (d:=.l 1 (l.map z13)) h;obtain rfl:=z30 h;obtain ⟨A0,n0,c0,rfl,hl0⟩:=z3w zbv h1;obtain ⟨A,n,c,rfl,hl⟩:=z3w zbv h2;have hln0:=hl0.1;have hln:=hl.1;obtain ⟨hx1,hx2⟩:=hx;simp only at hx1 hx2;refine (z0cc t l A0 A n0 c0 n c W F hl0 hl hF.1 (by omega) (by omega)).mono ?_;rintro e w' ⟨A,n,c,A',n',c',rfl,hr,hr',hb⟩;refine ⟨_,rfl,hb,?_⟩;have hr1:=hr.more (F':=fun b=>zfq F W w' b∨Mid W w' b) fun b hb=>.inl hb
  have hr2:=hr'.more (F':=fun b=>zfq F W w' b∨Mid W w' b) fun b hb=>.inr hb
  exact resP (us:=[.slice A n c,.slice A' n' c',.int .i64 (z11 l t []).2.2]) (F':=fun b=>zfq F W w' b∨Mid W w' b) ⟨[.slice A n c,.slice A' n' c',.int .i64 (z11 l t []).2.2],rfl,.slice A n c,_,[.slice A n c],_,rfl,rfl,⟨rfl,rfl⟩,.slice A' n' c',_,[.slice A' n' c'],_,rfl,rfl,⟨rfl,rfl⟩,.int .i64 (z11 l t []).2.2,[],[.int .i64 (z11 l t []).2.2],[],rfl,rfl,⟨rfl,rfl⟩,rfl,rfl⟩ rfl ⟨rfl,trivial⟩ ⟨z8h zbv hr1,z8h z3g hr2,.i _ _ (wrap_i64 (zko l t []).i64),trivial⟩ rfl z0m8
theorem z03k:(List.range 1000).all (fun k=>decide (z0e ((k:Int)+1)=zdb ((k:Int)+1)))=true:=by decide +kernel
theorem z03l (n:Int) (h0:1≤n) (h1:n≤1000):zdb n=z0e n:=by
 have:=zY1g.1 z03k (n - 1).toNat (by simp;omega);have e:(((n - 1).toNat:Nat):Int)=n - 1:=by omega
 rw [decide_eq_true_iff,e] at this;rw [show n - 1+1=n by omega] at this;exact this.symm
noncomputable def z77:zd:=spD (fun n:Int=>1≤n∧n≤1000) fun n=>z0e n
theorem zoa (n:Int) (h0:1≤n) (h1:n≤1000):z77 [I n]=some [I (z0e n)]:=zm (p:=fun n:Int=>1≤n∧n≤1000) (f:=fun n:Int=>z0e n) n ⟨h0,h1⟩
theorem z097:Meets Tryz.prog z77 69 ⟨[.one],[(false,[.scal])],true⟩ :=
 zfk rfl (z2t (fn:=Tryz.f69) (by kernel_rfl) (by kernel_rfl) (by kernel_rfl)) fun n hn W F us hF h=>by
  obtain ⟨v,us,rfl,h2,h⟩:=z1q (d:=I n) h;obtain rfl:=z30 h;obtain ⟨rfl,-⟩:=zit h2;obtain ⟨h0,h1⟩:=hn;refine ⟨zhr (zdg n),(zyl n W (by omega) h1).mono ?_⟩;rintro e w' ⟨rfl,rfl⟩;exact ⟨by rw [z03l n h0 h1],Below.refl _ _⟩
def z1b (ts:List (List UInt8)) (b:Block):List (List UInt8) × Int × List Int × Int :=
 if zf b≠0 then ([],0,[],zf b) else
 if (z11 (b.txs.map z0d++[z18 b]) ts []).2.2≠0 then ([],0,[],(z11 (b.txs.map z0d++[z18 b]) ts []).2.2) else
 ((z11 (b.txs.map z0d++[z18 b]) ts []).1,((z11 (b.txs.map z0d++[z18 b]) ts []).2.1).getD b.txs.length 0,((z11 (b.txs.map z0d++[z18 b]) ts []).2.1).take b.txs.length,0)
theorem zfy {k:Book} {b:Block} (h:zk k=0):z1b k.texts b=z09 k b:=by
 unfold z1b z09
 by_cases hb:zf b=0
 ·have ok:=z1g hb
  have e1:zet b=b.txs.map z0d:=List.map_congr_left fun t ht=>by rw [znc (ok.each t ht)]
  rw [if_neg (fun k=>k hb),zji hb,if_neg (show ¬ ((z18 b,(0:Int)).2≠0) from fun k=>k rfl),e1];unfold z9u z0z;rw [if_neg (show ¬ zk k≠0 from fun x=>x h),zY0v]
 ·have e:z0h b=([],zf b):=by unfold z0h;rw [if_pos hb]
  rw [if_pos hb,e,if_pos hb]
theorem zhz {ts:List (List UInt8)} {b:Block} (h:(z1b ts b).2.2.2=0):zf b=0∧(z1b ts b).2.2.1.length=b.txs.length:=by
 unfold z1b at h ⊢
 by_cases hb:zf b=0
 ·rw [if_neg (fun k=>k hb)] at h ⊢
  refine ⟨hb,?_⟩
  by_cases ha:(z11 (b.txs.map z0d++[z18 b]) ts []).2.2=0
  ·rw [if_neg (fun k=>k ha)]
   have:=zdh _ ts [] ha
   show (List.take _ _).length=_
   rw [zY0e,this];simp
  ·rw [if_pos ha] at h;exact absurd h ha
 ·rw [if_pos hb] at h;exact absurd h hb
attribute [local irreducible] z00 spD z11 z0d z18 zf zg
attribute [local irreducible] den denX z0i z0q
noncomputable def z2r:zd:=spD (fun x:List (List UInt8) × Block=>x.1.length≤120) fun x=>z1b x.1 x.2
theorem z97 (ts:List (List UInt8)) (b:Block) (h:ts.length≤120):z2r [.l 1 (ts.map z13),I b.parent,I b.height,I b.work,I b.nonce,.l 3 (b.txs.map eTx)]=some [.l 1 ((z1b ts b).1.map z13),I (z1b ts b).2.1,.l 1 ((z1b ts b).2.2.1.map z0r),I (z1b ts b).2.2.2]:=zm (p:=fun x:List (List UInt8) × Block=>x.1.length≤120) (f:=fun x:List (List UInt8) × Block=>z1b x.1 x.2) (ts,b) h
def zu5:T :=
 .lets [.call 71 [12,13,14] 0] [] (.lets [.mk 1 [[15]]] [] (.lets [.app 1 9 16] [] (.lets [.bin .add 10 (zI 1)] [] (.again 0 [17,18]))))
def zu6:T :=
 .lets [.len 16] [] (.lets [.bin .sub 22 (zI 1)] [] (.lets [.sub 1 16 none (some 23)] [] (.ret [15,21,24,zI 0])))
def zu7:T :=
 .ite 18 (.ret [.c (.nil 1),zI 0,.c (.nil 1),17]) (.lets [.len 16] [] (.lets [.bin .sub 19 (zI 1)] [] (.lets [] [.inr 1 16 20]
 (.lets [.idx 16 20 0] [] zu6))))
def zu8:T :=
 .lets [.app 1 9 13] [] (.lets [.call 113 [0,14] 0,.call 113 [0,14] 1,.call 113 [0,14] 2] [] (.lets [.bin .neq 17 (zI 0)] []
 zu7))
def zu9:T :=
 .ite 11 (.lets [] [.inr 3 5 10] (.lets [.idx 5 10 0,.idx 5 10 1,.idx 5 10 2] [] zu5)) (.lets [.call 98 [1,2,3,.v
 4,5] 0] [] (.lets [.mk 1 [[12]]] [] zu8))
def zua:T :=
 .ite 7 (.ret [.c (.nil 1),zI 0,.c (.nil 1),6]) (.lets [.len 5] [] (.loop [.c (.nil 1),zI 0] (.lets [.bin .lss 10 8] []
 zu9)))
def ze2:T :=
 .lets [.call 96 [1,2,3,4,5] 0] [] (.lets [.bin .neq 6 (zI 0)] [] zua)
attribute [local irreducible] z81 z3t z76 z53
theorem ze3:Meets Tryz.prog z2r 28 ⟨[.one,.agg 5],[(false,[.pure]),(false,[.scal]),(false,[.pure]),(false,[.scal])],false⟩:=by
 refine zl (sp:=(z0g [(71,z53),(96,z3t),(98,z81),(113,z76)])) (sigs:=z0p) (cut:=[]) (hints:=[⟨6,[.r 9 9 1,.t 21]⟩]) (fn:=Tryz.f28) (t:=ze2) (by kernel_rfl) (by kernel_rfl) (by kernel_rfl) ?_ ?_
 ·exact (z05 (L:=[(71,z53),(96,z3t),(98,z81),(113,z76)]) ⟨ze rfl zsl,ze rfl zjs,ze rfl z0cq,ze rfl z096,trivial⟩)
 ·rintro ds rs hok h
  obtain ⟨⟨ts,b⟩,hts,rfl,rfl⟩:=zp h;clear h;simp only at hts;refine ⟨⟨100,?_⟩,z8l ⟨rfl,rfl,trivial⟩⟩
  show den _ _ ze2 [.l 1 (ts.map z13),I b.parent,I b.height,I b.work,I b.nonce,.l 3 (b.txs.map eTx)] []=ret (z1b ts b)
  have a1:=zdm b;unfold ze2 z1b
  by_cases hb:zf b=0
  rotate_left
  ·repeat' (first|refine dq1 ?_|refine dqk rfl (a1) ?_|exact z6 rfl rfl|refine tR (fun h=>?_) fun h=>?_|fail)
   all_goals (exfalso;omega)
  have ok:=z1g hb;have hlen:=ok.len;rw [hb] at a1;rw [if_neg (fun k=>k hb)]
  repeat' (first|refine dq1 ?_|refine dqk rfl (a1) ?_|refine dqF ?_|fail)
  (refine zr (fun (a:List (List UInt8)) k=>[.l 1 (a.map z13),I k]) (fun (a:List (List UInt8)) _ (r:List Tx)=>if (z11 (a++r.map z0d++[z18 b]) ts []).2.2≠0 then ([],0,[],(z11 (a++r.map z0d++[z18 b]) ts []).2.2) else ((z11 (a++r.map z0d++[z18 b]) ts []).1,((z11 (a++r.map z0d++[z18 b]) ts []).2.1).getD b.txs.length 0,((z11 (a++r.map z0d++[z18 b]) ts []).2.1).take b.txs.length,(0:Int))) (fun a k=>a.length=k) [] b.txs ?_ ?_ ?_ ?_ ?_;rfl;exact rfl;omega)
  ·rintro a i x r hx hd hk ha again hag
   have a2:=zgf x (ok.each x (zY0a hx));have e:a++((x::r).map z0d)=(a++[z0d x])++r.map z0d:=by simp
   rw [e];have hag':=hag (a++[z0d x]) (by simp;omega);generalize z0d x=z at *
   repeat' (first|refine dq1 ?_|refine dqc ?_|refine dqm ?_|refine dqk rfl (a2) ?_|refine z5 (z24 rfl rfl (by simp)) ?_|refine dqT ?_|fail)
   exact z7 rfl rfl hag'
  ·rintro a ha again
   simp only [zY2e,zY1e];have a3:=zqm b hb;have a4:=zo9 ts (a++[z18 b]) hts (by simp;omega);have hl:=fun h=>zdh (a++[z18 b]) ts [] h
   generalize z18 b=s at *;generalize z11 (a++[s]) ts []=q at *;obtain ⟨tx,ns,e2⟩:=q;simp only at *
   repeat' (first|refine dq1 ?_|refine dqk rfl (a3) ?_|refine dqK rfl (a4) ?_|refine z5 (z24 rfl rfl (by simp)) ?_|exact z6 rfl rfl|refine tR (fun h=>?_) fun h=>?_|refine dqF ?_|fail)
   have hl:=hl (by omega);simp only [zY04,zY0c,zY0r] at hl;have hg:ns[((ns.length:Int) - 1).toNat]? = some (ns.getD b.txs.length 0):=by
    rw [show ((ns.length:Int) - 1).toNat=b.txs.length by omega,zY0w,zY03 (by omega)];rfl
   have hn:(ns.length:Int) - 1=b.txs.length:=by omega
   generalize ns.getD b.txs.length 0=y at *
   repeat' (first|refine dq1 ?_|refine dqc ?_|fail)
   have e:(ns.take ((ns.length:Int) - 1).toNat).drop (0:Int).toNat=ns.take b.txs.length:=by rw [show ((ns.length:Int) - 1).toNat=b.txs.length by omega];rfl
   refine z5 (zeg (l:=ns) (m:=0) (n:=(ns.length:Int) - 1) rfl rfl rfl (by omega) (by omega) (by omega)) ?_;rw [e];exact z6 rfl rfl
end
section
open Go.RowKit
set_option maxRecDepth 100000
set_option maxHeartbeats 4000000
noncomputable def z66:zd:=spD (fun l:List (List Coin)=>total l≤1000000) fun l=>l.flatten
theorem zku (a b:List Coin) (h:a.length+b.length≤1000000):z66 [.l 1 [[.l 6 (a.map zb)],[.l 6 (b.map zb)]]]=some [.l 6 ((a++b).map zb)]:=by
 have h1:=zm (p:=fun l:List (List Coin)=>total l≤1000000) (f:=fun l:List (List Coin)=>l.flatten) [a,b] (by simpa [total] using h);have h2:[a,b].flatten=a++b:=by simp
 simp only [h2] at h1;exact h1
theorem z03m:Meets Tryz.prog z66 109 ⟨[.one],[(false,[.fresh 101 6])],false⟩ :=
 zdu (e:=fun x:{ l:List (List Coin) // total l≤1000000 }=>Enc.e x.1) (xs:=fun x=>x.1.flatten) she_coin rfl rfl (by decide) (z2t (fn:=Tryz.f109) (by kernel_rfl) (by kernel_rfl) (by kernel_rfl)) fun x W F us hF h=>by
  obtain ⟨v,us,rfl,h1,h⟩:=z1q h;obtain rfl:=z30 h;obtain ⟨A,n,c,rfl,k1⟩:=z3w (z5n she_coin rfl) h1;exact (z081 x.1 A n c W F k1 hF x.2).mono fun r W' h=>⟨_,h⟩
attribute [local irreducible] z00 spD
attribute [local irreducible] den denX z0i z0q
theorem z0cr {P:Program} {spec:zd} {f:Nat} {a:List PK} {r:List (Bool × List CF)} {b b':Bool} (h:Meets P spec f ⟨a,r,b⟩):Meets P spec f ⟨a,r,b'⟩:=by
 refine ⟨fun hm W F ds args rs hF ha hs=>?_,fun e sz ps he=>h.2 e sz ps he⟩;rcases h.1 hm W F ds args rs hF ha hs with ⟨h1,h2⟩|⟨v,W',h1,hb,us,F',hR⟩
 ·exact .inl ⟨h1,h2.mono fun e w' ⟨v,hv,hb,us,F',hR⟩=>⟨v,hv,hb,us,F',⟨hR.val,hR.lrs,hR.lus,hR.cells,hR.own,hR.apart,hR.dj⟩⟩⟩
 ·exact .inr ⟨v,W',h1,hb,us,F',⟨hR.val,hR.lrs,hR.lus,hR.cells,hR.own,hR.apart,hR.dj⟩⟩
def zi0 (p:Point):List Coin→Nat→Int
 | [],_ => -1
 | c::r,k=>if c.p=p then k else zi0 p r (k+1)
def z0c (l:List Coin) (p:Point):Int:=zi0 p l 0
noncomputable def z5r:zd:=spD (fun _:List Coin × Point=>True) fun x=>z0c x.1 x.2
theorem z78 (l:List Coin) (p:Point):z5r [.l 6 (l.map zb),I p.tx,I p.at_]=some [I (z0c l p)]:=zm (f:=fun x:List Coin × Point=>z0c x.1 x.2) (l,p) trivial
def z0cs:T :=
 .lets [.idx 0 5 0,.idx 0 5 1,.idx 0 5 2,.idx 0 5 3,.idx 0 5 4,.idx 0 5 5] [] (.lets [.eqs false [(.v 7,.v 1),(.v
 8,.v 2)]] [] (.ite 13 (.ret [5]) (.lets [.bin .add 5 (zI 1)] [] (.again 0 [4,14]))))
def z0ct:T :=
 .loop [zI 0,zI 0] (.lets [.bin .lss 5 3] [] (.ite 6 (.lets [] [.inr 6 0 5] z0cs) (.ret [.c (.i .i64 (-1))])))
def zkv:T :=
 .lets [.len 0] [] z0ct
theorem z03n:Meets Tryz.prog z5r 107 ⟨[.one,.agg 2],[(false,[.scal])],true⟩:=by
 refine zai (sp:=(z0g [])) (sigs:=z0p) (cut:=[]) (hints:=[]) (fns:=[zau 132 Tryz.f132 [⟨2,[.t 4,.t 8]⟩] [],zau 133 Tryz.f133 [] []]) (dep:=2) (pool:=200) (fn:=Tryz.f107) (t:=zkv) (by kernel_rfl) (by kernel_rfl) (by kernel_rfl) ?_ ?_ ?_
 ·exact (z3b (fn:=Tryz.f132) (by kernel_rfl) (by kernel_rfl) (by kernel_rfl) (by kernel_rfl) (by kernel_rfl) (z3b (fn:=Tryz.f133) (by kernel_rfl) (by kernel_rfl) (by kernel_rfl) (by kernel_rfl) (by kernel_rfl) zcb))
 ·exact (z05 (L:=[]) trivial)
 ·rintro ds rs hok h
  obtain ⟨⟨l,p⟩,-,rfl,rfl⟩:=zp h;clear h;have hl:=ok_l (hok (.l 6 (l.map zb)) (zY0p ..));clear hok;refine ⟨⟨l.length+1,?_⟩,z04 rfl⟩
  show den _ _ zkv [.l 6 (l.map zb),I p.tx,I p.at_] []=ret (z0c l p)
  unfold zkv z0c
  repeat' (first|refine dq1 ?_|fail)
  (refine zr (fun (_:Unit) k=>[I 0,I k]) (fun (_:Unit) k (r:List Coin)=>zi0 p r k) (fun _ _=>True) () l ?_ ?_ ?_ ?_ ?_;rfl;exact trivial;omega)
  ·rintro _ k c r hx hd hk - again hag
   rw [zi0];have hag:=hag () trivial
   repeat' (first|refine dq1 ?_|refine dqc ?_|refine dqm ?_|exact z7 rfl rfl hag|exact z6 rfl rfl|refine tR (fun h=>?_) fun h=>?_|refine dqT ?_|fail)
  ·rintro _ - again
   rw [zi0]
   repeat' (first|refine dq1 ?_|exact z6 rfl rfl|refine dqF ?_|fail)
end
section
open Go.RowKit Go.Sort
set_option maxRecDepth 100000
set_option maxHeartbeats 4000000
structure Fwd (B:Nat) (W W':World):Prop where
 os:W'.os=W.os
 tape:W'.tape=W.tape
 output:W'.output=W.output
 size:W.heap.size≤W'.heap.size
 same:∀ b,B≤b→b<W.heap.size→W'.heap[b]? = W.heap[b]?
theorem Fwd.refl (B:Nat) (W:World):Fwd B W W:=⟨rfl,rfl,rfl,zY0h _,fun _ _ _=>rfl⟩
theorem Fwd.trans {B:Nat} {W W' W'':World} (h:Fwd B W W') (k:Fwd B W' W''):Fwd B W W'' :=
 ⟨k.os.trans h.os,k.tape.trans h.tape,k.output.trans h.output,zY3e h.size k.size,fun b h1 h2=>(k.same b h1 (zY1u h2 h.size)).trans (h.same b h1 h2)⟩
theorem Fwd.below {B:Nat} {W W':World} (h:Below W.heap.size W W'):Fwd B W W':=⟨h.os,h.tape,h.output,h.size,fun b _ h2=>h.block b h2⟩
structure Srt {α:Type} [Inhabited α] (lt:α→α→Bool) (n B lf:Nat) (lb:Array Value) (sf:Nat) (sb:Array Value) (St:Array α→World→Prop):Prop where
 big:n<4611686018427387904
 enters:∀ args w,(callFunc lf args).run Tryz.prog w = .ok (.enter lf args) w
 size:∀ {d W},St d W→d.size=n
 base:∀ {d W},St d W→B≤W.heap.size
 keep:∀ {d W W'},St d W→Below B W W'→St d W'
 less:∀ {d W} (i j:Nat),St d W→i<n→j<n→Calls Tryz.prog lf (#[.int .i64 i,.int .i64 j]++lb) W fun e W'=>e = .returned (.bool (lt d[i]! d[j]!))∧St d W'∧Fwd B W W'
 swap:∀ {d W} (i j:Nat),St d W→i<n→j<n→∃ W',(callFunc sf (#[.int .i64 i,.int .i64 j]++sb)).run Tryz.prog W = .ok (.value (.tuple #[])) W'∧St (swp d i j) W'∧Fwd B W W'
theorem z0m9 {α:Type} [Inhabited α] (d:Array α) (i j:Nat):(swp d i j).size=d.size:=by simp [swp]
section
variable {α:Type} [Inhabited α] {lt:α→α→Bool} {n B lf sf:Nat} {lb sb:Array Value} {St:Array α→World→Prop}
structure On (B lf:Nat) (lb:Array Value) (sf:Nat) (sb:Array Value) (St:Array α→World→Prop) (w:World) (d:Array α) (W:World):Prop where
 st:St d W
 fwd:Fwd B w W
 bx:W.heap[w.heap.size]? = some (.cells #[.func (.func lf) #[] lb,.func (.func sf) #[] sb] 236 (0,0))
theorem z9x (w:World) (o:Obj):(w.alloc o).heap[w.heap.size]? = some o:=Array.getElem?_push_size
theorem z9y (w:World) (o:Obj) {b:Nat} (h:b<w.heap.size):(w.alloc o).heap[b]? = w.heap[b]?:=by
 show (w.heap.push o)[b]? = w.heap[b]?
 rw [zY3p,if_neg (by omega)]
theorem z4m (w:World) (o:Obj):(w.alloc o).heap.size=w.heap.size+1:=Array.size_push ..
omit [Inhabited α] in
theorem On.start [Inhabited α] {lt:α→α→Bool} (S:Srt lt n B lf lb sf sb St) {w:World} {d:Array α} (h:St d w):On B lf lb sf sb St w d (w.alloc (.cells #[.func (.func lf) #[] lb,.func (.func sf) #[] sb] 236)):=by
 have hb:=S.base h;refine ⟨S.keep h ((Below.refl _ _).alloc hb _),⟨rfl,rfl,rfl,by rw [z4m];omega,fun b _ hb'=>z9y _ _ hb'⟩,z9x _ _⟩
omit [Inhabited α] in
theorem On.is_lt {w W:World} {d:Array α} (h:On B lf lb sf sb St w d W):w.heap.size<W.heap.size:=by
 have:=h.bx;rw [zY17] at this;exact this.1
omit [Inhabited α] in
theorem On.call {w W W':World} {d d':Array α} (hw:B≤w.heap.size) (h:On B lf lb sf sb St w d W) (hs:St d' W'∧Fwd B W W'):On B lf lb sf sb St w d' W' :=
 ⟨hs.1,h.fwd.trans hs.2,(hs.2.same _ hw h.is_lt).trans h.bx⟩
omit [Inhabited α] in
theorem On.c0 {w W:World} {d:Array α} (h:On B lf lb sf sb St w d W):W.cell? ⟨w.heap.size,0,none⟩=some (.func (.func lf) #[] lb):=by
 unfold World.cell?;rw [h.bx];rfl
omit [Inhabited α] in
theorem On.c1 {w W:World} {d:Array α} (h:On B lf lb sf sb St w d W):W.cell? ⟨w.heap.size,1,none⟩=some (.func (.func sf) #[] sb):=by
 unfold World.cell?;rw [h.bx];rfl
theorem On.less {lt:α→α→Bool} (S:Srt lt n B lf lb sf sb St) {w W:World} {d:Array α} (h:On B lf lb sf sb St w d W) (hw:B≤w.heap.size) {i j:Nat} {x y:Int} {r:Bool} (hi:i<n) (hj:j<n) (hx:(i:Int)=x) (hy:(j:Int)=y) (hr:lt d[i]! d[j]! = r) :
  Calls Tryz.prog lf (#[.int .i64 x,.int .i64 y]++lb) W fun e W'=>e = .returned (.bool r)∧On B lf lb sf sb St w d W':=by
 subst hx;subst hy;subst hr;exact (S.less i j h.st hi hj).mono fun e W' ⟨he,hs⟩=>⟨he,h.call hw hs⟩
theorem On.swap {lt:α→α→Bool} (S:Srt lt n B lf lb sf sb St) {w W:World} {d:Array α} (h:On B lf lb sf sb St w d W) (hw:B≤w.heap.size) {i j:Nat} {x y:Int} (hi:i<n) (hj:j<n) (hx:(i:Int)=x) (hy:(j:Int)=y) :
  ∃ W',(callFunc sf (#[.int .i64 x,.int .i64 y]++sb)).run Tryz.prog W = .ok (.value (.tuple #[])) W'∧On B lf lb sf sb St w (swp d i j) W':=by
 subst hx;subst hy;obtain ⟨W',h1,h2⟩:=S.swap i j h.st hi hj;exact ⟨W',h1,h.call hw h2⟩
theorem z098 (lt:α→α→Bool) (a j:Nat) (d:Array α) (h:a<j) (hl:lt d[j]! d[j - 1]! = true):insInner lt a j d=insInner lt a (j - 1) (swp d j (j - 1)):=by
 obtain ⟨k,rfl⟩:∃ k,j=k+1:=⟨j - 1,by omega⟩
 simp only [zY2u] at hl;rw [insInner,hl,if_pos (by simp;omega)];rfl
theorem zi1 (lt:α→α→Bool) (a j:Nat) (d:Array α) (h:j≤a∨lt d[j]! d[j - 1]! = false):insInner lt a j d=d:=by
 cases j with
 | zero=>rfl
 | succ k =>
  rw [insInner];rcases h with h|h
  ·rw [if_neg (by simp;omega)]
  ·simp only [zY2u] at h
   rw [h,if_neg (by simp)]
theorem zjt (lt:α→α→Bool) (a b i:Nat) (d:Array α) (h:i<b):insOuter lt a b i d=insOuter lt a b (i+1) (insInner lt a i d):=by rw [insOuter,if_pos h]
theorem z03o (lt:α→α→Bool) (a b i:Nat) (d:Array α) (h:¬ i<b):insOuter lt a b i d=d:=by rw [insOuter,if_neg h]
theorem z0gd {lt:α→α→Bool} (S:Srt lt n B lf lb sf sb St) {w:World} {d:Array α} (h:St d w) {a b:Nat} (hab:a≤b) (hb:b≤n) :
  Calls Tryz.prog 183 #[.agg #[.func (.func lf) #[] lb,.func (.func sf) #[] sb],.int .i64 a,.int .i64 b] w fun e w'=>e = .returned (.tuple #[])∧St (insertionSort lt d a b) w'∧Fwd B w w':=by
 have hw:=S.base h;have hO:=On.start S h;have hbig:=S.big;have eg:=S.enters;go_enter Tryz.func183,Tryz.ntmps183;go_wp2;go_loopg [6] (b+1 - a) (fun kx vi wr=>∃ (i:Nat) (dk:Array α),vi = .int .i64 i∧a<i∧i≤b+1∧b+1 - i<kx∧On B lf lb sf sb St w dk wr∧Hid (insOuter lt a b i dk=insOuter lt a b (a+1) d))
 case atStart=>exact ⟨a+1,d,by go_num,by omega,by omega,by omega,hO,rfl⟩
 case round =>
  obtain ⟨i,dk,rfl,hai,hib,hkx,hW,HO⟩:=hrel;clear hO
  by_cases hlt:i<b
  ·have hltz:(i:Int)<(b:Int):=by omega
   repeat' (first|go_step|fail)
   go_loopg [7] (i+1) (fun ky vj wr2=>∃ (j:Nat) (dj:Array α),vj = .int .i64 j∧a≤j∧j≤i∧j<ky∧On B lf lb sf sb St w dj wr2∧Hid (insInner lt a j dj=insInner lt a i dk))
   case atStart=>exact ⟨i,dk,rfl,by omega,zY0h _,by omega,hW,rfl⟩
   case round =>
    obtain ⟨j,dj,rfl,haj,hji,hky,hW2,HI⟩:=hrel;clear hW;have c0:=hW2.c0
    by_cases hja:a<j
    ·have hjz:(a:Int)<(j:Int):=by omega
     cases hl:lt dj[j]! dj[j - 1]! with
     | true =>
      have hc:=hW2.less S hw (i:=j) (j:=j - 1) (x:=j) (y:=(j:Int) - 1) (by omega) (by omega) rfl (by omega) hl;have HL:=Lib.hid hl;clear hl
      repeat' (first|(refine hc.mono ?_;rintro e w1 ⟨rfl,hW3⟩;simp only [];have c1:=hW3.c1;obtain ⟨w2,hs,hW4⟩:=hW3.swap S hw (i:=j) (j:=j - 1) (x:=j) (y:=(j:Int) - 1) (by omega) (by omega) rfl (by omega);have HS:=Lib.hid hs;clear hs)|(rw [HS.out,Oper.upon_value])|go_guarded|go_step|fail)
      go_roundg j
      case measure=>omega
      case rel=>exact ⟨j - 1,_,by go_num,by omega,by omega,by omega,hW4,by show Hid _;rw [← HI.out,z098 lt a j dj hja HL.out];exact rfl⟩
     | false =>
      have hc:=hW2.less S hw (i:=j) (j:=j - 1) (x:=j) (y:=(j:Int) - 1) (by omega) (by omega) rfl (by omega) hl;have HL:=Lib.hid hl;clear hl
      repeat' (first|(refine hc.mono ?_;rintro e w1 ⟨rfl,hW3⟩;simp only [])|go_guarded|go_step|fail)
      go_roundg (b+1 - i)
      case measure=>omega
      case rel=>exact ⟨i+1,dj,by go_num,by omega,by omega,by omega,hW3,by show Hid _;rw [← HO.out,zjt lt a b i dk hlt,← HI.out,zi1 lt a j dj (Or.inr HL.out)];exact rfl⟩
    ·have hjz:¬ (a:Int)<(j:Int):=by omega
     repeat' (first|go_guarded|go_step|fail)
     go_roundg (b+1 - i)
     case measure=>omega
     case rel=>exact ⟨i+1,dj,by go_num,by omega,by omega,by omega,hW2,by show Hid _;rw [← HO.out,zjt lt a b i dk hlt,← HI.out,zi1 lt a j dj (Or.inl (by omega))];exact rfl⟩
  ·have hltz:¬ (i:Int)<(b:Int):=by omega
   repeat' (first|go_step|fail)
   go_end0;exact ⟨rfl,by unfold insertionSort;rw [← HO.out,z03o lt a b i dk hlt];exact hW.st,hW.fwd⟩
end
end
section
open Go.RowKit Go.Sort
set_option maxRecDepth 100000
set_option maxHeartbeats 4000000
section
variable {α:Type} [Inhabited α] {lt:α→α→Bool} {n B lf sf:Nat} {lb sb:Array Value} {St:Array α→World→Prop}
theorem z0cu (i j:Nat) (d:Array α) (h:i<j):reverseLoop i j d=reverseLoop (i+1) (j - 1) (swp d i j):=by rw [reverseLoop,if_pos h]
theorem z099 (i j:Nat) (d:Array α) (h:¬ i<j):reverseLoop i j d=d:=by rw [reverseLoop,if_neg h]
def kid (lt:α→α→Bool) (hi F r:Nat) (d:Array α):Nat:=if (decide (2 * r+2<hi) && lt d[F+(2 * r+1)]! d[F+(2 * r+2)]!)=true then 2 * r+2 else 2 * r+1
theorem z0ja {hi F r:Nat} (d:Array α) (h:hi≤2 * r+1):siftDown lt hi F r d=d:=by rw [siftDown,dif_pos h]
theorem z03p {hi F r c:Nat} (d:Array α) (h:¬ hi≤2 * r+1) (hc:kid lt hi F r d=c):siftDown lt hi F r d=if lt d[F+r]! d[F+c]! then siftDown lt hi F c (swp d (F+r) (F+c)) else d:=by
 subst hc;unfold kid;rw [siftDown,dif_neg h,show F+(2 * r+1)+1=F+(2 * r+2) by omega]
 by_cases hb:(decide (2 * r+2<hi) && lt d[F+(2 * r+1)]! d[F+(2 * r+2)]!)=true
 ·have hb':(decide (2 * r+1+1<hi) && lt d[F+(2 * r+1)]! d[F+(2 * r+2)]!)=true:=hb
  rw [if_pos hb',if_pos hb];have:2 * r+2<hi:=by (rw [zY0d] at hb;exact of_decide_eq_true hb.1)
  cases hl:lt d[F+r]! d[F+(2 * r+2)]! with
  | true=>simp only [zY3c,zY0u,if_false,if_true];rw [dif_pos this]
  | false=>simp only [Bool.not_false,zY0u,if_false,if_true]
 ·have hb':¬ (decide (2 * r+1+1<hi) && lt d[F+(2 * r+1)]! d[F+(2 * r+2)]!)=true:=hb
  rw [if_neg hb',if_neg hb]
  cases hl:lt d[F+r]! d[F+(2 * r+1)]! with
  | true=>simp only [zY3c,zY0u,if_false,if_true]
  | false=>simp only [Bool.not_false,zY0u,if_false,if_true]
theorem z0ge {hi F r c:Nat} (d:Array α) (h:¬ hi≤2 * r+1) (hc:kid lt hi F r d=c):c<hi∧r<c:=by
 subst hc;unfold kid
 split
 ·rename_i hb
  have:2 * r+2<hi:=by (rw [zY0d] at hb;exact of_decide_eq_true hb.1)
  omega
 ·omega
theorem z0cv (S:Srt lt n B lf lb sf sb St) {w:World} {d:Array α} (h:St d w) {a b:Nat} (hab:a<b) (hb:b≤n) :
  Calls Tryz.prog 187 #[.agg #[.func (.func lf) #[] lb,.func (.func sf) #[] sb],.int .i64 a,.int .i64 b] w fun e w'=>e = .returned (.tuple #[])∧St (reverseRange d a b) w'∧Fwd B w w':=by
 have hw:=S.base h;have hO:=On.start S h;have hbig:=S.big;go_enter Tryz.func187,Tryz.ntmps187;go_wp2;go_loopg [6,7] b (fun kx vi vj wr=>∃ (i j:Nat) (dk:Array α),vi = .int .i64 i∧vj = .int .i64 j∧a≤i∧j<b∧j<kx∧On B lf lb sf sb St w dk wr∧Hid (reverseLoop i j dk=reverseLoop a (b - 1) d))
 case atStart=>exact ⟨a,b - 1,d,rfl,by go_num,by omega,by omega,by omega,hO,rfl⟩
 case round =>
  obtain ⟨i,j,dk,rfl,rfl,hai,hjb,hkx,hW,HO⟩:=hrel;clear hO
  by_cases hij:i<j
  ·have hz:(i:Int)<(j:Int):=by omega
   have c1:=hW.c1;obtain ⟨w2,hs,hW4⟩:=hW.swap S hw (i:=i) (j:=j) (by omega) (by omega) rfl rfl;have HS:=Lib.hid hs;clear hs
   repeat' (first|(rw [HS.out,Oper.upon_value])|go_step|fail)
   go_roundg j
   case measure=>omega
   case rel=>exact ⟨i+1,j - 1,_,by go_num,by go_num,by omega,by omega,by omega,hW4,by show Hid _;rw [← HO.out,z0cu i j dk hij];exact rfl⟩
  ·have hz:¬ (i:Int)<(j:Int):=by omega
   repeat' (first|go_step|fail)
   go_end0;exact ⟨rfl,by unfold reverseRange;rw [← HO.out,z099 i j dk hij];exact hW.st,hW.fwd⟩
theorem z0gf (S:Srt lt n B lf lb sf sb St) {w:World} {d:Array α} (h:St d w) {lo hi first:Nat} (hlo:lo≤hi) (hb:first+hi≤n) :
  Calls Tryz.prog 200 #[.agg #[.func (.func lf) #[] lb,.func (.func sf) #[] sb],.int .i64 lo,.int .i64 hi,.int .i64 first] w fun e w'=>e = .returned (.tuple #[])∧St (siftDown lt hi first lo d) w'∧Fwd B w w':=by
 have hw:=S.base h;have hO:=On.start S h;have hbig:=S.big;have eg:=S.enters;go_enter Tryz.func200,Tryz.ntmps200;go_wp2;go_loopg [8] (hi - lo+1) (fun kx s8 wr=>∃ (root:Nat) (dk:Array α),s8 = .int .i64 root∧root≤hi∧hi - root<kx∧On B lf lb sf sb St w dk wr∧Hid (siftDown lt hi first root dk=siftDown lt hi first lo d))
 case atStart=>exact ⟨lo,d,rfl,hlo,by omega,hO,rfl⟩
 case round =>
  obtain ⟨root,dk,rfl,hr,hkx,hW,HO⟩:=hrel;clear hO;have c0:=hW.c0;have c1:=hW.c1
  by_cases h0:hi≤2 * root+1
  ·have h0z:(hi:Int)≤2 * (root:Int)+1:=by omega
   repeat' (first|go_step|fail)
   go_end0;exact ⟨rfl,by rw [← HO.out,z0ja dk h0];exact hW.st,hW.fwd⟩
  have h0z:¬ ((hi:Int)≤2 * (root:Int)+1):=by omega
  go_upto_region 4 with fail
  go_cut [32] (fun c wx=>c = .bool (decide (2 * root+2<hi) && lt dk[first+(2 * root+1)]! dk[first+(2 * root+2)]!)∧On B lf lb sf sb St w dk wx)
  case first =>
   by_cases h1:2 * root+2<hi
   ·have h1z:2 * (root:Int)+1+1<(hi:Int):=by omega
    cases hL:lt dk[first+(2 * root+1)]! dk[first+(2 * root+2)]! with
    | true =>
     have hc:=hW.less S hw (i:=first+(2 * root+1)) (j:=first+(2 * root+2)) (x:=(first:Int)+(2 * (root:Int)+1)) (y:=(first:Int)+(2 * (root:Int)+1)+1) (by omega) (by omega) (by omega) (by omega) hL;have HL:=Lib.hid hL;clear hL;go_wp2_with (refine hc.mono ?_;rintro e w1 ⟨rfl,hU⟩;simp only [];clear hc);go_meet;exact ⟨by rw [decide_eq_true h1,HL.out];rfl,hU⟩
    | false =>
     have hc:=hW.less S hw (i:=first+(2 * root+1)) (j:=first+(2 * root+2)) (x:=(first:Int)+(2 * (root:Int)+1)) (y:=(first:Int)+(2 * (root:Int)+1)+1) (by omega) (by omega) (by omega) (by omega) hL;have HL:=Lib.hid hL;clear hL;go_wp2_with (refine hc.mono ?_;rintro e w1 ⟨rfl,hU⟩;simp only [];clear hc);go_meet;exact ⟨by rw [decide_eq_true h1,HL.out];rfl,hU⟩
   ·have h1z:¬ (2 * (root:Int)+1+1<(hi:Int)):=by omega
    go_wp2_with fail;go_meet;exact ⟨by rw [decide_eq_false h1];rfl,hW⟩
  case rest =>
   obtain ⟨rfl,hX⟩:=hcut;clear hW c0 c1;have c0:=hX.c0;have HK:∀ b,(decide (2 * root+2<hi) && lt dk[first+(2 * root+1)]! dk[first+(2 * root+2)]!)=b→kid lt hi first root dk=if b=true then 2 * root+2 else 2 * root+1:=fun b hb=>by unfold kid;rw [hb]
   cases hb:(decide (2 * root+2<hi) && lt dk[first+(2 * root+1)]! dk[first+(2 * root+2)]!) with
   | true =>
    have hk:kid lt hi first root dk=2 * root+2:=HK _ hb
    have hk1:=z0ge dk h0 hk;have hk2:=Lib.hid (z03p dk h0 hk);clear hb HK hk
    cases hG:lt dk[first+root]! dk[first+(2 * root+2)]! with
    | true =>
     have hd:=hX.less S hw (i:=first+root) (j:=first+(2 * root+2)) (x:=(first:Int)+(root:Int)) (y:=(first:Int)+(2 * (root:Int)+1+1)) (by omega) (by omega) (by omega) (by omega) hG;have HG:=Lib.hid hG;clear hG;go_wp2_with (first|(refine hd.mono ?_;rintro e w2 ⟨rfl,hW2⟩;simp only [];clear hd;have c1:=hW2.c1;obtain ⟨w3,hs,hW3⟩:=hW2.swap S hw (i:=first+root) (j:=first+(2 * root+2)) (x:=(first:Int)+(root:Int)) (y:=(first:Int)+(2 * (root:Int)+1+1)) (by omega) (by omega) (by omega) (by omega);have HS:=Lib.hid hs;clear hs)|(rw [HS.out,Oper.upon_value]));go_roundg (hi - root)
     case measure=>omega
     case rel=>exact ⟨2 * root+2,_,by go_num,by omega,by omega,hW3,by show Hid _;rw [← HO.out,hk2.out,HG.out,if_pos rfl];exact rfl⟩
    | false =>
     have hd:=hX.less S hw (i:=first+root) (j:=first+(2 * root+2)) (x:=(first:Int)+(root:Int)) (y:=(first:Int)+(2 * (root:Int)+1+1)) (by omega) (by omega) (by omega) (by omega) hG;have HG:=Lib.hid hG;clear hG;go_wp2_with (refine hd.mono ?_;rintro e w2 ⟨rfl,hW2⟩;simp only [];clear hd)
     ((try simp only [Exit.inBlock,Exit.then]);refine bodyPost_ret (results_none rfl _ _ _) rfl ?_)
     exact ⟨rfl,by rw [← HO.out,hk2.out,HG.out,if_neg zY3h];exact hW2.st,hW2.fwd⟩
   | false =>
    have hk:kid lt hi first root dk=2 * root+1:=HK _ hb
    have hk1:=z0ge dk h0 hk;have hk2:=Lib.hid (z03p dk h0 hk);clear hb HK hk
    cases hG:lt dk[first+root]! dk[first+(2 * root+1)]! with
    | true =>
     have hd:=hX.less S hw (i:=first+root) (j:=first+(2 * root+1)) (x:=(first:Int)+(root:Int)) (y:=(first:Int)+(2 * (root:Int)+1)) (by omega) (by omega) (by omega) (by omega) hG;have HG:=Lib.hid hG;clear hG;go_wp2_with (first|(refine hd.mono ?_;rintro e w2 ⟨rfl,hW2⟩;simp only [];clear hd;have c1:=hW2.c1;obtain ⟨w3,hs,hW3⟩:=hW2.swap S hw (i:=first+root) (j:=first+(2 * root+1)) (x:=(first:Int)+(root:Int)) (y:=(first:Int)+(2 * (root:Int)+1)) (by omega) (by omega) (by omega) (by omega);have HS:=Lib.hid hs;clear hs)|(rw [HS.out,Oper.upon_value]));go_roundg (hi - root)
     case measure=>omega
     case rel=>exact ⟨2 * root+1,_,by go_num,by omega,by omega,hW3,by show Hid _;rw [← HO.out,hk2.out,HG.out,if_pos rfl];exact rfl⟩
    | false =>
     have hd:=hX.less S hw (i:=first+root) (j:=first+(2 * root+1)) (x:=(first:Int)+(root:Int)) (y:=(first:Int)+(2 * (root:Int)+1)) (by omega) (by omega) (by omega) (by omega) hG;have HG:=Lib.hid hG;clear hG;go_wp2_with (refine hd.mono ?_;rintro e w2 ⟨rfl,hW2⟩;simp only [];clear hd)
     ((try simp only [Exit.inBlock,Exit.then]);refine bodyPost_ret (results_none rfl _ _ _) rfl ?_)
     exact ⟨rfl,by rw [← HO.out,hk2.out,HG.out,if_neg zY3h];exact hW2.st,hW2.fwd⟩
theorem z0jb (lt:α→α→Bool) (hi F k:Nat) (d:Array α) (h:k≠0):heapBuild lt hi F k d=heapBuild lt hi F (k - 1) (siftDown lt hi F (k - 1) d):=by
 obtain ⟨j,rfl⟩:∃ j,k=j+1:=⟨k - 1,by omega⟩
 rfl
theorem z0oo (lt:α→α→Bool) (F k:Nat) (d:Array α) (h:k≠0):heapPop lt F k d=heapPop lt F (k - 1) (siftDown lt (k - 1) F 0 (swp d F (F+(k - 1)))):=by
 obtain ⟨j,rfl⟩:∃ j,k=j+1:=⟨k - 1,by omega⟩
 rfl
theorem z0op (S:Srt lt n B lf lb sf sb St) {w:World} {d:Array α} (h:St d w) {a b:Nat} (hab:a<b) (hb:b≤n) :
  Calls Tryz.prog 184 #[.agg #[.func (.func lf) #[] lb,.func (.func sf) #[] sb],.int .i64 a,.int .i64 b] w fun e w'=>e = .returned (.tuple #[])∧St (heapSort lt d a b) w'∧Fwd B w w':=by
 have hw:=S.base h;have hO:=On.start S h;have hbig:=S.big;obtain ⟨m,hm⟩:∃ m,m=(b - a - 1) / 2+1:=⟨_,rfl⟩
 have hmz:((b:Int) - (a:Int) - 1) / 2=(m:Int) - 1:=by omega
 have hsz:((b - a:Nat):Int)=(b:Int) - (a:Int):=by omega
 have H0:heapSort lt d a b=heapPop lt a (b - a) (heapBuild lt (b - a) a m d):=by rw [hm];rfl
 rw [H0];clear H0;have hml:m≤b - a:=by omega
 clear hm;go_enter Tryz.func184,Tryz.ntmps184;go_wp2;go_loopg [9] (m+1) (fun kx v wr=>∃ (k:Nat) (dk:Array α),v = .int .i64 ((k:Int) - 1)∧k≤m∧k<kx∧On B lf lb sf sb St w dk wr∧Hid (heapBuild lt (b - a) a k dk=heapBuild lt (b - a) a m d))
 case atStart=>exact ⟨m,d,by go_num,zY0h _,zY26 _,hO,rfl⟩
 case round =>
  obtain ⟨k,dk,rfl,hkm,hkx,hW,HO⟩:=hrel;clear hO;have c0:=hW.c0;have c1:=hW.c1
  by_cases h0:k=0
  ·have hz:¬ (0:Int)≤(k:Int) - 1:=by omega
   have hD:Hid (heapBuild lt (b - a) a m d=dk):=by (show _=_;rw [← HO.out,h0];rfl)
   clear HO c0 c1;go_wp2;go_loopg [10] (b - a+1) (fun kx v wr=>∃ (k:Nat) (dj:Array α),v = .int .i64 ((k:Int) - 1)∧k≤b - a∧k<kx∧On B lf lb sf sb St w dj wr∧Hid (heapPop lt a k dj=heapPop lt a (b - a) dk))
   case atStart=>exact ⟨b - a,dk,by go_num,zY0h _,zY26 _,hW,rfl⟩
   case round =>
    obtain ⟨j,dj,rfl,hjm,hjx,hW2,HP⟩:=hrel;clear hW;have c1:=hW2.c1
    by_cases h1:j=0
    ·have hz1:¬ (0:Int)≤(j:Int) - 1:=by omega
     go_wp2;go_end0;exact ⟨rfl,by rw [hD.out,← HP.out,h1];exact hW2.st,hW2.fwd⟩
    ·have hz1:(0:Int)≤(j:Int) - 1:=by omega
     obtain ⟨w2,hs,hV⟩:=hW2.swap S hw (i:=a) (j:=a+(j - 1)) (x:=a) (y:=(a:Int)+((j:Int) - 1)) (by omega) (by omega) rfl (by omega);have HS:=Lib.hid hs;clear hs;have hc:=z0gf S hV.st (lo:=0) (hi:=j - 1) (first:=a) (by omega) (by omega);rw [show ((j - 1:Nat):Int)=(j:Int) - 1 by omega,show ((0:Nat):Int)=0 from rfl] at hc;have d0:=hV.c0;have d1:=hV.c1;go_wp2_with (first|(rw [HS.out,Oper.upon_value])|(refine hc.mono ?_;rintro e w3 ⟨rfl,hU⟩;simp only [];have hU:=hV.call hw hU;clear hc d0 d1));go_roundg j
     case measure=>omega
     case rel=>exact ⟨j - 1,_,by go_num,by omega,by omega,hU,by show Hid _;rw [← HP.out,z0oo lt a j dj h1];exact rfl⟩
  ·have hz:(0:Int)≤(k:Int) - 1:=by omega
   have hc:=z0gf S hW.st (lo:=k - 1) (hi:=b - a) (first:=a) (by omega) (by omega);rw [show ((k - 1:Nat):Int)=(k:Int) - 1 by omega,hsz] at hc;go_wp2_with (refine hc.mono ?_;rintro e w3 ⟨rfl,hU⟩;simp only [];have hU:=hW.call hw hU;clear hc);go_roundg k
   case measure=>omega
   case rel=>exact ⟨k - 1,_,by go_num,by omega,by omega,hU,by show Hid _;rw [← HO.out,z0jb lt (b - a) a k dk h0];exact rfl⟩
end
end
section
open Go.RowKit Go.Sort
set_option maxRecDepth 100000
set_option maxHeartbeats 4000000
section
variable {α:Type} {n B lf sf:Nat} {lb sb:Array Value} {St:Array α→World→Prop}
structure Cnt (B cb:Nat) (St:Array α→World→Prop) (d:Array α) (s:Nat) (w W:World):Prop where
 st:St d W
 os:W.os=w.os
 tape:W.tape=w.tape
 output:W.output=w.output
 size:w.heap.size≤W.heap.size
 same:∀ b,B≤b→b<w.heap.size→b≠cb→W.heap[b]? = w.heap[b]?
 cn:W.heap[cb]? = some (.cells #[.int .i64 s] 3 (0,0))
theorem Cnt.cc {cb s:Nat} {d:Array α} {w W:World} (h:Cnt B cb St d s w W):W.cell? ⟨cb,0,none⟩=some (.int .i64 s):=by
 unfold World.cell?;rw [h.cn];rfl
theorem Cnt.cf {cb s:Nat} {d:Array α} {w W:World} (h:Cnt B cb St d s w W):W.frozen? ⟨cb,0,none⟩=false:=by
 unfold World.frozen?;rw [h.cn];rfl
theorem Cnt.trans {cb s s':Nat} {d d':Array α} {w W W':World} (h:Cnt B cb St d s w W) (k:Cnt B cb St d' s' W W'):Cnt B cb St d' s' w W' :=
 ⟨k.st,k.os.trans h.os,k.tape.trans h.tape,k.output.trans h.output,zY3e h.size k.size,fun b h1 h2 h3=>(k.same b h1 (zY1u h2 h.size) h3).trans (h.same b h1 h2 h3),k.cn⟩
theorem Cnt.is_lt {cb s:Nat} {d:Array α} {w W:World} (h:Cnt B cb St d s w W):cb<W.heap.size:=by
 have:=h.cn;rw [zY17] at this;exact this.1
def Bxx (lf:Nat) (lb:Array Value) (sf:Nat) (sb:Array Value) (g:Nat) (W:World):Prop:=W.heap[g]? = some (.cells #[.func (.func lf) #[] lb,.func (.func sf) #[] sb] 236 (0,0))
theorem Bxx.c0 {g:Nat} {W:World} (h:Bxx lf lb sf sb g W):W.cell? ⟨g,0,none⟩=some (.func (.func lf) #[] lb):=by
 unfold World.cell?;rw [show W.heap[g]? = _ from h];rfl
theorem Bxx.c1 {g:Nat} {W:World} (h:Bxx lf lb sf sb g W):W.cell? ⟨g,1,none⟩=some (.func (.func sf) #[] sb):=by
 unfold World.cell?;rw [show W.heap[g]? = _ from h];rfl
theorem Bxx.is_lt {g:Nat} {W:World} (h:Bxx lf lb sf sb g W):g<W.heap.size:=by
 have:W.heap[g]? = _:=h;rw [zY17] at this;exact this.1
theorem Bxx.to {g cb s:Nat} {d:Array α} {W W':World} (h:Bxx lf lb sf sb g W) (k:Cnt B cb St d s W W') (hg:B≤g) (hne:g≠cb):Bxx lf lb sf sb g W':=(k.same g hg h.is_lt hne).trans h
theorem Cnt.fwd {cb s:Nat} {d:Array α} {w W W':World} (h:Cnt B cb St d s w W) (hcB:B≤cb) (hs:St d W'∧Fwd B W W'):Cnt B cb St d s w W' :=
 ⟨hs.1,hs.2.os.trans h.os,hs.2.tape.trans h.tape,hs.2.output.trans h.output,zY3e h.size hs.2.size,fun b h1 h2 h3=>(hs.2.same b h1 (zY1u h2 h.size)).trans (h.same b h1 h2 h3),(hs.2.same _ hcB h.is_lt).trans h.cn⟩
end
section
variable {α:Type} [Inhabited α] {lt:α→α→Bool} {n B lf sf:Nat} {lb sb:Array Value} {St:Array α→World→Prop}
theorem Cnt.add (S:Srt lt n B lf lb sf sb St) {cb s:Nat} {d:Array α} {w W:World} (h:Cnt B cb St d s w W) (hcB:B≤cb) {s':Nat} {z:Int} (hz:z=(s':Int)):Cnt B cb St d s' w (W.setCell ⟨cb,0,none⟩ (.int .i64 z)):=by
 subst hz;have hl:=h.is_lt;have hsz:(W.setCell ⟨cb,0,none⟩ (.int .i64 (s':Int))).heap.size=W.heap.size:=by simp [World.setCell]
 refine ⟨S.keep h.st ((Below.refl _ _).setCell hcB _),h.os,h.tape,h.output,by rw [hsz];exact h.size,fun b h1 h2 h3=>(heap_setCell_other W _ b _ h3).trans (h.same b h1 h2 h3),?_⟩;have:=heap_setCell_same W cb 0 _ _ (.int .i64 (s':Int)) h.cn;simpa using this
theorem Cnt.start (S:Srt lt n B lf lb sf sb St) {cb s:Nat} {d:Array α} {w:World} (h:St d w) (hc:w.heap[cb]? = some (.cells #[.int .i64 s] 3 (0,0))) (o:Obj):Cnt B cb St d s w (w.alloc o):=by
 have hb:=S.base h;have hl:cb<w.heap.size:=by rw [zY17] at hc;exact hc.1
 exact ⟨S.keep h ((Below.refl _ _).alloc hb _),rfl,rfl,rfl,by rw [z4m];omega,fun b _ h2 _=>z9y _ _ h2,(z9y _ _ hl).trans hc⟩
theorem zkw (S:Srt lt n B lf lb sf sb St) {w:World} {d:Array α} (h:St d w) {cb s:Nat} (hcB:B≤cb) (hc:w.heap[cb]? = some (.cells #[.int .i64 s] 3 (0,0))) (hs:s+1<4611686018427387904) {a b:Nat} (ha:a<n) (hb:b<n) :
  Calls Tryz.prog 221 #[.agg #[.func (.func lf) #[] lb,.func (.func sf) #[] sb],.int .i64 a,.int .i64 b,.pointer (some ⟨cb,0,none⟩)] w fun e w'=>e = .returned (.tuple #[.int .i64 ((order2 lt d a b s).1:Nat),.int .i64 ((order2 lt d a b s).2.1:Nat)])∧Cnt B cb St d (order2 lt d a b s).2.2 w w':=by
 have hw:=S.base h;have hl:cb<w.heap.size:=by rw [zY17] at hc;exact hc.1
 have hC:=Cnt.start S h hc (.cells #[.func (.func lf) #[] lb,.func (.func sf) #[] sb] 236);have hO:=On.start S h;have hbig:=S.big;have eg:=S.enters;have c0:=hO.c0
 cases hl:lt d[b]! d[a]! with
 | true =>
  have hd:=S.less b a hO.st hb ha;rw [hl] at hd;have hv:order2 lt d a b s=(b,a,s+1):=by unfold order2;rw [hl];rfl
  rw [hv];clear hc hv hl hO;go_enter Tryz.func221,Tryz.ntmps221;go_wp2_with (refine hd.mono ?_;rintro e w1 ⟨rfl,hW1⟩;have hC1:=hC.fwd hcB hW1;have cc:=hC1.cc;have cf:=hC1.cf;simp only []);go_ret2;exact ⟨rfl,hC1.add S hcB (by omega)⟩
 | false =>
  have hd:=S.less b a hO.st hb ha;rw [hl] at hd;have hv:order2 lt d a b s=(a,b,s):=by unfold order2;rw [hl];rfl
  rw [hv];clear hc hv hl hO;go_enter Tryz.func221,Tryz.ntmps221;go_wp2_with (refine hd.mono ?_;rintro e w1 ⟨rfl,hW1⟩;have hC1:=hC.fwd hcB hW1;have cc:=hC1.cc;have cf:=hC1.cf;simp only []);go_ret2;exact ⟨rfl,hC1⟩
theorem z98 (lt:α→α→Bool) (d:Array α) {a b s n:Nat} (ha:a<n) (hb:b<n):(order2 lt d a b s).1<n∧(order2 lt d a b s).2.1<n∧(order2 lt d a b s).2.2≤s+1:=by
 unfold order2
 split
 ·exact ⟨hb,ha,zY0h _⟩
 ·exact ⟨ha,hb,by show s≤s+1;omega⟩
theorem zfz (lt:α→α→Bool) (d:Array α) {a b c s n:Nat} (ha:a<n) (hb:b<n) (hc:c<n):(median lt d a b c s).1<n∧(median lt d a b c s).2≤s+3:=by
 unfold median;have h1:=z98 lt d (s:=s) ha hb;have h2:=z98 lt d (s:=(order2 lt d a b s).2.2) h1.2.1 hc;have h3:=z98 lt d (s:=(order2 lt d (order2 lt d a b s).2.1 c (order2 lt d a b s).2.2).2.2) h1.1 h2.1;exact ⟨h3.2.1,by dsimp only;omega⟩
theorem zkx (S:Srt lt n B lf lb sf sb St) {w:World} {d:Array α} (h:St d w) {cb s:Nat} (hcB:B≤cb) (hc:w.heap[cb]? = some (.cells #[.int .i64 s] 3 (0,0))) (hs:s+3<4611686018427387904) {a b c:Nat} (ha:a<n) (hb:b<n) (hcn:c<n) :
  Calls Tryz.prog 204 #[.agg #[.func (.func lf) #[] lb,.func (.func sf) #[] sb],.int .i64 a,.int .i64 b,.int .i64 c,.pointer (some ⟨cb,0,none⟩)] w fun e w'=>e = .returned (.int .i64 ((median lt d a b c s).1:Nat))∧Cnt B cb St d (median lt d a b c s).2 w w':=by
 have hw:=S.base h;have hl:cb<w.heap.size:=by rw [zY17] at hc;exact hc.1
 have hC:=Cnt.start S h hc (.cells #[.func (.func lf) #[] lb,.func (.func sf) #[] sb] 236);have hX:Bxx lf lb sf sb w.heap.size (w.alloc (.cells #[.func (.func lf) #[] lb,.func (.func sf) #[] sb] 236)):=z9x _ _;have m1:=z98 lt d (s:=s) ha hb;obtain ⟨a1,b1,s1,e1⟩:∃ a1 b1 s1,order2 lt d a b s=(a1,b1,s1):=⟨_,_,_,rfl⟩
 rw [e1] at m1;obtain ⟨ha1,hb1,hs1⟩:=m1;simp only at ha1 hb1 hs1;have m2:=z98 lt d (s:=s1) hb1 hcn;obtain ⟨b2,c2,s2,e2⟩:∃ a1 c1 s1',order2 lt d b1 c s1=(a1,c1,s1'):=⟨_,_,_,rfl⟩
 rw [e2] at m2;obtain ⟨hb2,hc2,hs2⟩:=m2;simp only at hb2 hc2 hs2;obtain ⟨a3,b3,s3,e3⟩:∃ a3 b3 s3,order2 lt d a1 b2 s2=(a3,b3,s3):=⟨_,_,_,rfl⟩
 have hv:median lt d a b c s=(b3,s3):=by unfold median;simp only [e1,e2,e3]
 rw [hv];have hd1:=zkw S hC.st hcB hC.cn (s:=s) (by omega) ha hb;have hd2:=fun W (hC:Cnt B cb St d s1 w W)=>zkw S hC.st hcB hC.cn (s:=s1) (by omega) hb1 hcn
 have hd3:=fun W (hC:Cnt B cb St d s2 w W)=>zkw S hC.st hcB hC.cn (s:=s2) (by omega) ha1 hb2
 rw [e1] at hd1;simp only [e2,e3] at hd1 hd2 hd3;have H2:=Lib.hid hd2;have H3:=Lib.hid hd3;have c0:=hX.c0;have c1:=hX.c1;clear hd2 hd3 e1 e2 e3 hv hc;go_enter Tryz.func204,Tryz.ntmps204;go_wp2_with (first|(refine hd1.mono ?_;rintro e w1 ⟨rfl,hK⟩;clear hd1;have hX1:=hX.to hK hw (by omega);have hC1:=hC.trans hK;have c0:=hX1.c0;have c1:=hX1.c1;have hd2:=H2.out _ hC1;simp only [])|(refine hd2.mono ?_;rintro e w2 ⟨rfl,hK2⟩;clear hd2;have hX2:=hX1.to hK2 hw (by omega);have hC2:=hC1.trans hK2;have c0:=hX2.c0;have c1:=hX2.c1;have hd3:=H3.out _ hC2;simp only [])|(refine hd3.mono ?_;rintro e w3 ⟨rfl,hK3⟩;have hC3:=hC2.trans hK3;simp only []));go_ret;exact ⟨rfl,hC3⟩
theorem zky (S:Srt lt n B lf lb sf sb St) {w:World} {d:Array α} (h:St d w) {cb s:Nat} (hcB:B≤cb) (hc:w.heap[cb]? = some (.cells #[.int .i64 s] 3 (0,0))) (hs:s+3<4611686018427387904) {a:Nat} (ha:1≤a) (ha1:a+1<n) :
  Calls Tryz.prog 203 #[.agg #[.func (.func lf) #[] lb,.func (.func sf) #[] sb],.int .i64 a,.pointer (some ⟨cb,0,none⟩)] w fun e w'=>e = .returned (.int .i64 ((medianAdjacent lt d a s).1:Nat))∧Cnt B cb St d (medianAdjacent lt d a s).2 w w':=by
 have hw:=S.base h;have hl:cb<w.heap.size:=by rw [zY17] at hc;exact hc.1
 have hC:=Cnt.start S h hc (.cells #[.func (.func lf) #[] lb,.func (.func sf) #[] sb] 236);have hX:Bxx lf lb sf sb w.heap.size (w.alloc (.cells #[.func (.func lf) #[] lb,.func (.func sf) #[] sb] 236)):=z9x _ _;have hd1:=zkx S hC.st hcB hC.cn (s:=s) (a:=a - 1) (b:=a) (c:=a+1) (by omega) (by omega) (by omega) (by omega);rw [show ((a - 1:Nat):Int)=(a:Int) - 1 by omega,show ((a+1:Nat):Int)=(a:Int)+1 by omega] at hd1;have hbig:=S.big;unfold medianAdjacent;generalize median lt d (a - 1) a (a+1) s=r at *;have c0:=hX.c0;have c1:=hX.c1;clear hc;go_enter Tryz.func203,Tryz.ntmps203;go_wp2_with (refine hd1.mono ?_;rintro e w1 ⟨rfl,hK⟩;clear hd1;have hC1:=hC.trans hK;simp only []);go_ret;exact ⟨rfl,hC1⟩
def z7o:Go.Sort.Hint→Int
 | .unknown=>0
 | .increasing=>1
 | .decreasing=>2
theorem z0gg (lt:α→α→Bool) (d:Array α) (a b:Nat) {p s:Nat} (h:(if b - a ≥ 8 then (if b - a ≥ 50 then
  median lt d (medianAdjacent lt d (a+(b - a) / 4 * 1) 0).1 (medianAdjacent lt d (a+(b - a) / 4 * 2) (medianAdjacent lt d (a+(b - a) / 4 * 1) 0).2).1 (medianAdjacent lt d (a+(b - a) / 4 * 3) (medianAdjacent lt d (a+(b - a) / 4 * 2) (medianAdjacent lt d (a+(b - a) / 4 * 1) 0).2).2).1 (medianAdjacent lt d (a+(b - a) / 4 * 3) (medianAdjacent lt d (a+(b - a) / 4 * 2) (medianAdjacent lt d (a+(b - a) / 4 * 1) 0).2).2).2
  else median lt d (a+(b - a) / 4 * 1) (a+(b - a) / 4 * 2) (a+(b - a) / 4 * 3) 0) else (a+(b - a) / 4 * 2,0))=(p,s)) :
  choosePivot lt d a b=(p,if s=0 then .increasing else if s=12 then .decreasing else .unknown):=by
 unfold choosePivot;simp only [h]
theorem z0gh {s:Nat} (h:s=0):z7o (if s=0 then Go.Sort.Hint.increasing else if s=12 then .decreasing else .unknown)=1:=by rw [if_pos h];rfl
theorem z0al {s:Nat} (h:s≠0) (h':s=12):z7o (if s=0 then Go.Sort.Hint.increasing else if s=12 then .decreasing else .unknown)=2:=by rw [if_neg h,if_pos h'];rfl
theorem z0gi {s:Nat} (h:s≠0) (h':s≠12):z7o (if s=0 then Go.Sort.Hint.increasing else if s=12 then .decreasing else .unknown)=0:=by rw [if_neg h,if_neg h'];rfl
theorem Cnt.new (S:Srt lt n B lf lb sf sb St) {w:World} {d:Array α} (h:St d w) (o:Obj):Cnt B (w.heap.size+1) St d 0 ((w.alloc o).alloc (.cells #[.int .i64 0] 3)) ((w.alloc o).alloc (.cells #[.int .i64 0] 3)):=by
 have hb:=S.base h;refine ⟨S.keep h (((Below.refl _ _).alloc hb _).alloc (by rw [z4m];omega) _),rfl,rfl,rfl,zY0h _,fun _ _ _ _=>rfl,?_⟩;have:=z9x (w.alloc o) (.cells #[.int .i64 0] 3);rw [z4m] at this;exact this
theorem Cnt.done (S:Srt lt n B lf lb sf sb St) {w:World} {s:Nat} {d:Array α} {W:World} {o o':Obj} (hw:B≤w.heap.size) (h:Cnt B (w.heap.size+1) St d s ((w.alloc o).alloc o') W):St d W∧Fwd B w W:=by
 have h1:=h.size;rw [z4m,z4m] at h1;refine ⟨h.st,h.os,h.tape,h.output,by omega,fun b h2 h3=>(h.same b h2 (by rw [z4m,z4m];omega) (by omega)).trans ?_⟩;rw [z9y _ _ (by rw [z4m];omega),z9y _ _ h3]
theorem z0jc (S:Srt lt n B lf lb sf sb St) {w:World} {d:Array α} (h:St d w) {a b:Nat} (hab:a<b) (hb:b≤n) :
  Calls Tryz.prog 186 #[.agg #[.func (.func lf) #[] lb,.func (.func sf) #[] sb],.int .i64 a,.int .i64 b] w fun e w'=>e = .returned (.tuple #[.int .i64 ((choosePivot lt d a b).1:Nat),.int .i64 (z7o (choosePivot lt d a b).2)])∧St d w'∧Fwd B w w':=by
 have hw:=S.base h;have hC0:=Cnt.new S h (.cells #[.func (.func lf) #[] lb,.func (.func sf) #[] sb] 236);have hX0:Bxx lf lb sf sb w.heap.size ((w.alloc (.cells #[.func (.func lf) #[] lb,.func (.func sf) #[] sb] 236)).alloc (.cells #[.int .i64 0] 3)):=(z9y _ _ (by rw [z4m];omega)).trans (z9x _ _);have hbig:=S.big;have hcB:B≤w.heap.size+1:=by omega
 have hg:w.heap.size≠w.heap.size+1:=by omega
 have he:=fun p s=>@z0gg α _ lt d a b p s
 obtain ⟨I,hI⟩:∃ I:Nat,I=a+(b - a) / 4 * 1:=⟨_,rfl⟩
 obtain ⟨J,hJ⟩:∃ J:Nat,J=a+(b - a) / 4 * 2:=⟨_,rfl⟩
 obtain ⟨K,hK⟩:∃ K:Nat,K=a+(b - a) / 4 * 3:=⟨_,rfl⟩
 rw [← hI,← hJ,← hK] at he;have eI:((a:Int)+((b:Int) - (a:Int)) / 4)=(I:Int):=by omega
 have eJ:((a:Int)+((b:Int) - (a:Int)) / 4 * 2)=(J:Int):=by omega
 have eK:((a:Int)+((b:Int) - (a:Int)) / 4 * 3)=(K:Int):=by omega
 by_cases h8:b - a ≥ 8
 rotate_left
 ·have hr:=he J 0 (by rw [if_neg h8])
  rw [hr,show z7o (if 0=0 then Go.Sort.Hint.increasing else if 0=12 then .decreasing else .unknown)=1 from rfl];have z8:¬ (8:Int)≤(b:Int) - (a:Int):=by omega
  clear he hr hI hJ hK;go_enter Tryz.func186,Tryz.ntmps186;go_wp2;go_ret2;exact ⟨rfl,hC0.done S hw⟩
 have z8:(8:Int)≤(b:Int) - (a:Int):=by omega
 have hIn:I+1<n:=by omega
 have hJn:J+1<n:=by omega
 have hKn:K+1<n:=by omega
 have hI1:1≤I:=by omega
 have hJ1:1≤J:=by omega
 have hK1:1≤K:=by omega
 by_cases h50:b - a ≥ 50
 ·have z50:(50:Int)≤(b:Int) - (a:Int):=by omega
  obtain ⟨i1,s1,e1⟩:∃ i1 s1,medianAdjacent lt d I 0=(i1,s1):=⟨_,_,rfl⟩
  obtain ⟨j1,s2,e2⟩:∃ j1 s2,medianAdjacent lt d J s1=(j1,s2):=⟨_,_,rfl⟩
  obtain ⟨k1,s3,e3⟩:∃ k1 s3,medianAdjacent lt d K s2=(k1,s3):=⟨_,_,rfl⟩
  obtain ⟨p,s,e4⟩:∃ p s,median lt d i1 j1 k1 s3=(p,s):=⟨_,_,rfl⟩
  have m1:=zfz lt d (a:=I - 1) (b:=I) (c:=I+1) (s:=0) (n:=n) (by omega) (by omega) (by omega);rw [show median lt d (I - 1) I (I+1) 0=(i1,s1) from e1] at m1;have m2:=zfz lt d (a:=J - 1) (b:=J) (c:=J+1) (s:=s1) (n:=n) (by omega) (by omega) (by omega);rw [show median lt d (J - 1) J (J+1) s1=(j1,s2) from e2] at m2;have m3:=zfz lt d (a:=K - 1) (b:=K) (c:=K+1) (s:=s2) (n:=n) (by omega) (by omega) (by omega);rw [show median lt d (K - 1) K (K+1) s2=(k1,s3) from e3] at m3;simp only at m1 m2 m3;have hr:=he p s (by rw [if_pos h8,if_pos h50,e1,e2,e3];exact e4);rw [hr];clear he hr;obtain ⟨Hc,hHc⟩:∃ Hc:Int,Hc=z7o (if s=0 then Go.Sort.Hint.increasing else if s=12 then .decreasing else .unknown):=⟨_,rfl⟩
  have hh0:s=0→Hc=1:=fun h=>by rw [hHc,z0gh h]
  have hh12:s=12→Hc=2:=fun h=>by rw [hHc,z0al (by omega) h]
  have hhx:s≠0→s≠12→Hc=0:=fun h1 h2=>by rw [hHc,z0gi h1 h2]
  show Calls _ _ _ _ fun e w'=>e = .returned (.tuple #[.int .i64 (p:Nat),.int .i64 (z7o (if s=0 then Go.Sort.Hint.increasing else if s=12 then .decreasing else .unknown))])∧_
  rw [← hHc];clear hHc;have hd1:=zky S hC0.st hcB hC0.cn (s:=0) (a:=I) (by omega) hI1 hIn;have hd2:=fun W (hC:Cnt B (w.heap.size+1) St d s1 _ W)=>zky S (Cnt.st (w:=(w.alloc (.cells #[.func (.func lf) #[] lb,.func (.func sf) #[] sb] 236)).alloc (.cells #[.int .i64 0] 3)) hC) hcB hC.cn (s:=s1) (a:=J) (by omega) hJ1 hJn
  have hd3:=fun W (hC:Cnt B (w.heap.size+1) St d s2 _ W)=>zky S (Cnt.st (w:=(w.alloc (.cells #[.func (.func lf) #[] lb,.func (.func sf) #[] sb] 236)).alloc (.cells #[.int .i64 0] 3)) hC) hcB hC.cn (s:=s2) (a:=K) (by omega) hK1 hKn
  have hd4:=fun W (hC:Cnt B (w.heap.size+1) St d s3 _ W)=>zkx S (Cnt.st (w:=(w.alloc (.cells #[.func (.func lf) #[] lb,.func (.func sf) #[] sb] 236)).alloc (.cells #[.int .i64 0] 3)) hC) hcB hC.cn (s:=s3) (a:=i1) (b:=j1) (c:=k1) (by omega) m1.1 m2.1 m3.1
  simp only [e1,e2,e3,e4] at hd1 hd2 hd3 hd4;have H2:=Lib.hid hd2;have H3:=Lib.hid hd3;have H4:=Lib.hid hd4;clear hd2 hd3 hd4 e1 e2 e3 e4 hI hJ hK m1 m2 m3;have c0:=hX0.c0;have c1:=hX0.c1;go_enter Tryz.func186,Tryz.ntmps186;go_wp2_with (first|(refine hd1.mono ?_;rintro e w1 ⟨rfl,hQ1⟩;clear hd1 c0 c1;have hX1:=hX0.to hQ1 hw hg;have hC1:=hC0.trans hQ1;have c0:=hX1.c0;have c1:=hX1.c1;have hd2:=H2.out _ hC1;simp only [])|(refine hd2.mono ?_;rintro e w2 ⟨rfl,hQ2⟩;clear hd2 c0 c1;have hX2:=hX1.to hQ2 hw hg;have hC2:=hC1.trans hQ2;have c0:=hX2.c0;have c1:=hX2.c1;have hd3:=H3.out _ hC2;simp only [])|(refine hd3.mono ?_;rintro e w3 ⟨rfl,hQ3⟩;clear hd3 c0 c1;have hX3:=hX2.to hQ3 hw hg;have hC3:=hC2.trans hQ3;have c0:=hX3.c0;have c1:=hX3.c1;have hd4:=H4.out _ hC3;simp only [])|(refine hd4.mono ?_;rintro e w4 ⟨rfl,hQ4⟩;clear hd4 c0 c1;have hC4:=hC3.trans hQ4;have cc:=hC4.cc;simp only []))
  all_goals
   go_ret2;refine ⟨?_,hC4.done S hw⟩
   first|(rw [hh0 (by (have y:=‹((s:Int) == 0)=true›;simp at y;omega))];rfl)|(rw [hh12 (by (have y:=‹((s:Int) == 12)=true›;simp at y;omega))];rfl)|(rw [hhx (by (have y:=‹((s:Int) == 0)=false›;simp at y;omega)) (by (have y:=‹((s:Int) == 12)=false›;simp at y;omega))];rfl)
 ·have z50:¬ (50:Int)≤(b:Int) - (a:Int):=by omega
  obtain ⟨p,s,e4⟩:∃ p s,median lt d I J K 0=(p,s):=⟨_,_,rfl⟩
  have hr:=he p s (by rw [if_pos h8,if_neg h50];exact e4);rw [hr];clear he hr;obtain ⟨Hc,hHc⟩:∃ Hc:Int,Hc=z7o (if s=0 then Go.Sort.Hint.increasing else if s=12 then .decreasing else .unknown):=⟨_,rfl⟩
  have hh0:s=0→Hc=1:=fun h=>by rw [hHc,z0gh h]
  have hh12:s=12→Hc=2:=fun h=>by rw [hHc,z0al (by omega) h]
  have hhx:s≠0→s≠12→Hc=0:=fun h1 h2=>by rw [hHc,z0gi h1 h2]
  show Calls _ _ _ _ fun e w'=>e = .returned (.tuple #[.int .i64 (p:Nat),.int .i64 (z7o (if s=0 then Go.Sort.Hint.increasing else if s=12 then .decreasing else .unknown))])∧_
  rw [← hHc];clear hHc;have hd4:=zkx S hC0.st hcB hC0.cn (s:=0) (a:=I) (b:=J) (c:=K) (by omega) (by omega) (by omega) (by omega);rw [e4] at hd4;clear e4 hI hJ hK;have c0:=hX0.c0;have c1:=hX0.c1;go_enter Tryz.func186,Tryz.ntmps186;go_wp2_with (refine hd4.mono ?_;rintro e w4 ⟨rfl,hQ4⟩;clear hd4 c0 c1;have hC4:=hC0.trans hQ4;have cc:=hC4.cc;simp only [])
  all_goals
   go_ret2;refine ⟨?_,hC4.done S hw⟩
   first|(rw [hh0 (by (have y:=‹((s:Int) == 0)=true›;simp at y;omega))];rfl)|(rw [hh12 (by (have y:=‹((s:Int) == 12)=true›;simp at y;omega))];rfl)|(rw [hhx (by (have y:=‹((s:Int) == 0)=false›;simp at y;omega)) (by (have y:=‹((s:Int) == 12)=false›;simp at y;omega))];rfl)
end
end
section
open Go.RowKit Go.Sort
set_option maxRecDepth 100000
set_option maxHeartbeats 4000000
section
variable {α:Type} [Inhabited α] {lt:α→α→Bool} {n B lf sf:Nat} {lb sb:Array Value} {St:Array α→World→Prop}
theorem z0cw (p:α→Bool) (d:Array α) (j i:Nat) (h:(decide (i≤j) && p d[i]!)=true):scanUp p d j i=scanUp p d j (i+1):=by rw [scanUp,if_pos h]
theorem z03q (p:α→Bool) (d:Array α) (j i:Nat) (h:(decide (i≤j) && p d[i]!)=false):scanUp p d j i=i:=by rw [scanUp,if_neg (by rw [h];exact zY3h)]
theorem zqn (p:α→Bool) (d:Array α) (i j:Nat) (h0:1≤j) (h:(decide (i≤j) && p d[j]!)=true):scanDown p d i j=scanDown p d i (j - 1):=by
 obtain ⟨k,rfl⟩:∃ k,j=k+1:=⟨j - 1,by omega⟩
 rw [scanDown,if_pos h];rfl
theorem zkz (p:α→Bool) (d:Array α) (i j:Nat) (h:(decide (i≤j) && p d[j]!)=false):scanDown p d i j=j:=by
 cases j with
 | zero=>rfl
 | succ k=>rw [scanDown,if_neg (by rw [h];exact zY3h)]
theorem z09a {a i j i2 j2:Nat} {d:Array α} (h1:scanUp (fun x=>lt x d[a]!) d j i=i2) (h2:scanDown (fun x => !lt x d[a]!) d i2 j=j2) (h:i2≤j2) (hi:i≤i2) (hj:j2≤j) (h0:1≤i2):partLoop lt a i j d=partLoop lt a (i2+1) (j2 - 1) (swp d i2 j2):=by
 rw [partLoop,h1];simp only [h2];rw [if_neg (by omega),dif_pos (by omega)]
theorem z03r {a i j i2 j2:Nat} {d:Array α} (h1:scanUp (fun x=>lt x d[a]!) d j i=i2) (h2:scanDown (fun x => !lt x d[a]!) d i2 j=j2) (h:¬ i2≤j2):partLoop lt a i j d=(j2,d):=by
 rw [partLoop,h1];simp only [h2];rw [if_pos (by omega)]
theorem z0gj {a i j i2 j2:Nat} {d:Array α} (h1:scanUp (fun x => !lt d[a]! x) d j i=i2) (h2:scanDown (fun x=>lt d[a]! x) d i2 j=j2) (h:i2≤j2) (hi:i≤i2) (hj:j2≤j) (h0:1≤i2):partEqLoop lt a i j d=partEqLoop lt a (i2+1) (j2 - 1) (swp d i2 j2):=by
 rw [partEqLoop,h1];simp only [h2];rw [if_neg (by omega),dif_pos (by omega)]
theorem z0cx {a i j i2 j2:Nat} {d:Array α} (h1:scanUp (fun x => !lt d[a]! x) d j i=i2) (h2:scanDown (fun x=>lt d[a]! x) d i2 j=j2) (h:¬ i2≤j2):partEqLoop lt a i j d=(i2,d):=by
 rw [partEqLoop,h1];simp only [h2];rw [if_pos (by omega)]
theorem z0jd (S:Srt lt n B lf lb sf sb St) {w:World} {d:Array α} (h:St d w) {a b pivot:Nat} (hab:a<b) (hb:b≤n) (hp:pivot<n) :
  Calls Tryz.prog 189 #[.agg #[.func (.func lf) #[] lb,.func (.func sf) #[] sb],.int .i64 a,.int .i64 b,.int .i64 pivot] w fun e w'=>e = .returned (.int .i64 ((partitionEqual lt d a b pivot).1:Nat))∧St (partitionEqual lt d a b pivot).2 w'∧Fwd B w w':=by
 have hw:=S.base h;have hO:=On.start S h;have hbig:=S.big;have eg:=S.enters;have c1:=hO.c1;obtain ⟨w2,hs,hV⟩:=hO.swap S hw (i:=a) (j:=pivot) (x:=a) (y:=pivot) (by omega) (by omega) rfl rfl;have HS:=Lib.hid hs;clear hs;go_enter Tryz.func189,Tryz.ntmps189;go_wp2_with (rw [HS.out,Oper.upon_value]);clear hO c1 HS;go_loopg [9,10] b (fun kx vi vj wr=>∃ (i j:Nat) (dk:Array α),vi = .int .i64 i∧vj = .int .i64 j∧a+1≤i∧i≤n∧j<b∧j<kx∧On B lf lb sf sb St w dk wr∧Hid (partEqLoop lt a i j dk=partEqLoop lt a (a+1) (b - 1) (swp d a pivot)))
 case atStart=>exact ⟨a+1,b - 1,_,by go_num,by go_num,by omega,by omega,by omega,by omega,hV,rfl⟩
 case round =>
  obtain ⟨i,j,dk,rfl,rfl,hai,hin,hjb,hkx,hW,HO⟩:=hrel;clear hV;go_wp2;go_loopg [9] (n+1) (fun kx v wr=>∃ i2:Nat,v = .int .i64 i2∧i≤i2∧i2≤n∧n - i2<kx∧On B lf lb sf sb St w dk wr∧Hid (scanUp (fun x => !lt dk[a]! x) dk j i2=scanUp (fun x => !lt dk[a]! x) dk j (i)))
  case atStart=>exact ⟨i,rfl,by omega,by omega,by omega,hW,rfl⟩
  case round =>
   obtain ⟨i2,rfl,hi20,hi21,hki2,hi2W,Hi2⟩:=hrel;clear hW;have c0:=hi2W.c0;go_upto_region 3 with fail
   go_cut [30] (fun c wx=>c = .bool (decide (i2≤j) && (fun x => !lt dk[a]! x) dk[i2]!)∧On B lf lb sf sb St w dk wx)
   case first =>
    by_cases hz:i2≤j
    ·have hzz:(i2:Int)≤((j:Nat):Int):=by omega
     cases hl:lt dk[a]! dk[i2]! with
     | true =>
      have hc:=hi2W.less S hw (i:=a) (j:=i2) (x:=a) (y:=i2) (by omega) (by omega) rfl rfl hl;have HL:=Lib.hid hl;clear hl;go_wp2_with (refine hc.mono ?_;rintro e w1 ⟨rfl,hU⟩;simp only [];clear hc);go_meet;exact ⟨by rw [decide_eq_true hz];show _=Value.bool (true && !lt dk[a]! dk[i2]!);rw [HL.out];rfl,hU⟩
     | false =>
      have hc:=hi2W.less S hw (i:=a) (j:=i2) (x:=a) (y:=i2) (by omega) (by omega) rfl rfl hl;have HL:=Lib.hid hl;clear hl;go_wp2_with (refine hc.mono ?_;rintro e w1 ⟨rfl,hU⟩;simp only [];clear hc);go_meet;exact ⟨by rw [decide_eq_true hz];show _=Value.bool (true && !lt dk[a]! dk[i2]!);rw [HL.out];rfl,hU⟩
    ·have hzz:¬ (i2:Int)≤((j:Nat):Int):=by omega
     go_wp2_with fail;go_meet;exact ⟨by rw [decide_eq_false hz];rfl,hi2W⟩
   case rest =>
    obtain ⟨rfl,hi2X⟩:=hcut;clear hi2W c0
    cases hb:(decide (i2≤j) && (fun x => !lt dk[a]! x) dk[i2]!) with
    | true =>
     have HB:=Lib.hid hb;have hi2J:i2≤j:=by (rw [zY0d] at hb;exact of_decide_eq_true hb.1)
     clear hb;go_wp2;go_roundg (n - i2)
     case measure=>omega
     case rel=>exact ⟨i2+1,by go_num,by omega,by omega,by omega,hi2X,by show Hid _;rw [← Hi2.out,z0cw (fun x => !lt dk[a]! x) dk (j) i2 HB.out];exact rfl⟩
    | false =>
     have Ei2:Hid (scanUp (fun x => !lt dk[a]! x) dk j (i)=i2):=by (show _=_;rw [← Hi2.out,z03q (fun x => !lt dk[a]! x) dk (j) i2 hb])
     clear hb Hi2;go_wp2;go_loopg [10] (j+1) (fun ky v wr=>∃ j2:Nat,v = .int .i64 j2∧j2≤j∧j2<ky∧On B lf lb sf sb St w dk wr∧Hid (scanDown (fun x=>lt dk[a]! x) dk i2 j2=scanDown (fun x=>lt dk[a]! x) dk i2 (j)))
     case atStart=>exact ⟨j,rfl,zY0h _,zY26 _,hi2X,rfl⟩
     case round =>
      obtain ⟨j2,rfl,hj20,hkj2,hj2W,Hj2⟩:=hrel;clear hi2X;have c0:=hj2W.c0;go_upto_region 5 with fail
      go_cut [42] (fun c wx=>c = .bool (decide (i2≤j2) && (fun x=>lt dk[a]! x) dk[j2]!)∧On B lf lb sf sb St w dk wx)
      case first =>
       by_cases hz:i2≤j2
       ·have hzz:(i2:Int)≤(j2:Int):=by omega
        cases hl:lt dk[a]! dk[j2]! with
        | true =>
         have hc:=hj2W.less S hw (i:=a) (j:=j2) (x:=a) (y:=j2) (by omega) (by omega) rfl rfl hl;have HL:=Lib.hid hl;clear hl;go_wp2_with (refine hc.mono ?_;rintro e w1 ⟨rfl,hU⟩;simp only [];clear hc);go_meet;exact ⟨by rw [decide_eq_true hz];show _=Value.bool (true && lt dk[a]! dk[j2]!);rw [HL.out];rfl,hU⟩
        | false =>
         have hc:=hj2W.less S hw (i:=a) (j:=j2) (x:=a) (y:=j2) (by omega) (by omega) rfl rfl hl;have HL:=Lib.hid hl;clear hl;go_wp2_with (refine hc.mono ?_;rintro e w1 ⟨rfl,hU⟩;simp only [];clear hc);go_meet;exact ⟨by rw [decide_eq_true hz];show _=Value.bool (true && lt dk[a]! dk[j2]!);rw [HL.out];rfl,hU⟩
       ·have hzz:¬ (i2:Int)≤(j2:Int):=by omega
        go_wp2_with fail;go_meet;exact ⟨by rw [decide_eq_false hz];rfl,hj2W⟩
      case rest =>
       obtain ⟨rfl,hj2X⟩:=hcut;clear hj2W c0
       cases hb:(decide (i2≤j2) && (fun x=>lt dk[a]! x) dk[j2]!) with
       | true =>
        have HB:=Lib.hid hb;have hj2J:i2≤j2:=by (rw [zY0d] at hb;exact of_decide_eq_true hb.1)
        clear hb;go_wp2;go_roundg j2
        case measure=>omega
        case rel=>exact ⟨j2 - 1,by go_num,by omega,by omega,hj2X,by show Hid _;rw [← Hj2.out,zqn (fun x=>lt dk[a]! x) dk i2 j2 (by omega) HB.out];exact rfl⟩
       | false =>
        have Ej2:Hid (scanDown (fun x=>lt dk[a]! x) dk i2 (j)=j2):=by (show _=_;rw [← Hj2.out,zkz (fun x=>lt dk[a]! x) dk i2 j2 hb])
        clear hb Hj2
        by_cases hz:i2≤j2
        ·have hzz:¬ ((j2:Nat):Int)<(i2:Int):=by omega
         have c1:=hj2X.c1;obtain ⟨w2,hs,hV⟩:=hj2X.swap S hw (i:=i2) (j:=j2) (x:=i2) (y:=j2) (by omega) (by omega) rfl rfl;have HS:=Lib.hid hs;clear hs;go_wp2_with (rw [HS.out,Oper.upon_value]);go_roundg j
         case measure=>omega
         case rel=>exact ⟨i2+1,j2 - 1,_,by go_num,by go_num,by omega,by omega,by omega,by omega,hV,by show Hid _;rw [← HO.out,z0gj Ei2.out Ej2.out hz (by omega) (by omega) (by omega)];exact rfl⟩
        ·have hzz:((j2:Nat):Int)<(i2:Int):=by omega
         go_wp2;go_ret;have hv:partEqLoop lt a (a+1) (b - 1) (swp d a pivot)=(i2,dk):=by rw [← HO.out];exact z0cx Ei2.out Ej2.out hz
         refine ⟨?_,?_,hj2X.fwd⟩
         ·unfold partitionEqual;rw [hv];rfl
         ·unfold partitionEqual;rw [hv];exact hj2X.st
theorem z0je (lt:α→α→Bool) (d:Array α) (a b p:Nat) {i j:Nat} (h1:scanUp (fun x=>lt x (swp d a p)[a]!) (swp d a p) (b - 1) (a+1)=i) (h2:scanDown (fun x => !lt x (swp d a p)[a]!) (swp d a p) i (b - 1)=j) (h:¬ i≤j):partition lt d a b p=(j,true,swp (swp d a p) j a):=by
 unfold partition;simp only [h1,h2];rw [if_pos (by omega)]
theorem z0ma (lt:α→α→Bool) (d:Array α) (a b p:Nat) {i j:Nat} (h1:scanUp (fun x=>lt x (swp d a p)[a]!) (swp d a p) (b - 1) (a+1)=i) (h2:scanDown (fun x => !lt x (swp d a p)[a]!) (swp d a p) i (b - 1)=j) (h:i≤j):partition lt d a b p=((partLoop lt a (i+1) (j - 1) (swp (swp d a p) i j)).1,false,swp (partLoop lt a (i+1) (j - 1) (swp (swp d a p) i j)).2 (partLoop lt a (i+1) (j - 1) (swp (swp d a p) i j)).1 a):=by
 unfold partition;simp only [h1,h2];rw [if_neg (by omega)]
theorem z0oq (S:Srt lt n B lf lb sf sb St) {w:World} {d:Array α} (h:St d w) {a b pivot:Nat} (hab:a<b) (hb:b≤n) (hp:pivot<n) :
  Calls Tryz.prog 190 #[.agg #[.func (.func lf) #[] lb,.func (.func sf) #[] sb],.int .i64 a,.int .i64 b,.int .i64 pivot] w fun e w'=>e = .returned (.tuple #[.int .i64 ((partition lt d a b pivot).1:Nat),.bool (partition lt d a b pivot).2.1])∧St (partition lt d a b pivot).2.2 w'∧Fwd B w w':=by
 have hw:=S.base h;have hO:=On.start S h;have hbig:=S.big;have eg:=S.enters;have c1:=hO.c1;obtain ⟨w2,hs,hV⟩:=hO.swap S hw (i:=a) (j:=pivot) (x:=a) (y:=pivot) (by omega) (by omega) rfl rfl;have HS:=Lib.hid hs;clear hs;go_enter Tryz.func190,Tryz.ntmps190;go_wp2_with (rw [HS.out,Oper.upon_value]);clear hO c1 HS;go_loopg [10] (n+1) (fun kx v wr=>∃ i0:Nat,v = .int .i64 i0∧(a+1)≤i0∧i0≤n∧n - i0<kx∧On B lf lb sf sb St w (swp d a pivot) wr∧Hid (scanUp (fun x=>lt x (swp d a pivot)[a]!) (swp d a pivot) (b - 1) i0=scanUp (fun x=>lt x (swp d a pivot)[a]!) (swp d a pivot) (b - 1) ((a+1))))
 case atStart=>exact ⟨(a+1),by go_num,by omega,by omega,by omega,hV,rfl⟩
 case round =>
  obtain ⟨i0,rfl,hi00,hi01,hki0,hi0W,Hi0⟩:=hrel;clear hV;have c0:=hi0W.c0;go_upto_region 3 with fail
  go_cut [30] (fun c wx=>c = .bool (decide (i0≤(b - 1)) && (fun x=>lt x (swp d a pivot)[a]!) (swp d a pivot)[i0]!)∧On B lf lb sf sb St w (swp d a pivot) wx)
  case first =>
   by_cases hz:i0≤(b - 1)
   ·have hzz:(i0:Int)≤(((b - 1):Nat):Int):=by omega
    cases hl:lt (swp d a pivot)[i0]! (swp d a pivot)[a]! with
    | true =>
     have hc:=hi0W.less S hw (i:=i0) (j:=a) (x:=i0) (y:=a) (by omega) (by omega) rfl rfl hl;have HL:=Lib.hid hl;clear hl;go_wp2_with (refine hc.mono ?_;rintro e w1 ⟨rfl,hU⟩;simp only [];clear hc);go_meet;exact ⟨by rw [decide_eq_true hz];show _=Value.bool (true && lt (swp d a pivot)[i0]! (swp d a pivot)[a]!);rw [HL.out];rfl,hU⟩
    | false =>
     have hc:=hi0W.less S hw (i:=i0) (j:=a) (x:=i0) (y:=a) (by omega) (by omega) rfl rfl hl;have HL:=Lib.hid hl;clear hl;go_wp2_with (refine hc.mono ?_;rintro e w1 ⟨rfl,hU⟩;simp only [];clear hc);go_meet;exact ⟨by rw [decide_eq_true hz];show _=Value.bool (true && lt (swp d a pivot)[i0]! (swp d a pivot)[a]!);rw [HL.out];rfl,hU⟩
   ·have hzz:¬ (i0:Int)≤(((b - 1):Nat):Int):=by omega
    go_wp2_with fail;go_meet;exact ⟨by rw [decide_eq_false hz];rfl,hi0W⟩
  case rest =>
   obtain ⟨rfl,hi0X⟩:=hcut;clear hi0W c0
   cases hb:(decide (i0≤(b - 1)) && (fun x=>lt x (swp d a pivot)[a]!) (swp d a pivot)[i0]!) with
   | true =>
    have HB:=Lib.hid hb;have hi0J:i0≤(b - 1):=by (rw [zY0d] at hb;exact of_decide_eq_true hb.1)
    clear hb;go_wp2;go_roundg (n - i0)
    case measure=>omega
    case rel=>exact ⟨i0+1,by go_num,by omega,by omega,by omega,hi0X,by show Hid _;rw [← Hi0.out,z0cw (fun x=>lt x (swp d a pivot)[a]!) (swp d a pivot) ((b - 1)) i0 HB.out];exact rfl⟩
   | false =>
    have Ei0:Hid (scanUp (fun x=>lt x (swp d a pivot)[a]!) (swp d a pivot) (b - 1) ((a+1))=i0):=by (show _=_;rw [← Hi0.out,z03q (fun x=>lt x (swp d a pivot)[a]!) (swp d a pivot) ((b - 1)) i0 hb])
    clear hb Hi0;go_wp2;go_loopg [11] ((b - 1)+1) (fun ky v wr=>∃ j0:Nat,v = .int .i64 j0∧j0≤(b - 1)∧j0<ky∧On B lf lb sf sb St w (swp d a pivot) wr∧Hid (scanDown (fun x => !lt x (swp d a pivot)[a]!) (swp d a pivot) i0 j0=scanDown (fun x => !lt x (swp d a pivot)[a]!) (swp d a pivot) i0 ((b - 1))))
    case atStart=>exact ⟨(b - 1),by go_num,zY0h _,zY26 _,hi0X,rfl⟩
    case round =>
     obtain ⟨j0,rfl,hj00,hkj0,hj0W,Hj0⟩:=hrel;clear hi0X;have c0:=hj0W.c0;go_upto_region 5 with fail
     go_cut [43] (fun c wx=>c = .bool (decide (i0≤j0) && (fun x => !lt x (swp d a pivot)[a]!) (swp d a pivot)[j0]!)∧On B lf lb sf sb St w (swp d a pivot) wx)
     case first =>
      by_cases hz:i0≤j0
      ·have hzz:(i0:Int)≤(j0:Int):=by omega
       cases hl:lt (swp d a pivot)[j0]! (swp d a pivot)[a]! with
       | true =>
        have hc:=hj0W.less S hw (i:=j0) (j:=a) (x:=j0) (y:=a) (by omega) (by omega) rfl rfl hl;have HL:=Lib.hid hl;clear hl;go_wp2_with (refine hc.mono ?_;rintro e w1 ⟨rfl,hU⟩;simp only [];clear hc);go_meet;exact ⟨by rw [decide_eq_true hz];show _=Value.bool (true && !lt (swp d a pivot)[j0]! (swp d a pivot)[a]!);rw [HL.out];rfl,hU⟩
       | false =>
        have hc:=hj0W.less S hw (i:=j0) (j:=a) (x:=j0) (y:=a) (by omega) (by omega) rfl rfl hl;have HL:=Lib.hid hl;clear hl;go_wp2_with (refine hc.mono ?_;rintro e w1 ⟨rfl,hU⟩;simp only [];clear hc);go_meet;exact ⟨by rw [decide_eq_true hz];show _=Value.bool (true && !lt (swp d a pivot)[j0]! (swp d a pivot)[a]!);rw [HL.out];rfl,hU⟩
      ·have hzz:¬ (i0:Int)≤(j0:Int):=by omega
       go_wp2_with fail;go_meet;exact ⟨by rw [decide_eq_false hz];rfl,hj0W⟩
     case rest =>
      obtain ⟨rfl,hj0X⟩:=hcut;clear hj0W c0
      cases hb:(decide (i0≤j0) && (fun x => !lt x (swp d a pivot)[a]!) (swp d a pivot)[j0]!) with
      | true =>
       have HB:=Lib.hid hb;have hj0J:i0≤j0:=by (rw [zY0d] at hb;exact of_decide_eq_true hb.1)
       clear hb;go_wp2;go_roundg j0
       case measure=>omega
       case rel=>exact ⟨j0 - 1,by go_num,by omega,by omega,hj0X,by show Hid _;rw [← Hj0.out,zqn (fun x => !lt x (swp d a pivot)[a]!) (swp d a pivot) i0 j0 (by omega) HB.out];exact rfl⟩
      | false =>
       have Ej0:Hid (scanDown (fun x => !lt x (swp d a pivot)[a]!) (swp d a pivot) i0 ((b - 1))=j0):=by (show _=_;rw [← Hj0.out,zkz (fun x => !lt x (swp d a pivot)[a]!) (swp d a pivot) i0 j0 hb])
       clear hb Hj0;have HV:Hid _:=z0ma lt d a b pivot Ei0.out Ej0.out
       by_cases hz:i0≤j0
       ·have hzz:¬ ((j0:Nat):Int)<(i0:Int):=by omega
        have hz0:Hid (i0≤j0):=hz;have c1:=hj0X.c1;obtain ⟨w2,hs,hV⟩:=hj0X.swap S hw (i:=i0) (j:=j0) (x:=i0) (y:=j0) (by omega) (by omega) rfl rfl;have HS:=Lib.hid hs;clear hs;go_wp2_with (rw [HS.out,Oper.upon_value]);clear hj0X c1 HS Ei0 Ej0;go_loopg [10,11] b (fun kx vi vj wr=>∃ (i j:Nat) (dk:Array α),vi = .int .i64 i∧vj = .int .i64 j∧a+1≤i∧i≤n∧j<b∧j<kx∧On B lf lb sf sb St w dk wr∧Hid (partLoop lt a i j dk=partLoop lt a (i0+1) (j0 - 1) (swp (swp d a pivot) i0 j0)))
        case atStart=>exact ⟨i0+1,j0 - 1,_,by go_num,by go_num,by omega,by omega,by omega,by omega,hV,rfl⟩
        case round =>
         obtain ⟨i,j,dk,rfl,rfl,hai,hin,hjb,hkx,hW,HO⟩:=hrel;clear hV;go_wp2;go_loopg [10] (n+1) (fun kx v wr=>∃ i2:Nat,v = .int .i64 i2∧i≤i2∧i2≤n∧n - i2<kx∧On B lf lb sf sb St w dk wr∧Hid (scanUp (fun x=>lt x dk[a]!) dk j i2=scanUp (fun x=>lt x dk[a]!) dk j (i)))
         case atStart=>exact ⟨i,rfl,by omega,by omega,by omega,hW,rfl⟩
         case round =>
          obtain ⟨i2,rfl,hi20,hi21,hki2,hi2W,Hi2⟩:=hrel;clear hW;have c0:=hi2W.c0;go_upto_region 13 with fail
          go_cut [73] (fun c wx=>c = .bool (decide (i2≤j) && (fun x=>lt x dk[a]!) dk[i2]!)∧On B lf lb sf sb St w dk wx)
          case first =>
           by_cases hz:i2≤j
           ·have hzz:(i2:Int)≤((j:Nat):Int):=by omega
            cases hl:lt dk[i2]! dk[a]! with
            | true =>
             have hc:=hi2W.less S hw (i:=i2) (j:=a) (x:=i2) (y:=a) (by omega) (by omega) rfl rfl hl;have HL:=Lib.hid hl;clear hl;go_wp2_with (refine hc.mono ?_;rintro e w1 ⟨rfl,hU⟩;simp only [];clear hc);go_meet;exact ⟨by rw [decide_eq_true hz];show _=Value.bool (true && lt dk[i2]! dk[a]!);rw [HL.out];rfl,hU⟩
            | false =>
             have hc:=hi2W.less S hw (i:=i2) (j:=a) (x:=i2) (y:=a) (by omega) (by omega) rfl rfl hl;have HL:=Lib.hid hl;clear hl;go_wp2_with (refine hc.mono ?_;rintro e w1 ⟨rfl,hU⟩;simp only [];clear hc);go_meet;exact ⟨by rw [decide_eq_true hz];show _=Value.bool (true && lt dk[i2]! dk[a]!);rw [HL.out];rfl,hU⟩
           ·have hzz:¬ (i2:Int)≤((j:Nat):Int):=by omega
            go_wp2_with fail;go_meet;exact ⟨by rw [decide_eq_false hz];rfl,hi2W⟩
          case rest =>
           obtain ⟨rfl,hi2X⟩:=hcut;clear hi2W c0
           cases hb:(decide (i2≤j) && (fun x=>lt x dk[a]!) dk[i2]!) with
           | true =>
            have HB:=Lib.hid hb;have hi2J:i2≤j:=by (rw [zY0d] at hb;exact of_decide_eq_true hb.1)
            clear hb;go_wp2;go_roundg (n - i2)
            case measure=>omega
            case rel=>exact ⟨i2+1,by go_num,by omega,by omega,by omega,hi2X,by show Hid _;rw [← Hi2.out,z0cw (fun x=>lt x dk[a]!) dk (j) i2 HB.out];exact rfl⟩
           | false =>
            have Ei2:Hid (scanUp (fun x=>lt x dk[a]!) dk j (i)=i2):=by (show _=_;rw [← Hi2.out,z03q (fun x=>lt x dk[a]!) dk (j) i2 hb])
            clear hb Hi2;go_wp2;go_loopg [11] (j+1) (fun ky v wr=>∃ j2:Nat,v = .int .i64 j2∧j2≤j∧j2<ky∧On B lf lb sf sb St w dk wr∧Hid (scanDown (fun x => !lt x dk[a]!) dk i2 j2=scanDown (fun x => !lt x dk[a]!) dk i2 (j)))
            case atStart=>exact ⟨j,rfl,zY0h _,zY26 _,hi2X,rfl⟩
            case round =>
             obtain ⟨j2,rfl,hj20,hkj2,hj2W,Hj2⟩:=hrel;clear hi2X;have c0:=hj2W.c0;go_upto_region 15 with fail
             go_cut [86] (fun c wx=>c = .bool (decide (i2≤j2) && (fun x => !lt x dk[a]!) dk[j2]!)∧On B lf lb sf sb St w dk wx)
             case first =>
              by_cases hz:i2≤j2
              ·have hzz:(i2:Int)≤(j2:Int):=by omega
               cases hl:lt dk[j2]! dk[a]! with
               | true =>
                have hc:=hj2W.less S hw (i:=j2) (j:=a) (x:=j2) (y:=a) (by omega) (by omega) rfl rfl hl;have HL:=Lib.hid hl;clear hl;go_wp2_with (refine hc.mono ?_;rintro e w1 ⟨rfl,hU⟩;simp only [];clear hc);go_meet;exact ⟨by rw [decide_eq_true hz];show _=Value.bool (true && !lt dk[j2]! dk[a]!);rw [HL.out];rfl,hU⟩
               | false =>
                have hc:=hj2W.less S hw (i:=j2) (j:=a) (x:=j2) (y:=a) (by omega) (by omega) rfl rfl hl;have HL:=Lib.hid hl;clear hl;go_wp2_with (refine hc.mono ?_;rintro e w1 ⟨rfl,hU⟩;simp only [];clear hc);go_meet;exact ⟨by rw [decide_eq_true hz];show _=Value.bool (true && !lt dk[j2]! dk[a]!);rw [HL.out];rfl,hU⟩
              ·have hzz:¬ (i2:Int)≤(j2:Int):=by omega
               go_wp2_with fail;go_meet;exact ⟨by rw [decide_eq_false hz];rfl,hj2W⟩
             case rest =>
              obtain ⟨rfl,hj2X⟩:=hcut;clear hj2W c0
              cases hb:(decide (i2≤j2) && (fun x => !lt x dk[a]!) dk[j2]!) with
              | true =>
               have HB:=Lib.hid hb;have hj2J:i2≤j2:=by (rw [zY0d] at hb;exact of_decide_eq_true hb.1)
               clear hb;go_wp2;go_roundg j2
               case measure=>omega
               case rel=>exact ⟨j2 - 1,by go_num,by omega,by omega,hj2X,by show Hid _;rw [← Hj2.out,zqn (fun x => !lt x dk[a]!) dk i2 j2 (by omega) HB.out];exact rfl⟩
              | false =>
               have Ej2:Hid (scanDown (fun x => !lt x dk[a]!) dk i2 (j)=j2):=by (show _=_;rw [← Hj2.out,zkz (fun x => !lt x dk[a]!) dk i2 j2 hb])
               clear hb Hj2
               by_cases hz:i2≤j2
               ·have hzz:¬ ((j2:Nat):Int)<(i2:Int):=by omega
                have c1:=hj2X.c1;obtain ⟨w2,hs,hV⟩:=hj2X.swap S hw (i:=i2) (j:=j2) (x:=i2) (y:=j2) (by omega) (by omega) rfl rfl;have HS:=Lib.hid hs;clear hs;go_wp2_with (rw [HS.out,Oper.upon_value]);go_roundg j
                case measure=>omega
                case rel=>exact ⟨i2+1,j2 - 1,_,by go_num,by go_num,by omega,by omega,by omega,by omega,hV,by show Hid _;rw [← HO.out,z09a Ei2.out Ej2.out hz (by omega) (by omega) (by omega)];exact rfl⟩
               ·have hzz:((j2:Nat):Int)<(i2:Int):=by omega
                have c1:=hj2X.c1;obtain ⟨w2,hs,hV⟩:=hj2X.swap S hw (i:=j2) (j:=a) (x:=j2) (y:=a) (by omega) (by omega) rfl rfl;have HS:=Lib.hid hs;clear hs;go_wp2_with (rw [HS.out,Oper.upon_value]);go_ret2;have hv:partLoop lt a (i0+1) (j0 - 1) (swp (swp d a pivot) i0 j0)=(j2,dk):=by rw [← HO.out];exact z03r Ei2.out Ej2.out hz
                rw [HV.out hz0.out,hv];exact ⟨rfl,hV.st,hV.fwd⟩
       ·have hzz:((j0:Nat):Int)<(i0:Int):=by omega
        have c1:=hj0X.c1;obtain ⟨w2,hs,hV⟩:=hj0X.swap S hw (i:=j0) (j:=a) (x:=j0) (y:=a) (by omega) (by omega) rfl rfl;have HS:=Lib.hid hs;clear hs;go_wp2_with (rw [HS.out,Oper.upon_value]);go_ret2;rw [z0je lt d a b pivot Ei0.out Ej0.out hz];exact ⟨rfl,hV.st,hV.fwd⟩
end
end
end Go.Proofs.YtaddehddalnliaaGreatDoor
