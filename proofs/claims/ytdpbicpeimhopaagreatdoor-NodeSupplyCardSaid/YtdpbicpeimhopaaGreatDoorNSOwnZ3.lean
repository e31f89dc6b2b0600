import Derived.Test.YtdpbicpeimhopaaGreatDoorNSOwnB2
import Derived.Test.YtdpbicpeimhopaaGreatDoorNSOwnC
import Derived.Test.YtdpbicpeimhopaaGreatDoorNSOwnR
import Derived.Test.YtdpbicpeimhopaaGreatDoorNSOwnS
import Derived.Test.YtdpbicpeimhopaaGreatDoorNSOwnV2
import Derived.Test.YtdpbicpeimhopaaGreatDoorNSOwnZ2
set_option linter.unusedVariables false
set_option linter.unusedSimpArgs false
namespace Go.Proofs.YtdpbicpeimhopaaGreatDoor
section
open Go.RowKit
open Go.Lib (itoa)
set_option maxRecDepth 100000
set_option maxHeartbeats 4000000
theorem kn_4:zds (z2m ⟨kn2.1⟩ kn2.2.1).1 []=(128,0):=by with_unfolding_all decide +kernel
attribute [local irreducible] z0k spD zx zw z23 z4i z3k z2m zds
attribute [local irreducible] den denX z19 z1z
noncomputable def zd9:za:=spD (fun x:Book × Node × Int × Int × List Op=>x.2.2.2.2.length≤8796093022208) fun x=>z3l x.1 x.2.1 x.2.2.1 x.2.2.2.1 x.2.2.2.2
theorem zhg (k:Book) (n:Node) (a b:Int) (o:List Op) (h:o.length≤8796093022208):zd9 [.l 1 (k.texts.map z0e),.l 1 (n.t.names.map z03),.l 5 (n.t.blocks.map z0b),.l 3 (n.pool.map eTx),I n.tip,I a,I b,.l 2 (o.map eOp)]=some [.l 1 ((z3l k n a b o).1.map z0e),.l 1 ((z3l k n a b o).2.1.t.names.map z03),.l 5 ((z3l k n a b o).2.1.t.blocks.map z0b),.l 3 ((z3l k n a b o).2.1.pool.map eTx),I (z3l k n a b o).2.1.tip,I (z3l k n a b o).2.2.1.parent,I (z3l k n a b o).2.2.1.height,I (z3l k n a b o).2.2.1.work,I (z3l k n a b o).2.2.1.nonce,.l 3 ((z3l k n a b o).2.2.1.txs.map eTx),I (z3l k n a b o).2.2.2] :=
 zp (p:=fun x:Book × Node × Int × Int × List Op=>x.2.2.2.2.length≤8796093022208) (f:=fun x:Book × Node × Int × Int × List Op=>z3l x.1 x.2.1 x.2.2.1 x.2.2.2.1 x.2.2.2.2) (k,n,a,b,o) h
def z03d:T :=
 .ite (.v 28) (.ret [.c (.nil 1),.c (.nil 1),.c (.nil 5),.c (.nil 3),.c (.i .i64 0),.c (.i .i64 0),.c (.i .i64 0),.c (.i .i64 0),.c (.i .i64 0),.c (.nil 3),.v 27]) (.ret
 [.v 21,.v 22,.v 23,.v 24,.v 25,.v 14,.v 15,.v 16,.v 17,.v 18,.c (.i .i64 0)])
def z03e:T :=
 .lets [.call 119 [.v 0,.v 1,.v 2,.v 3,.v 4,.v 14,.v 15,.v 16,.v 17,.v 18] 0,.call 119 [.v 0,.v 1,.v 2,.v 3,.v 4,.v 14,.v 15,.v 16,.v 17,.v 18] 1,.call 119 [.v 0,
 .v 1,.v 2,.v 3,.v 4,.v 14,.v 15,.v 16,.v 17,.v 18] 2,.call 119 [.v 0,.v 1,.v 2,.v 3,.v 4,.v 14,.v 15,.v 16,.v 17,.v 18] 3,.call 119 [.v 0,.v 1,.v 2,.v 3,.v 4,
 .v 14,.v 15,.v 16,.v 17,.v 18] 4,.call 119 [.v 0,.v 1,.v 2,.v 3,.v 4,.v 14,.v 15,.v 16,.v 17,.v 18] 5,.call 119 [.v 0,.v 1,.v 2,.v 3,.v 4,.v 14,.v 15,.v 16,.v
 17,.v 18] 6] [] (.lets [.bin .neq (.v 27) (.c (.i .i64 0))] [] z03d)
def z03f:T :=
 .ite (.v 20) (.ret [.c (.nil 1),.c (.nil 1),.c (.nil 5),.c (.nil 3),.c (.i .i64 0),.c (.i .i64 0),.c (.i .i64 0),.c (.i .i64 0),.c (.i .i64 0),.c (.nil 3),.v 19])
 z03e
def z03g:T :=
 .lets [.call 100 [.v 0,.v 10,.v 3,.v 4,.v 13,.v 5,.v 6,.v 7] 0,.call 100 [.v 0,.v 10,.v 3,.v 4,.v 13,.v 5,.v 6,.v 7] 1,.call 100 [.v 0,.v 10,.v 3,.v 4,.v 13,.v
 5,.v 6,.v 7] 2,.call 100 [.v 0,.v 10,.v 3,.v 4,.v 13,.v 5,.v 6,.v 7] 3,.call 100 [.v 0,.v 10,.v 3,.v 4,.v 13,.v 5,.v 6,.v 7] 4,.call 100 [.v 0,.v 10,.v 3,.v 4,
 .v 13,.v 5,.v 6,.v 7] 5] [] (.lets [.bin .neq (.v 19) (.c (.i .i64 0))] [] z03f)
def z03h:T :=
 .ite (.v 12) (.ret [.c (.nil 1),.c (.nil 1),.c (.nil 5),.c (.nil 3),.c (.i .i64 0),.c (.i .i64 0),.c (.i .i64 0),.c (.i .i64 0),.c (.i .i64 0),.c (.nil 3),.v 11]) (.lets
 [.call 115 [.v 1,.v 2,.v 4] 0] [] z03g)
def z03i:T :=
 .ite (.v 9) (.ret [.c (.nil 1),.c (.nil 1),.c (.nil 5),.c (.nil 3),.c (.i .i64 0),.c (.i .i64 0),.c (.i .i64 0),.c (.i .i64 0),.c (.i .i64 0),.c (.nil 3),.v 8]) (.lets
 [.call 96 [.v 0,.v 1,.v 2,.v 4] 0,.call 96 [.v 0,.v 1,.v 2,.v 4] 1] [] (.lets [.bin .neq (.v 11) (.c (.i .i64 0))] [] z03h))
def zji:T :=
 .lets [.call 117 [.v 0,.v 1,.v 2,.v 3,.v 4] 0] [] (.lets [.bin .neq (.v 8) (.c (.i .i64 0))] [] z03i)
attribute [local irreducible] z2l z3m z49 zap z84
theorem z08z:Meets Tryz.prog zd9 30 ⟨[.agg 1,.agg 4,.one,.one,.one],[(true,[.pure]),(true,[.pure,.pure,.pure,.scal]),(true,[.scal,.scal,.scal,.scal,.pure]),(false,[.scal])],false⟩:=by
 refine zaj (sp:=(z0z [(96,z2l),(100,z84),(115,z49),(117,z3m),(119,zap)])) (sigs:=z1c) (cut:=[]) (hints:=[]) (fns:=[z96 82 Tryz.f82 [] []]) (dep:=2) (pool:=600) (fn:=Tryz.f30) (t:=zji) (by kernel_rfl) (by kernel_rfl) (by kernel_rfl) ?_ ?_ ?_
 ·exact (z2s (fn:=Tryz.f82) (by kernel_rfl) (by kernel_rfl) (by kernel_rfl) (by kernel_rfl) (by kernel_rfl) zca)
 ·exact (z0o (L:=[(96,z2l),(100,z84),(115,z49),(117,z3m),(119,zap)]) ⟨z9 rfl zd6,z9 rfl z02r,z9 rfl zfp,z9 rfl zd7,z9 rfl z08v,trivial⟩)
 ·rintro ds rs hok h
  obtain ⟨⟨k,n,a,b,o⟩,ho,rfl,rfl⟩:=z02 h
  clear h
  simp only at ho
  refine ⟨⟨1,?_⟩,z3s ⟨rfl,rfl,rfl,rfl,rfl,rfl,trivial⟩⟩
  show den _ _ zji [.l 1 (k.texts.map z0e),.l 1 (n.t.names.map z03),.l 5 (n.t.blocks.map z0b),.l 3 (n.pool.map eTx),I n.tip,I a,I b,.l 2 (o.map eOp)] []=ret (z3l k n a b o)
  have a1:=z8f k n
  have a2:=z6p k n.t n.tip
  have a3:=za4 n.t n.tip
  have hh:=fun h=>zoj (k:=k) (t:=n.t) (n:=n.tip) h
  unfold zji z3l
  generalize z23 k n=e1 at *
  generalize zx k n.t n.tip=c at *
  obtain ⟨l,e2⟩:=c
  generalize zw n.t n.tip=hgt at *
  simp only at *
  have a4:=fun h=>zn0 k.texts l n.pool n.tip hgt a b o h ho
  have hkk:(⟨k.texts⟩:Book)=k:=rfl
  rw [hkk] at a4
  generalize z3k k l n.pool n.tip hgt a b o=m at *
  obtain ⟨mb,e3⟩:=m
  simp only at *
  have a5:=zwz k n mb
  generalize z4i k n mb=q at *
  obtain ⟨x,n2,nm,e4⟩:=q
  simp only at *
  by_cases h2:e2=0
  ·have hh:=hh h2
   have a4:=a4 ⟨by omega,by omega⟩
   repeat' (first|refine dq1 ?_|refine dqc ?_|refine dqm ?_|refine dqK rfl (a1) ?_|refine dqK rfl (a2) ?_|refine dqK rfl (a3) ?_|refine dqK rfl (a4) ?_|refine dqK rfl (a5) ?_|exact z8 rfl rfl|(refine tR ?_ ?_ <;> intro h)|refine dqT ?_|refine dqF ?_|refine z1v rfl ?_|refine z1m rfl ?_|refine z40 ?_|refine z41 ?_)
   all_goals omega
  ·clear hh a4
   repeat' (first|refine dq1 ?_|refine dqc ?_|refine dqm ?_|refine dqK rfl (a1) ?_|refine dqK rfl (a2) ?_|exact z8 rfl rfl|(refine tR ?_ ?_ <;> intro h)|refine dqT ?_|refine dqF ?_|refine z1v rfl ?_|refine z1m rfl ?_|refine z40 ?_|refine z41 ?_)
   all_goals omega
def zda (k:Book) (n:Node) (o:List Op):Int × Int:=if (z2m k n).2≠0 then (0,(z2m k n).2) else zds (z2m k n).1 o
noncomputable def z9r:za:=spD (fun _:Book × Node × List Op=>True) fun x=>zda x.1 x.2.1 x.2.2
theorem zlg (k:Book) (n:Node) (o:List Op):z9r [.l 1 (k.texts.map z0e),.l 1 (n.t.names.map z03),.l 5 (n.t.blocks.map z0b),.l 3 (n.pool.map eTx),I n.tip,.l 2 (o.map eOp)]=some [I (zda k n o).1,I (zda k n o).2]:=zp (f:=fun x:Book × Node × List Op=>zda x.1 x.2.1 x.2.2) (k,n,o) trivial
def zqa:T :=
 .lets [.bin .neq (.v 7) (.c (.i .i64 0))] [] (.ite (.v 8) (.ret [.c (.i .i64 0),.v 7]) (.lets [.call 26 [.v 6,.v 5] 0,.call 26 [.v 6,.v 5] 1] [] (.ret [.v 9,.v 10])))
def zdt:T :=
 .lets [.call 122 [.v 0,.v 1,.v 2,.v 3,.v 4] 0,.call 122 [.v 0,.v 1,.v 2,.v 3,.v 4] 1] [] zqa
attribute [local irreducible] z4a zem
theorem zzt:Meets Tryz.prog z9r 65 ⟨[.agg 1,.agg 4,.one],[(false,[.scal]),(false,[.scal])],true⟩:=by
 refine z04 (sp:=(z0z [(26,zem),(122,z4a)])) (sigs:=z1c) (cut:=[]) (hints:=[]) (fn:=Tryz.f65) (t:=zdt) (by kernel_rfl) (by kernel_rfl) (by kernel_rfl) ?_ ?_
 ·exact (z0o (L:=[(26,zem),(122,z4a)]) ⟨z9 rfl z0dg,z9 rfl zhf,trivial⟩)
 ·rintro ds rs hok h
  obtain ⟨⟨k,n,o⟩,-,rfl,rfl⟩:=z02 h
  clear h
  refine ⟨⟨1,?_⟩,z8i rfl rfl⟩
  show den _ _ zdt [.l 1 (k.texts.map z0e),.l 1 (n.t.names.map z03),.l 5 (n.t.blocks.map z0b),.l 3 (n.pool.map eTx),I n.tip,.l 2 (o.map eOp)] []=ret (zda k n o)
  have a1:=zb1 k n
  unfold zdt zda
  generalize z2m k n=c at *
  obtain ⟨l,e⟩:=c
  simp only at *
  have a2:=z03c l o
  generalize zds l o=q at *
  obtain ⟨v,f⟩:=q
  simp only at *
  repeat' (first|refine dq1 ?_|refine dqc ?_|refine dqm ?_|refine dqK rfl (a1) ?_|refine dqK rfl (a2) ?_|exact z8 rfl rfl|(refine tR ?_ ?_ <;> intro h)|refine dqT ?_|refine dqF ?_|refine z1v rfl ?_|refine z1m rfl ?_|refine z40 ?_|refine z41 ?_)
noncomputable def zaq:za:=spD (fun _:Unit=>True) fun _=>true
theorem zx2:zaq []=some [.b true]:=zp (f:=fun _:Unit=>true) () trivial
theorem kn_5:zda ⟨kn2.1⟩ kn2.2.1 []=(128,0):=by
 unfold zda
 rw [if_neg (fun k=>k kn_3.1),kn_4]
def z03j:T :=
 .lets [.bin .eql (.v 24) (.c (.i .i64 128))] [] (.ite (.v 35) (.lets [.call 117 [.v 11,.v 12,.v 13,.v 14,.v 15] 0] [] (.lets [.bin .eql (.v 36) (.c (.i .i64 0))] [] (.ret [.v
 37]))) (.ret [.c (.b false)]))
def z03k:T :=
 .lets [.bin .eql (.v 17) (.c (.i .i64 2))] [] (.ite (.v 32) (.lets [.len (.v 22)] [] (.lets [.bin .eql (.v 33) (.c (.i .i64 2))] [] (.ite (.v 34) z03j (.ret [.c (.b
 false)])))) (.ret [.c (.b false)]))
def z03l:T :=
 .lets [.bin .neq (.v 16) (.c (.i .i64 0))] [] (.ite (.v 30) (.lets [.bin .eql (.v 6) (.c (.i .i64 1))] [] (.ite (.v 31) z03k (.ret [.c (.b false)]))) (.ret [.c (.b false)]))
def z03m:T :=
 .lets [.bin .eql (.v 23) (.c (.i .i64 0))] [] (.ite (.v 28) (.lets [.bin .eql (.v 25) (.c (.i .i64 0))] [] (.ite (.v 29) z03l (.ret [.c (.b false)]))) (.ret [.c (.b false)]))
def z03n:T :=
 .lets [.bin .eql (.v 10) (.c (.i .i64 0))] [] (.ite (.v 26) (.lets [.bin .eql (.v 21) (.c (.i .i64 0))] [] (.ite (.v 27) z03m (.ret [.c (.b false)]))) (.ret [.c (.b false)]))
def z03o:T :=
 .lets [.call 122 [.v 11,.v 12,.v 13,.v 14,.v 15] 0,.call 122 [.v 11,.v 12,.v 13,.v 14,.v 15] 1] [] (.lets [.call 124 [.v 11,.v 12,.v 13,.v 14,.v 15,.c (.nil 2)] 0,
 .call 124 [.v 11,.v 12,.v 13,.v 14,.v 15,.c (.nil 2)] 1] [] z03n)
def z03p:T :=
 .lets [.call 121 [.v 0,.v 1,.v 2,.v 3,.v 4,.c (.i .i64 3),.c (.i .i64 0),.c (.nil 2)] 0,.call 121 [.v 0,.v 1,.v 2,.v 3,.v 4,.c (.i .i64 3),.c (.i .i64 0),.c (.nil 2)]
 1,.call 121 [.v 0,.v 1,.v 2,.v 3,.v 4,.c (.i .i64 3),.c (.i .i64 0),.c (.nil 2)] 2,.call 121 [.v 0,.v 1,.v 2,.v 3,.v 4,.c (.i .i64 3),.c (.i .i64 0),.c (.nil 2)] 3,
 .call 121 [.v 0,.v 1,.v 2,.v 3,.v 4,.c (.i .i64 3),.c (.i .i64 0),.c (.nil 2)] 4,.call 121 [.v 0,.v 1,.v 2,.v 3,.v 4,.c (.i .i64 3),.c (.i .i64 0),.c (.nil 2)] 5,
 .call 121 [.v 0,.v 1,.v 2,.v 3,.v 4,.c (.i .i64 3),.c (.i .i64 0),.c (.nil 2)] 6,.call 121 [.v 0,.v 1,.v 2,.v 3,.v 4,.c (.i .i64 3),.c (.i .i64 0),.c (.nil 2)] 7,
 .call 121 [.v 0,.v 1,.v 2,.v 3,.v 4,.c (.i .i64 3),.c (.i .i64 0),.c (.nil 2)] 8,.call 121 [.v 0,.v 1,.v 2,.v 3,.v 4,.c (.i .i64 3),.c (.i .i64 0),.c (.nil 2)] 9,
 .call 121 [.v 0,.v 1,.v 2,.v 3,.v 4,.c (.i .i64 3),.c (.i .i64 0),.c (.nil 2)] 10] [] z03o
def zjj:T :=
 .lets [.call 121 [.c (.nil 1),.c (.nil 1),.c (.nil 5),.c (.nil 3),.c (.i .i64 0),.c (.i .i64 2),.c (.i .i64 0),.c (.nil 2)] 0,.call 121 [.c (.nil 1),.c (.nil 1),.c (.nil
 5),.c (.nil 3),.c (.i .i64 0),.c (.i .i64 2),.c (.i .i64 0),.c (.nil 2)] 1,.call 121 [.c (.nil 1),.c (.nil 1),.c (.nil 5),.c (.nil 3),.c (.i .i64 0),.c (.i .i64 2),.c
 (.i .i64 0),.c (.nil 2)] 2,.call 121 [.c (.nil 1),.c (.nil 1),.c (.nil 5),.c (.nil 3),.c (.i .i64 0),.c (.i .i64 2),.c (.i .i64 0),.c (.nil 2)] 3,.call 121 [.c (.nil 1),
 .c (.nil 1),.c (.nil 5),.c (.nil 3),.c (.i .i64 0),.c (.i .i64 2),.c (.i .i64 0),.c (.nil 2)] 4,.call 121 [.c (.nil 1),.c (.nil 1),.c (.nil 5),.c (.nil 3),.c (.i .i64 0),
 .c (.i .i64 2),.c (.i .i64 0),.c (.nil 2)] 5,.call 121 [.c (.nil 1),.c (.nil 1),.c (.nil 5),.c (.nil 3),.c (.i .i64 0),.c (.i .i64 2),.c (.i .i64 0),.c (.nil 2)] 6,.call
 121 [.c (.nil 1),.c (.nil 1),.c (.nil 5),.c (.nil 3),.c (.i .i64 0),.c (.i .i64 2),.c (.i .i64 0),.c (.nil 2)] 7,.call 121 [.c (.nil 1),.c (.nil 1),.c (.nil 5),.c (.nil
 3),.c (.i .i64 0),.c (.i .i64 2),.c (.i .i64 0),.c (.nil 2)] 8,.call 121 [.c (.nil 1),.c (.nil 1),.c (.nil 5),.c (.nil 3),.c (.i .i64 0),.c (.i .i64 2),.c (.i .i64 0),.c
 (.nil 2)] 9,.call 121 [.c (.nil 1),.c (.nil 1),.c (.nil 5),.c (.nil 3),.c (.i .i64 0),.c (.i .i64 2),.c (.i .i64 0),.c (.nil 2)] 10] [] z03p
theorem z090:Meets Tryz.prog zaq 20 ⟨[],[(false,[.scal])],true⟩:=by
 refine z04 (sp:=(z0z [(117,z3m),(121,zd9),(122,z4a),(124,z9r)])) (sigs:=z1c) (cut:=[]) (hints:=[]) (fn:=Tryz.f20) (t:=zjj) (by kernel_rfl) (by kernel_rfl) (by kernel_rfl) ?_ ?_
 ·exact (z0o (L:=[(117,z3m),(121,zd9),(122,z4a),(124,z9r)]) ⟨z9 rfl zd7,z9 rfl z08z,z9 rfl zhf,z9 rfl zzt,trivial⟩)
 ·rintro ds rs - h
  obtain ⟨⟨⟩,-,rfl,rfl⟩:=z02 h
  clear h
  refine ⟨⟨1,?_⟩,z1h rfl⟩
  show den _ _ zjj [] []=ret true
  have a1:=zhg ⟨[]⟩ z9q 2 0 [] (by decide)
  have a2:=zhg ⟨kn1.1⟩ kn1.2.1 3 0 [] (by decide)
  have a3:=zb1 ⟨kn2.1⟩ kn2.2.1
  have a4:=zlg ⟨kn2.1⟩ kn2.2.1 []
  have a5:=z8f ⟨kn2.1⟩ kn2.2.1
  rw [show z3l ⟨[]⟩ z9q 2 0 []=kn1 from rfl,kn_1.1,kn_1.2] at a1
  rw [show z3l ⟨kn1.1⟩ kn1.2.1 3 0 []=kn2 from rfl,kn_2.1,kn_2.2.2] at a2
  rw [kn_3.1] at a3
  rw [kn_5] at a4
  rw [kn_3.2.2] at a5
  have hp:=kn_2.2.1
  have hl:=kn_3.2.1
  generalize (z2m ⟨kn2.1⟩ kn2.2.1).1=l at *
  generalize kn2.2.2.1.parent=p2 at *
  generalize kn2.2.2.1.work=w2 at *
  generalize kn2.2.2.1.nonce=n2 at *
  generalize kn2.2.2.1.txs=t2 at *
  generalize kn2.2.1=nd2 at *
  generalize kn2.1=k2 at *
  generalize kn1.2.2.1.parent=p1 at *
  generalize kn1.2.2.1.work=w1 at *
  generalize kn1.2.2.1.nonce=n1 at *
  generalize kn1.2.2.1.txs=t1 at *
  generalize kn1.2.1=nd1 at *
  generalize kn1.1=k1 at *
  unfold zjj
  repeat' (first|refine dq1 ?_|refine dqc ?_|refine dqm ?_|refine dqK rfl (a1) ?_|refine dqK rfl (a2) ?_|refine dqK rfl (a3) ?_|refine dqK rfl (a4) ?_|refine dqK rfl (a5) ?_|exact z8 rfl rfl|refine dqT ?_|refine dqF ?_|refine z1v rfl ?_|refine z1m rfl ?_|refine z40 ?_|refine z41 ?_)
end
section
open Go.RowKit
open Go.Lib (itoa)
set_option maxRecDepth 100000
set_option maxHeartbeats 4000000
theorem z03q {k:Book} {n:Node} {l:List Coin} (h:z2m k n=(l,0)):z23 k n=0∧zx k n.t n.tip=(l,0):=by
 unfold z2m at h
 by_cases h1:z23 k n=0
 ·rw [if_neg (fun k=>k h1)] at h
  exact ⟨h1,h⟩
 ·rw [if_pos h1] at h
  exact absurd (congrArg (fun x=>x.2) h) h1
theorem zzu {h:Int} (h0:0≤h) (h1:h≤24):z5y h=0:=by unfold z5y;rw [if_neg (by omega)]
attribute [local irreducible] z0k spD z2m z7u z0w z0v z2h z5y
attribute [local irreducible] den denX z19 z1z
noncomputable def zn3:za:=spD (fun _:Book × Node=>True) fun _=>true
def zlh:T :=
 .ite (.v 22) (.lets [.bin .eql (.v 21) (.c (.i .i64 0))] [] (.ite (.v 23) (.lets [.bin .leq (.v 18) (.v 20)] [] (.ret [.v 24])) (.ret [.c (.b false)]))) (.ret [.c (.b false)])
def zli:T :=
 .lets [.call 12 [.v 5] 0,.call 12 [.v 5] 1] [] (.lets [.call 111 [.v 12] 0,.call 111 [.v 12] 1] [] (.lets [.bin .eql (.v 19) (.c (.i .i64 0))] [] zlh))
def zlj:T :=
 .lets [.call 89 [.v 1,.v 2,.v 4] 0,.call 89 [.v 1,.v 2,.v 4] 1,.call 89 [.v 1,.v 2,.v 4] 2,.call 89 [.v 1,.v 2,.v 4] 3,.call 89 [.v 1,.v 2,.v 4] 4,.call 89 [.v 1,.v
 2,.v 4] 5] [] (.lets [.bin .neq (.v 16) (.c (.i .i64 0))] [] (.ite (.v 17) (.ret [.c (.b false)]) zli))
def zlk:T :=
 .ite (.v 15) (.lets [.bin .eql (.v 14) (.c (.i .i64 0))] [] (.ite (.v 16) (.lets [.bin .leq (.v 11) (.v 13)] [] (.ret [.v 17])) (.ret [.c (.b false)]))) (.ret [.c (.b false)])
def zll:T :=
 .lets [.call 12 [.v 5] 0,.call 12 [.v 5] 1] [] (.lets [.call 111 [.c (.i .i64 0)] 0,.call 111 [.c (.i .i64 0)] 1] [] (.lets [.bin .eql (.v 12) (.c (.i .i64 0))] []
 zlk))
def zlm:T :=
 .lets [.bin .neq (.v 6) (.c (.i .i64 0))] [] (.ite (.v 9) (.lets [.call 126 [] 0] [] (.ret [.v 10])) (.lets [.bin .neq (.v 4) (.c (.i .i64 0))] [] (.ite (.v 10) zlj
 zll)))
def zb2:T :=
 .lets [.call 122 [.v 0,.v 1,.v 2,.v 3,.v 4] 0,.call 122 [.v 0,.v 1,.v 2,.v 3,.v 4] 1] [] (.lets [.call 126 [] 0] [] (.lets [.not (.v 7)] [] (.ite (.v 8) (.lets [.call 126
 [] 0] [] (.ret [.v 9])) zlm)))
attribute [local irreducible] z6q zaq z4a z2b z9h
theorem zqb:Meets Tryz.prog zn3 4 ⟨[.agg 1,.agg 4],[(false,[.scal])],true⟩:=by
 refine z04 (sp:=(z0z [(12,z9h),(89,z2b),(111,z6q),(122,z4a),(126,zaq)])) (sigs:=z1c) (cut:=[]) (hints:=[]) (fn:=Tryz.f4) (t:=zb2) (by kernel_rfl) (by kernel_rfl) (by kernel_rfl) ?_ ?_
 ·exact (z0o (L:=[(12,z9h),(89,z2b),(111,z6q),(122,z4a),(126,zaq)]) ⟨z9 rfl z05u,z9 rfl zdn,z9 rfl zwv,z9 rfl zhf,z9 rfl z090,trivial⟩)
 ·rintro ds rs - h
  obtain ⟨⟨k,n⟩,-,rfl,rfl⟩:=z02 h
  clear h
  refine ⟨⟨1,?_⟩,z1h rfl⟩
  show den _ _ zb2 [.l 1 (k.texts.map z0e),.l 1 (n.t.names.map z03),.l 5 (n.t.blocks.map z0b),.l 3 (n.pool.map eTx),I n.tip] []=ret true
  have a1:=zb1 k n
  have a2:=zx2
  have a3:=z9k n.t n.tip
  unfold zb2
  generalize hq:z2m k n=q at *
  obtain ⟨l,e⟩:=q
  simp only at *
  by_cases he:e=0
  ·subst he
   obtain ⟨h1,h2⟩:=z03q hq
   obtain ⟨c1,c2,c3,c4,c5,c6⟩:=zhb h2
   have a4:=zpm l
   rw [z02p c1] at a4
   simp only at a4
   have a5:=zjf (zw n.t n.tip)
   rw [zzu c3 c4] at a5
   have hd:=decide_eq_true c5
   clear h1 h2 hq
   by_cases ht:n.tip=0
   ·rw [c6 ht] at a5 hd
    clear c2 c3 c4 c5 c6 c1
    generalize zb l=tl at *
    generalize z2h 0=sn at *
    repeat' (first|refine dq1 ?_|refine dqc ?_|refine dqm ?_|refine dqK rfl (a1) ?_|refine dqK rfl (a2) ?_|refine dqK rfl (a4) ?_|refine dqK rfl (a5) ?_|exact z8 rfl rfl|refine dqT ?_|refine dqF ?_|refine z1v rfl ?_|refine z1m rfl ?_|refine z40 ?_|refine z41 ?_)
    all_goals (simp only [hd];exact z8 rfl rfl)
   ·have hb:=c2 ht
    have hh:zw n.t n.tip=(z0w n.t n.tip).height:=by unfold zw;rw [if_neg (fun k=>k hb)]
    rw [hh] at a5 hd
    rw [hb] at a3
    clear c2 c3 c4 c5 c6 c1 hh hb
    generalize z0w n.t n.tip=b at *
    generalize zb l=tl at *
    generalize z2h b.height=sn at *
    repeat' (first|refine dq1 ?_|refine dqc ?_|refine dqm ?_|refine dqK rfl (a1) ?_|refine dqK rfl (a2) ?_|refine dqK rfl (a3) ?_|refine dqK rfl (a4) ?_|refine dqK rfl (a5) ?_|exact z8 rfl rfl|refine dqT ?_|refine dqF ?_|refine z1v rfl ?_|refine z1m rfl ?_|refine z40 ?_|refine z41 ?_)
    all_goals (simp only [hd];exact z8 rfl rfl)
  ·repeat' (first|refine dq1 ?_|refine dqc ?_|refine dqm ?_|refine dqK rfl (a1) ?_|refine dqK rfl (a2) ?_|exact z8 rfl rfl|refine dqT ?_|refine dqF ?_|refine z1v rfl ?_|refine z1m rfl ?_|refine z40 ?_|refine z41 ?_)
theorem nodeSupply_walk (k:Book) (c_k:List Value) (n:Node) (c_n:List Value) (w:World) (h_k:shBook.rep w (Lt w.heap.size) k c_k) (h_n:shNode.rep w (Lt w.heap.size) n c_n) (hG:Glob w) :
  Calls Tryz.prog 4 #[.agg c_k.toArray,.agg c_n.toArray] w fun e w'=>e = .returned (.bool true)∧Below w.heap.size w w' :=
 zxc (F:=Lt w.heap.size) (us:=[.agg c_k.toArray,.agg c_n.toArray]) rfl (z1u (fn:=Tryz.f4) (by kernel_rfl) (by kernel_rfl) (by kernel_rfl)) zqb ⟨fun _ h=>h,hG⟩ (zp (f:=fun _=>true) (k,n) trivial)
  (zk3 (d1:=z92 k) (she_book.to h_k) rfl (zk3 (d1:=zlc n) (she_node.to h_n) rfl zk2))
end
end Go.Proofs.YtdpbicpeimhopaaGreatDoor
