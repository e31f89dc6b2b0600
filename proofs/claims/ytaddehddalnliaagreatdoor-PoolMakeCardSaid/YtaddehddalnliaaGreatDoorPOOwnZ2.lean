/- Own texts, put together by wip/bundle.py: VU4, VB5, VC0, VEr, VC1, VB6, VCT, VU7, VRow, VDel, VIns, VU8, VU9, VPU, VPB, VC2, VC3, VC5, VC8, VC9, VC10, VR2, VR3, VR4, VR5, VR7, VR8, VN0, VSB, VU5, VL8, VCk, VB7, VS5, VC4, VB8, VE1, VUA, VQ1, VQ2, VQ3. -/
import Derived.Laws.IdiomCopy
import Derived.Lib.AppendZerosOnto
import Derived.Deep.RegionLaw
import Derived.Lib.Hide
import Derived.Laws.Externs
import Derived.Laws.NewBlocks
import Derived.Test.YtaddehddalnliaaGreatDoorProg
import Derived.Sort.Defs
import Derived.Deep.DeepCutAuto
import Derived.Deep.Light
import Derived.Test.YtaddehddalnliaaGreatDoorPOOwnB
import Derived.Test.YtaddehddalnliaaGreatDoorPOOwnC
import Derived.Test.YtaddehddalnliaaGreatDoorPOOwnR
import Derived.Test.YtaddehddalnliaaGreatDoorPOOwnS
import Derived.Test.YtaddehddalnliaaGreatDoorPOOwnV2
import Derived.Test.YtaddehddalnliaaGreatDoorPOOwnZ1
set_option linter.unusedVariables false
set_option linter.unusedSimpArgs false
namespace Go.Proofs.YtaddehddalnliaaGreatDoor
section
open Go.RowKit
set_option maxRecDepth 100000
set_option maxHeartbeats 4000000
theorem zac (l m:List Op):z3z [.l 2 (l.map eOp),.l 2 (m.map eOp)]=some [.b (decide (l=m))]:=zg (f:=fun x:List Op × List Op=>decide (x.1=x.2)) (l,m) trivial
theorem zir:Meets Tryz.prog z3z 57 ⟨[.one,.one],[(false,[.scal])],true⟩ :=
 za5 (e:=fun x:{ x:List Op × List Op // True }=>Enc.e x.1) (d:=fun x=>.b (decide (x.1.1=x.1.2))) rfl (z23 (fn:=Tryz.f57) (by kernel_rfl) (by kernel_rfl) (by kernel_rfl)) (fun _=>rfl) fun x W F us hF h=>by
  obtain ⟨v,us,rfl,h1,h⟩:=z1f h;obtain ⟨v2,us,rfl,h2,h⟩:=z1f h;obtain rfl:=z2a h;obtain ⟨A,n,c,rfl,k1⟩:=z3t z7z h1;obtain ⟨A2,n2,c2,rfl,k2⟩:=z3t z7z h2;refine (z0ig x.1.1 x.1.2 A A2 n c n2 c2 W F F k1 k2).mono ?_;rintro r W' ⟨rfl,m,rfl⟩;exact ⟨_,rfl,zix (Below.refl _ _) m,.b _⟩
attribute [local irreducible] z00 spD z1e
theorem zfl {α:Type} {sz:Nat} {l:List α} {f:α→List Dt} (h:Dt.ok (.l sz (l.map f))):l.length≤9223372036854775807:=by
 cases h with
 | l _ _ h1 _ _=>simpa using h1
theorem z0fo (x y:Out):(decide (x.coin=y.coin) && decide (x.lock=y.lock))=decide (x=y):=by
 cases x;cases y
 simp only [Out.mk.injEq,zY3r]
noncomputable def z73:z9:=spD (fun _:Out × Out=>True) fun x=>decide (x.1=x.2)
noncomputable def z49:z9:=spD (fun _:Out × Out=>True) fun x=>decide (x.1=x.2)
theorem zm7 (x y:Out):z73 [I x.coin,.l 2 (x.lock.map eOp),I y.coin,.l 2 (y.lock.map eOp)]=some [.b (decide (x=y))]:=zg (f:=fun x:Out × Out=>decide (x.1=x.2)) (x,y) trivial
theorem zeg (x y:Out):z49 [I x.coin,.l 2 (x.lock.map eOp),I y.coin,.l 2 (y.lock.map eOp)]=some [.b (decide (x=y))]:=zg (f:=fun x:Out × Out=>decide (x.1=x.2)) (x,y) trivial
def zdq:T :=
 .lets [.bin .eql 0 2] [] (.ite 4 (.lets [.call 19 [1,3] 0] [] (.ret [5])) (.ret [.c (.b false)]))
def zfm:T :=
 .lets [.bin .eql 0 2] [] (.ite 4 (.lets [.call 19 [1,3] 0] [] (.ret [5])) (.ret [.c (.b false)]))
def zm8:T :=
 .ite 13 (.lets [.bin .eql 4 10] [] (.ite 14 (.lets [.beq false 5 11] [] (.ret [15])) (.ret [.c (.b false)]))) (.ret [.c (.b false)])
def zb1:T :=
 .lets [.eqs false [(.v 0,.v 6),(.v 1,.v 7)]] [] (.ite 12 (.lets [.call 22 [2,3,8,9] 0] [] zm8) (.ret [.c (.b false)]))
def z07a:T :=
 .lets [.call 27 [9,10,11,12,13,14,15,16,17,18,19,20] 0] [] (.lets [.not 21] [] (.ite 22 (.ret [.c (.b false)]) (.lets [.bin
 .add 7 (zI 1)] [] (.again 0 [6,23]))))
def z07b:T :=
 .lets [] [.inr 6 1 7] (.lets [.idx 1 7 0,.idx 1 7 1,.idx 1 7 2,.idx 1 7 3,.idx 1 7 4,.idx 1 7 5] []
 z07a)
def z07c:T :=
 .lets [] [.inr 6 0 7] (.lets [.idx 0 7 0,.idx 0 7 1,.idx 0 7 2,.idx 0 7 3,.idx 0 7 4,.idx 0 7 5] []
 z07b)
def z07d:T :=
 .ite 4 (.ret [.c (.b false)]) (.lets [.len 0] [] (.loop [.c (.b false),zI 0] (.lets [.bin .lss 7 5] [] (.ite 8 z07c (.ret [.c (.b
 true)])))))
def zhc:T :=
 .lets [.len 0] [] (.lets [.len 1] [] (.lets [.bin .neq 2 3] [] z07d))
def zcn:T :=
 .lets [.call 21 [0,1] 0] [] (.ret [2])
def zhd:T :=
 .lets [.bin .lss 0 2] [] (.ite 4 (.ret [.c (.b true)]) (.lets [.bin .eql 0 2] [] (.ite 5 (.lets [.bin .lss 1 3] [] (.ret [6])) (.ret [.c
 (.b false)]))))
theorem z07e:Meets Tryz.prog z73 100 ⟨[.agg 2,.agg 2],[(false,[.scal])],true⟩:=by
 refine zj (sp:=(z07 [(19,z3z)])) (sigs:=z0i) (cut:=[]) (hints:=[]) (fn:=Tryz.f100) (t:=zdq) (by kernel_rfl) (by kernel_rfl) (by kernel_rfl) ?_ ?_
 ·exact (z01 (L:=[(19,z3z)]) ⟨za rfl zir,trivial⟩)
 ·rintro ds rs - h
  obtain ⟨⟨x,y⟩,-,rfl,rfl⟩:=zi h;clear h;refine ⟨⟨1,?_⟩,zy rfl⟩
  show den _ _ zdq [I x.coin,.l 2 (x.lock.map eOp),I y.coin,.l 2 (y.lock.map eOp)] []=ret (decide (x=y))
  rw [← z0fo];unfold zdq
  repeat' (first|refine dq1 ?_|refine dqk rfl (zac _ _) ?_|exact z5 rfl rfl|refine tU (fun h=>?_) fun h=>?_|fail)
theorem zm9:Meets Tryz.prog z49 59 ⟨[.agg 2,.agg 2],[(false,[.scal])],true⟩:=by
 refine zj (sp:=(z07 [(19,z3z)])) (sigs:=z0i) (cut:=[]) (hints:=[]) (fn:=Tryz.f59) (t:=zfm) (by kernel_rfl) (by kernel_rfl) (by kernel_rfl) ?_ ?_
 ·exact (z01 (L:=[(19,z3z)]) ⟨za rfl zir,trivial⟩)
 ·rintro ds rs - h
  obtain ⟨⟨x,y⟩,-,rfl,rfl⟩:=zi h;clear h;refine ⟨⟨1,?_⟩,zy rfl⟩
  show den _ _ zfm [I x.coin,.l 2 (x.lock.map eOp),I y.coin,.l 2 (y.lock.map eOp)] []=ret (decide (x=y))
  rw [← z0fo];unfold zfm
  repeat' (first|refine dq1 ?_|refine dqk rfl (zac _ _) ?_|exact z5 rfl rfl|refine tU (fun h=>?_) fun h=>?_|fail)
theorem z0mg (x y:Coin):(decide (x.p=y.p) && (decide (x.o=y.o) && (decide (x.height=y.height) && decide (x.reward=y.reward))))=decide (x=y):=by
 cases x;cases y
 simp only [Coin.mk.injEq,zY3r]
noncomputable def z7l:z9:=spD (fun _:Coin × Coin=>True) fun x=>decide (x.1=x.2)
theorem ziv (x y:Coin):z7l (zd x++zd y)=some [.b (decide (x=y))]:=zg (f:=fun x:Coin × Coin=>decide (x.1=x.2)) (x,y) trivial
theorem zsx:Meets Tryz.prog z7l 61 ⟨[.agg 6,.agg 6],[(false,[.scal])],true⟩:=by
 refine zj (sp:=(z07 [(22,z49)])) (sigs:=z0i) (cut:=[]) (hints:=[]) (fn:=Tryz.f61) (t:=zb1) (by kernel_rfl) (by kernel_rfl) (by kernel_rfl) ?_ ?_
 ·exact (z01 (L:=[(22,z49)]) ⟨za rfl zm9,trivial⟩)
 ·rintro ds rs - h
  obtain ⟨⟨x,y⟩,-,rfl,rfl⟩:=zi h;clear h;refine ⟨⟨1,?_⟩,zy rfl⟩
  show den _ _ zb1 [I x.p.tx,I x.p.at_,I x.o.coin,.l 2 (x.o.lock.map eOp),I x.height,.b x.reward,I y.p.tx,I y.p.at_,I y.o.coin,.l 2 (y.o.lock.map eOp),I y.height,.b y.reward] []=ret (decide (x=y))
  rw [← z0mg];unfold zb1
  repeat' (first|refine dq1 ?_|refine dqc ?_|refine dqm ?_|refine dqK rfl (zeg x.o y.o) ?_|exact z5 rfl rfl|((first|refine tR ?_ ?_|refine tB ?_ ?_|refine tC ?_ ?_|refine tN ?_ ?_|refine tF ?_ ?_|refine tG ?_ ?_|refine tP ?_ ?_|refine tQ ?_ ?_|refine tA ?_ ?_|refine tO ?_ ?_|refine tU ?_ ?_|refine tV ?_ ?_) <;> intro h)|refine dqT ?_|refine dqF ?_|refine z0h rfl ?_|refine z0m rfl ?_|refine zcg ?_|refine z8d ?_)
noncomputable def zbp:z9:=spD (fun _:List Coin × List Coin=>True) fun x=>decide (x.1=x.2)
noncomputable def z4u:z9:=spD (fun _:List Coin × List Coin=>True) fun x=>decide (x.1=x.2)
theorem zsy (l m:List Coin):zbp [.l 6 (l.map zd),.l 6 (m.map zd)]=some [.b (decide (l=m))]:=zg (f:=fun x:List Coin × List Coin=>decide (x.1=x.2)) (l,m) trivial
theorem zk7 (l m:List Coin):z4u [.l 6 (l.map zd),.l 6 (m.map zd)]=some [.b (decide (l=m))]:=zg (f:=fun x:List Coin × List Coin=>decide (x.1=x.2)) (l,m) trivial
theorem z74 {α:Type} [DecidableEq α] (l m:List α):decide (l=m)=if (l.length:Int)≠m.length then false else decide (l=m):=by
 by_cases h:(l.length:Int)≠m.length
 ·rw [if_pos h,decide_eq_false]
  rintro rfl;exact h rfl
 ·rw [if_neg h]
theorem z0fp:Meets Tryz.prog zbp 60 ⟨[.one,.one,.clos 61 []],[(false,[.scal])],true⟩:=by
 refine zj (sp:=(z07 [(27,z7l)])) (sigs:=z0i) (cut:=[]) (hints:=[⟨4,[.t 6,.t 17]⟩]) (fn:=Tryz.f60) (t:=zhc) (by kernel_rfl) (by kernel_rfl) (by kernel_rfl) ?_ ?_
 ·exact (z01 (L:=[(27,z7l)]) ⟨za rfl zsx,trivial⟩)
 ·rintro ds rs hok h
  obtain ⟨⟨l,m⟩,-,rfl,rfl⟩:=zi h;clear h;have hll:=zfl (hok (.l 6 (l.map zd)) (zY0h ..));refine ⟨⟨l.length+1,?_⟩,zy rfl⟩
  show den _ _ zhc [.l 6 (l.map zd),.l 6 (m.map zd)] []=ret (decide (l=m))
  rw [z74];unfold zhc
  repeat' (first|refine dq1 ?_|refine dqc ?_|refine dqm ?_|exact z5 rfl rfl|((first|refine tR ?_ ?_|refine tB ?_ ?_|refine tC ?_ ?_|refine tN ?_ ?_|refine tF ?_ ?_|refine tG ?_ ?_|refine tP ?_ ?_|refine tQ ?_ ?_|refine tA ?_ ?_|refine tO ?_ ?_|refine tU ?_ ?_|refine tV ?_ ?_) <;> intro h)|refine dqT ?_|refine dqF ?_|refine z0h rfl ?_|refine z0m rfl ?_|refine zcg ?_|refine z8d ?_)
  have hlm:l.length=m.length:=by omega
  (refine zw (fun (_:Unit) k=>[.b false,I k]) (fun (_:Unit) k (r:List Coin)=>decide (r=m.drop k)) (fun _ _=>True) () l ?_ ?_ ?_ ?_ ?_;rfl;exact trivial;first|exact zY1z _|omega)
  ·rintro _ k x r hx hd hk - again hag
   have hy:m[k]? = some (m[k]'(by omega)):=zY03 (by omega);have hdy:m.drop k=m[k]'(by omega)::m.drop (k+1):=zY14 (by omega);rw [hdy];generalize m[k]'(by omega)=y at *;have e:decide (x::r=y::m.drop (k+1))=if decide (x=y)=true then decide (r=m.drop (k+1)) else false:=by
    by_cases h:x=y
    ·simp [h]
    ·simp [h]
   rw [e];have hkm:k<m.length:=by omega
   repeat' (first|refine dq1 ?_|refine dqc ?_|refine dqm ?_|refine dqK rfl (ziv x y) ?_|exact z5 rfl rfl|exact z6 rfl rfl (hag () trivial)|exact z6 rfl rfl (hag _ trivial)|exact z6 rfl rfl (hag _ (by omega))|exact z6 rfl rfl (hag _ (by assumption))|((first|refine tR ?_ ?_|refine tB ?_ ?_|refine tC ?_ ?_|refine tN ?_ ?_|refine tF ?_ ?_|refine tG ?_ ?_|refine tP ?_ ?_|refine tQ ?_ ?_|refine tA ?_ ?_|refine tO ?_ ?_|refine tU ?_ ?_|refine tV ?_ ?_) <;> intro h)|refine dqT ?_|refine dqF ?_|refine z0h rfl ?_|refine z0m rfl ?_|refine zcg ?_|refine z8d ?_)
  ·rintro _ - again
   rw [hlm,zY21]
   repeat' (first|refine dq1 ?_|refine dqc ?_|refine dqm ?_|exact z5 rfl rfl|((first|refine tR ?_ ?_|refine tB ?_ ?_|refine tC ?_ ?_|refine tN ?_ ?_|refine tF ?_ ?_|refine tG ?_ ?_|refine tP ?_ ?_|refine tQ ?_ ?_|refine tA ?_ ?_|refine tO ?_ ?_|refine tU ?_ ?_|refine tV ?_ ?_) <;> intro h)|refine dqT ?_|refine dqF ?_|refine z0h rfl ?_|refine z0m rfl ?_|refine zcg ?_|refine z8d ?_)
theorem z015:Meets Tryz.prog z4u 16 ⟨[.one,.one],[(false,[.scal])],true⟩:=by
 refine zj (sp:=(z07 [(21,zbp)])) (sigs:=z0i) (cut:=[]) (hints:=[]) (fn:=Tryz.f16) (t:=zcn) (by kernel_rfl) (by kernel_rfl) (by kernel_rfl) ?_ ?_
 ·exact (z01 (L:=[(21,zbp)]) ⟨za rfl z0fp,trivial⟩)
 ·rintro ds rs - h
  obtain ⟨⟨l,m⟩,-,rfl,rfl⟩:=zi h;clear h;refine ⟨⟨1,?_⟩,zy rfl⟩
  show den _ _ zcn [.l 6 (l.map zd),.l 6 (m.map zd)] []=ret (decide (l=m))
  unfold zcn
  repeat' (first|refine dq1 ?_|refine dqc ?_|refine dqm ?_|refine dqK rfl (zsy l m) ?_|exact z5 rfl rfl|((first|refine tR ?_ ?_|refine tB ?_ ?_|refine tC ?_ ?_|refine tN ?_ ?_|refine tF ?_ ?_|refine tG ?_ ?_|refine tP ?_ ?_|refine tQ ?_ ?_|refine tA ?_ ?_|refine tO ?_ ?_|refine tU ?_ ?_|refine tV ?_ ?_) <;> intro h)|refine dqT ?_|refine dqF ?_|refine z0h rfl ?_|refine z0m rfl ?_|refine zcg ?_|refine z8d ?_)
end
section
open Go.RowKit
open Go.Lib (itoa)
set_option maxRecDepth 100000
set_option maxHeartbeats 4000000
theorem z0q3 (x y:In):(if x.p=y.p then decide (x.key=y.key) else false)=decide (x=y):=by
 cases x;cases y
 by_cases h:(‹Point› : Point)=‹Point› <;> simp only [In.mk.injEq,zY3r] <;> split <;> simp [*]
theorem z0q4 (t u:Tx):(if t.height=u.height then if decide (t.ins=u.ins)=true then decide (t.outs=u.outs) else false else false)=decide (t=u):=by
 cases t;cases u
 simp only [Tx.mk.injEq,zY3r]
 split <;> rename_i h
 ·split <;> rename_i h2
  ·simp [h,h2]
  ·simp [h,h2]
 ·simp [h]
noncomputable def zbq:z9:=spD (fun _:In × In=>True) fun x=>decide (x.1=x.2)
theorem zsz (x y:In):zbq (eIn x++eIn y)=some [.b (decide (x=y))]:=zg (f:=fun x:In × In=>decide (x.1=x.2)) (x,y) trivial
noncomputable def zeh:z9:=spD (fun _:List In × List In=>True) fun x=>decide (x.1=x.2)
theorem z0bz (l m:List In):zeh [.l 3 (l.map eIn),.l 3 (m.map eIn)]=some [.b (decide (l=m))]:=zg (f:=fun x:List In × List In=>decide (x.1=x.2)) (l,m) trivial
noncomputable def zfn:z9:=spD (fun _:List Out × List Out=>True) fun x=>decide (x.1=x.2)
theorem z07f (l m:List Out):zfn [.l 2 (l.map z17),.l 2 (m.map z17)]=some [.b (decide (l=m))]:=zg (f:=fun x:List Out × List Out=>decide (x.1=x.2)) (l,m) trivial
noncomputable def z8n:z9:=spD (fun _:Tx × Tx=>True) fun x=>decide (x.1=x.2)
theorem z016 (x y:Tx):z8n (eTx x++eTx y)=some [.b (decide (x=y))]:=zg (f:=fun x:Tx × Tx=>decide (x.1=x.2)) (x,y) trivial
attribute [local irreducible] z00 spD z1e z7 zf
attribute [local irreducible] den denX z0f z0k
def zhe:T :=
 .lets [.eqs false [(.v 0,.v 3),(.v 1,.v 4)]] [] (.ite 6 (.lets [.call 19 [2,5] 0] [] (.ret [7])) (.ret [.c (.b false)]))
def z0j0:T :=
 .lets [.call 58 [9,10,11,12,13,14] 0] [] (.lets [.not 15] [] (.ite 16 (.ret [.c (.b false)]) (.lets [.bin .add 7 (zI 1)] [] (.again 0
 [6,17]))))
def z0j1:T :=
 .lets [.idx 0 7 0,.idx 0 7 1,.idx 0 7 2] [] (.lets [] [.inr 3 1 7] (.lets [.idx 1 7 0,.idx 1 7 1,.idx 1 7
 2] [] z0j0))
def z0j2:T :=
 .lets [.len 0] [] (.loop [.c (.b false),zI 0] (.lets [.bin .lss 7 5] [] (.ite 8 (.lets [] [.inr 3 0 7] z0j1) (.ret [.c (.b true)]))))
def z017:T :=
 .lets [.len 0] [] (.lets [.len 1] [] (.lets [.bin .neq 2 3] [] (.ite 4 (.ret [.c (.b false)]) z0j2)))
def z0fq:T :=
 .lets [.call 20 [9,10,11,12] 0] [] (.lets [.not 13] [] (.ite 14 (.ret [.c (.b false)]) (.lets [.bin .add 7 (zI 1)] [] (.again 0 [6,.v
 15]))))
def z0fr:T :=
 .lets [] [.inr 2 0 7] (.lets [.idx 0 7 0,.idx 0 7 1] [] (.lets [] [.inr 2 1 7] (.lets [.idx 1 7 0,.idx 1 7 1] []
 z0fq)))
def z0fs:T :=
 .ite 4 (.ret [.c (.b false)]) (.lets [.len 0] [] (.loop [.c (.b false),zI 0] (.lets [.bin .lss 7 5] [] (.ite 8 z0fr (.ret [.c (.b
 true)])))))
def zof:T :=
 .lets [.len 0] [] (.lets [.len 1] [] (.lets [.bin .neq 2 3] [] z0fs))
def zk8:T :=
 .lets [.bin .eql 0 3] [] (.ite 6 (.lets [.call 59 [1,4] 0] [] (.ite 7 (.lets [.call 60 [2,5] 0] [] (.ret [8])) (.ret [.c (.b false)]))) (.ret
 [.c (.b false)]))
attribute [local irreducible] z3z
theorem z0ft:Meets Tryz.prog zbq 99 ⟨[.agg 3,.agg 3],[(false,[.scal])],true⟩:=by
 refine zj (sp:=(z07 [(19,z3z)])) (sigs:=z0i) (cut:=[]) (hints:=[]) (fn:=Tryz.f99) (t:=zhe) (by kernel_rfl) (by kernel_rfl) (by kernel_rfl) ?_ ?_
 ·exact (z01 (L:=[(19,z3z)]) ⟨za rfl zir,trivial⟩)
 ·rintro ds rs - h
  obtain ⟨⟨x,y⟩,-,rfl,rfl⟩:=zi h;clear h;refine ⟨⟨1,?_⟩,zy rfl⟩
  show den _ _ zhe [I x.p.tx,I x.p.at_,.l 2 (x.key.map eOp),I y.p.tx,I y.p.at_,.l 2 (y.key.map eOp)] []=ret (decide (x=y))
  rw [← z0q3];unfold zhe
  repeat' (first|refine dq1 ?_|refine dqk rfl (zac _ _) ?_|exact z5 rfl rfl|refine tR (fun h=>?_) fun h=>?_|fail)
theorem z0p0:Meets Tryz.prog zeh 98 ⟨[.one,.one,.clos 99 []],[(false,[.scal])],true⟩:=by
 refine zj (sp:=(z07 [(58,zbq)])) (sigs:=z0i) (cut:=[]) (hints:=[⟨4,[.t 6,.t 17]⟩]) (fn:=Tryz.f98) (t:=z017) (by kernel_rfl) (by kernel_rfl) (by kernel_rfl) ?_ ?_
 ·exact (z01 (L:=[(58,zbq)]) ⟨za rfl z0ft,trivial⟩)
 ·rintro ds rs hok h
  obtain ⟨⟨l,m⟩,-,rfl,rfl⟩:=zi h;clear h;have hll:=zfl (hok (.l 3 (l.map eIn)) (zY0h ..));refine ⟨⟨l.length+1,?_⟩,zy rfl⟩
  show den _ _ z017 [.l 3 (l.map eIn),.l 3 (m.map eIn)] []=ret (decide (l=m))
  rw [z74];unfold z017
  repeat' (first|refine dq1 ?_|exact z5 rfl rfl|refine tR (fun h=>?_) fun h=>?_|fail)
  have hlm:l.length=m.length:=by omega
  (refine zw (fun (_:Unit) k=>[.b false,I k]) (fun (_:Unit) k (r:List In)=>decide (r=m.drop k)) (fun _ _=>True) () l ?_ ?_ ?_ ?_ ?_;rfl;exact trivial;exact zY1z _)
  ·rintro _ k x r hx hd hk - again hag
   have hy:m[k]? = some (m[k]'(by omega)):=zY03 (by omega);have hdy:m.drop k=m[k]'(by omega)::m.drop (k+1):=zY14 (by omega);rw [hdy];generalize m[k]'(by omega)=y at *;have e:decide (x::r=y::m.drop (k+1))=if decide (x=y)=true then decide (r=m.drop (k+1)) else false:=by
    by_cases h:x=y
    ·simp [h]
    ·simp [h]
   rw [e];have hkm:k<m.length:=by omega
   repeat' (first|refine dq1 ?_|refine dqc ?_|refine dqm ?_|refine dqk rfl (zsz x y) ?_|exact z5 rfl rfl|exact z6 rfl rfl (hag () trivial)|refine tN (fun h=>?_) fun h=>?_|refine dqT ?_|fail)
  ·rintro _ - again
   rw [hlm,zY21]
   repeat' (first|refine dq1 ?_|exact z5 rfl rfl|refine dqF ?_|fail)
attribute [local irreducible] z73
theorem z0mh:Meets Tryz.prog zfn 58 ⟨[.one,.one,.clos 100 []],[(false,[.scal])],true⟩:=by
 refine zj (sp:=(z07 [(20,z73)])) (sigs:=z0i) (cut:=[]) (hints:=[⟨4,[.t 6,.t 17]⟩]) (fn:=Tryz.f58) (t:=zof) (by kernel_rfl) (by kernel_rfl) (by kernel_rfl) ?_ ?_
 ·exact (z01 (L:=[(20,z73)]) ⟨za rfl z07e,trivial⟩)
 ·rintro ds rs hok h
  obtain ⟨⟨l,m⟩,-,rfl,rfl⟩:=zi h;clear h;have hll:=zfl (hok (.l 2 (l.map z17)) (zY0h ..));refine ⟨⟨l.length+1,?_⟩,zy rfl⟩
  show den _ _ zof [.l 2 (l.map z17),.l 2 (m.map z17)] []=ret (decide (l=m))
  rw [z74];unfold zof
  repeat' (first|refine dq1 ?_|exact z5 rfl rfl|refine tR (fun h=>?_) fun h=>?_|fail)
  have hlm:l.length=m.length:=by omega
  (refine zw (fun (_:Unit) k=>[.b false,I k]) (fun (_:Unit) k (r:List Out)=>decide (r=m.drop k)) (fun _ _=>True) () l ?_ ?_ ?_ ?_ ?_;rfl;exact trivial;exact zY1z _)
  ·rintro _ k x r hx hd hk - again hag
   have hy:m[k]? = some (m[k]'(by omega)):=zY03 (by omega);have hdy:m.drop k=m[k]'(by omega)::m.drop (k+1):=zY14 (by omega);rw [hdy];generalize m[k]'(by omega)=y at *;have e:decide (x::r=y::m.drop (k+1))=if decide (x=y)=true then decide (r=m.drop (k+1)) else false:=by
    by_cases h:x=y
    ·simp [h]
    ·simp [h]
   rw [e];have hkm:k<m.length:=by omega
   repeat' (first|refine dq1 ?_|refine dqc ?_|refine dqm ?_|refine dqk rfl (zm7 x y) ?_|exact z5 rfl rfl|exact z6 rfl rfl (hag () trivial)|refine tN (fun h=>?_) fun h=>?_|refine dqT ?_|fail)
  ·rintro _ - again
   rw [hlm,zY21]
   repeat' (first|refine dq1 ?_|exact z5 rfl rfl|refine dqF ?_|fail)
attribute [local irreducible] zeh
theorem z0j3:Meets Tryz.prog z8n 51 ⟨[.agg 3,.agg 3],[(false,[.scal])],true⟩:=by
 refine zj (sp:=(z07 [(59,zeh),(60,zfn)])) (sigs:=z0i) (cut:=[]) (hints:=[]) (fn:=Tryz.f51) (t:=zk8) (by kernel_rfl) (by kernel_rfl) (by kernel_rfl) ?_ ?_
 ·exact (z01 (L:=[(59,zeh),(60,zfn)]) ⟨za rfl z0p0,za rfl z0mh,trivial⟩)
 ·rintro ds rs - h
  obtain ⟨⟨x,y⟩,-,rfl,rfl⟩:=zi h;clear h;refine ⟨⟨1,?_⟩,zy rfl⟩
  show den _ _ zk8 [I x.height,.l 3 (x.ins.map eIn),.l 2 (x.outs.map z17),I y.height,.l 3 (y.ins.map eIn),.l 2 (y.outs.map z17)] []=ret (decide (x=y))
  rw [← z0q4];unfold zk8
  repeat' (first|refine dq1 ?_|refine dqk rfl (z0bz _ _) ?_|refine dqk rfl (z07f _ _) ?_|exact z5 rfl rfl|((first|refine tR ?_ ?_|refine tB ?_ ?_) <;> intro h)|fail)
end
section
open Go.RowKit
def zog:List CF→List Dt→Prop
 | .scal::fs,d::ds=>d.scal=true∧zog fs ds
 | _::fs,_::ds=>zog fs ds
 | _,_=>True
theorem zoh:∀ {fs:List CF} {ds:List Dt},zog fs ds→∀ (j:Nat) (d:Dt),fs[j]? = some .scal→ds[j]? = some d→d.scal=true
 | [],_,_,j,d,hf,_=>by cases hf
 | _::_,[],_,j,d,_,hd=>by cases hd
 | c::fs,x::ds,h,j,d,hf,hd=>by
  cases j with
  | zero =>
   simp only [zY04,zY00] at hf hd;subst hf;subst hd;exact h.1
  | succ j =>
   have h':zog fs ds:=by
    cases c with
    | scal=>exact h.2
    | pure=>exact h
    | fresh e sz=>exact h
   exact zoh h' j d (by simpa using hf) (by simpa using hd)
theorem z52 {s:Sig} {rs:List Dt} (h:zog (zn s) rs):z6m s rs:=fun i d h1 h2=>zoh h i d h1 h2
def zoi:List CF→Bool
 | []=>true
 | .fresh _ _::_=>false
 | _::fs=>zoi fs
theorem zdr:∀ {fs:List CF},zoi fs=true→∀ c ∈ fs,c = .scal∨c = .pure
 | [],_,c,h=>by cases h
 | x::fs,h,c,hc=>by
  cases x with
  | scal =>
   rcases zY0i.1 hc with rfl|hc
   ·exact .inl rfl
   ·exact zdr (fs:=fs) h c hc
  | pure =>
   rcases zY0i.1 hc with rfl|hc
   ·exact .inr rfl
   ·exact zdr (fs:=fs) h c hc
  | fresh e sz=>cases h
section
variable {W W':World} {F F':Nat→Prop} {pk:List PK} {b:Bool}
theorem resP {s:Sig} {rs:List Dt} {v:Value} {us:List Value} (hv:znm s.res v us) (hc:zoi (zn s)=true) (hs:zog (zn s) rs) (hr:Reps W' F' rs us) (hl:rs.length=(zn s).length) (hF':∀ b,F' b→F b∨(W.heap.size≤b∧b<W'.heap.size)):∃ us F',ResR W F W' s rs v us F' :=
 ⟨us,F',zf7 hv (zdr hc) (zoh hs) hl hr hF'⟩
end
end
section
open Go.RowKit
end
section
open Go.RowKit
set_option maxRecDepth 100000
set_option maxHeartbeats 4000000
theorem zrj:∀ l s:List (List UInt8),Er (z42 l s)
 | [],_=>z1a _ rfl
 | x::l,s=>z1j (z1a _ rfl) (z1j (z1a _ rfl) (zrj l _))
theorem zoj (k:Book):Er (ze k):=z1j (z1a _ rfl) (zrj _ _)
theorem z01b (t:List (List UInt8)) (s:List UInt8):Er (z2j t s):=z1j (z1a _ rfl) (z1j (z1a _ rfl) (z1a _ rfl))
theorem z0ja (k:Book) (s:List UInt8):Er (z1y k s):=z1j (zoj k) (z1j (z1a _ rfl) (z01b _ _))
theorem z5t {n:Int} (h:0≤n∧n≤1000):I64 n:=⟨by have:=h.1;omega,by have:=h.2;omega⟩
noncomputable def z4i:z9:=spD (fun _:Book=>True) fun k=>ze k
theorem zmb (k:Book):z4i [.l 1 (k.texts.map z0g)]=some [I (ze k)]:=zg (f:=fun k:Book=>ze k) k trivial
theorem z07l:Meets Tryz.prog z4i 43 ⟨[.agg 1],[(false,[.scal])],true⟩ :=
 z7h rfl (z23 (fn:=Tryz.f43) (by kernel_rfl) (by kernel_rfl) (by kernel_rfl)) fun k _ W F us hF h=>by
  obtain ⟨cs,rfl,hr⟩:=z8c h;exact ⟨(zoj k).i64,zfz k cs W F (she_book.of hr) hF.1⟩
theorem z0p3 {W W':World} {F:Nat→Prop}:∀ b,Mid W W' b→F b∨(W.heap.size≤b∧b<W'.heap.size):=fun b h=>.inr h
theorem z0jb (k:Book) (s:List UInt8):I64 (z14 k s):=by
 unfold z14
 split
 ·exact z5t ⟨by decide,by decide⟩
 rename_i h
 split
 ·exact z5t ⟨by decide,by decide⟩
 ·exact z5t (zxs (z64 (zY0s.1 h)))
noncomputable def z6c:z9:=spD (fun _:Book × List UInt8=>True) fun x=>(z2c x.1 x.2,z14 x.1 x.2,z1y x.1 x.2)
theorem zok (k:Book) (s:List UInt8):z6c [.l 1 (k.texts.map z0g),.s s]=some [.l 1 ((z2c k s).map z0g),I (z14 k s),I (z1y k s)]:=zg (f:=fun x:Book × List UInt8=>(z2c x.1 x.2,z14 x.1 x.2,z1y x.1 x.2)) (k,s) trivial
theorem z0c5:Meets Tryz.prog z6c 94 ⟨[.agg 1,.one],[(true,[.pure]),(false,[.scal]),(false,[.scal])],false⟩ :=
 z6y rfl (z23 (fn:=Tryz.f94) (by kernel_rfl) (by kernel_rfl) (by kernel_rfl)) fun x _ W F us hF h=>by
  obtain ⟨k,s⟩:=x;obtain ⟨cs,us,rfl,h1,h⟩:=z0lb (d1:=za3 k) (d2:=z0g s) h rfl;obtain ⟨v,us,rfl,h2,h⟩:=z1f h;obtain rfl:=z2a h;obtain ⟨rfl,hs⟩:=zbz h2;refine (z0es k cs s W F (she_book.of h1) hF.1 hs).mono ?_;rintro e w' ⟨A,n,c,rfl,hr,hb⟩;refine ⟨_,rfl,hb,?_⟩;exact resP (us:=[.slice A n c,.int .i64 (z14 k s),.int .i64 (z1y k s)]) (F':=Mid W w') ⟨[.agg #[.slice A n c],.int .i64 (z14 k s),.int .i64 (z1y k s)],rfl,.agg #[.slice A n c],_,[.slice A n c],_,rfl,rfl,⟨rfl,rfl⟩,.int .i64 (z14 k s),_,[.int .i64 (z14 k s)],_,rfl,rfl,⟨rfl,rfl⟩,.int .i64 (z1y k s),[],[.int .i64 (z1y k s)],[],rfl,rfl,⟨rfl,rfl⟩,rfl,rfl⟩ rfl ⟨rfl,rfl,trivial⟩ ⟨z7d zby hr,.i _ _ (wrap_i64 (z0jb k s)),.i _ _ (wrap_i64 (z0ja k s).i64),trivial⟩ rfl z0p3
noncomputable def z0c6:z9:=spD (fun x:Book × List (List UInt8)=>x.2.length≤8796093022207) fun x=>z9s x.1 x.2
noncomputable def z32:z9:=spD (fun _:Block=>True) fun k=>zq k
theorem zol (b:Block):z32 [I b.parent,I b.height,I b.work,I b.nonce,.l 3 (b.txs.map eTx)]=some [I (zq b)]:=zg (f:=fun k:Block=>zq k) b trivial
theorem zmc:Meets Tryz.prog z32 65 ⟨[.agg 5],[(false,[.scal])],true⟩ :=
 z7h rfl (z23 (fn:=Tryz.f65) (by kernel_rfl) (by kernel_rfl) (by kernel_rfl)) fun k _ W F us hF h=>by
  obtain ⟨cs,rfl,hr⟩:=z8c h;exact ⟨(z0ez k).i64,zo6 k cs W F (she_block.of hr) hF.1⟩
theorem zhg (n:Int):0≤z0u n∧z0u n≤1000:=by
  unfold z0u
  split
  ·exact ⟨by decide,by decide⟩
  ·rename_i h
   have h1:(0:Int)≤2 ^ (min ((n - 1) / 8) 30).toNat:=Int.pow_nonneg (by decide);have h2:=Int.ediv_nonneg (show (0:Int)≤64 by decide) h1;have h3:=Int.ediv_le_self (2 ^ (min ((n - 1) / 8) 30).toNat) (show (0:Int)≤64 by decide);exact ⟨h2,by omega⟩
theorem zrk (n:Int):I64 (z0u n)∧I64 (z2b n):=by
 have h1:=zhg n;have h2:0≤z2b n∧z2b n≤1000:=by
  unfold z2b
  split <;> exact ⟨by decide,by decide⟩
 exact ⟨z5t h1,z5t h2⟩
noncomputable def z2t:z9:=spD (fun _:Int=>True) fun n=>(z0u n,z2b n)
theorem zcp (n:Int):z2t [I n]=some [I (z0u n),I (z2b n)]:=zg (f:=fun n:Int=>(z0u n,z2b n)) n trivial
theorem z0mj (n:Int) (w:World):Calls Tryz.prog 63 #[.int .i64 n] w fun e w'=>e = .returned (.tuple #[.int .i64 (z0u n),.int .i64 (z2b n)])∧w=w':=by
 by_cases h:n<1∨1000<n
 ·go_enter Tryz.func63,Tryz.ntmps63
  go_wp2
  all_goals (go_ret2;refine ⟨z6j ?_ ?_,rfl⟩)
  all_goals simp [z0u,z2b,h]
 ·have h1:1≤n:=by omega
  have h2:n≤1000:=by omega
  go_enter Tryz.func63,Tryz.ntmps63;go_wp2
  all_goals (go_ret2;refine ⟨z6j ?_ ?_,rfl⟩)
  all_goals first|(simp only [z0u];rw [if_neg (by omega)])|(simp [z2b];omega)
theorem zhh:Meets Tryz.prog z2t 63 ⟨[.one],[(false,[.scal]),(false,[.scal])],true⟩ :=
 z6y rfl (z23 (fn:=Tryz.f63) (by kernel_rfl) (by kernel_rfl) (by kernel_rfl)) fun n _ W F us hF h=>by
  obtain ⟨v,us,rfl,h2,h⟩:=z1f (d:=I n) h;obtain rfl:=z2a h;obtain ⟨rfl,hn⟩:=zip h2;refine (z0mj n W).mono ?_;rintro e w' ⟨rfl,rfl⟩;exact ⟨_,rfl,Below.refl _ _,z0a6 rfl rfl (.i _ _ (wrap_i64 (zrk n).1)) (.i _ _ (wrap_i64 (zrk n).2))⟩
noncomputable def zrl:z9:=spD (fun _:List Int × Int=>True) fun x=>idx x.1 x.2
noncomputable def z01c:z9:=spD (fun l:List Int=>l.length≤1000000) fun l=>l
noncomputable def zcq:z9:=spD (fun l:List (List UInt8)=>l.length≤1000000) fun l=>l
theorem z07m (l:List (List UInt8)) (h:l.length≤1000000):zcq [.l 1 (l.map z0g)]=some [.l 1 (l.map z0g)]:=zg (p:=fun l:List (List UInt8)=>l.length≤1000000) (f:=fun l:List (List UInt8)=>l) l h
theorem z0mk:Meets Tryz.prog zcq 46 ⟨[.one],[(false,[.fresh 9 1])],false⟩ :=
 z5a (e:=fun x:{ l:List (List UInt8) // l.length≤1000000 }=>Enc.e x.1) (xs:=fun x=>x.1) zby rfl rfl (by decide) (z23 (fn:=Tryz.f46) (by kernel_rfl) (by kernel_rfl) (by kernel_rfl)) fun x W F us hF h=>by
  obtain ⟨v,us,rfl,h1,h⟩:=z1f h;obtain rfl:=z2a h;obtain ⟨A,n,c,rfl,k1⟩:=z3t zby h1;have:=x.2;have:=k1.1;exact (zgt x.1 A n c W F k1 hF (by omega)).mono fun r W' h=>⟨n,h⟩
noncomputable def zrm:z9:=spD (fun _:List Int=>True) fun l=>l.reverse
end
section
open Go.RowKit
open Go.Lib (itoa)
set_option maxRecDepth 100000
set_option maxHeartbeats 4000000
def z0ml (b:Block):List (List UInt8):=b.txs.map fun t=>(z0a t).1
def z0jc (k:Book) (s:List UInt8) (l:List (List UInt8)):List (List UInt8) × Int × List Int × Int :=
 if (z9s k (l++[s])).2.2≠0 then ([],0,[],(z9s k (l++[s])).2.2) else
 ((z9s k (l++[s])).1,((z9s k (l++[s])).2.1).getD l.length 0,((z9s k (l++[s])).2.1).take l.length,0)
def z4v (k:Book) (b:Block):List (List UInt8) × Int × List Int × Int :=
 if (z9t b).2≠0 then ([],0,[],(z9t b).2) else z0jc k (z9t b).1 (z0ml b)
attribute [local irreducible] z00 spD z9s z9t z0a
attribute [local irreducible] den denX z0f z0k
noncomputable def zj8:z9:=spD (fun _:Book × Block=>True) fun x=>z4v x.1 x.2
theorem zom (t:Tx):z5w [I t.height,.l 3 (t.ins.map eIn),.l 2 (t.outs.map z17)]=some [.s (z0a t).1,I (z0a t).2]:=zsw t
attribute [local irreducible] zj6 z0c6 z5w
end
section
open Go.RowKit
set_option maxRecDepth 100000
set_option maxHeartbeats 4000000
section
variable {sp:Nat→z9} {N:Nat} {E:Env} {ks:List (List Dt→Option (List Dt))}
end
noncomputable def zem:z9:=spD (fun l:List In=>l.length≤3518437208780) fun l=>l
theorem z0c7 (l:List In) (h:l.length≤3518437208780):zem [.l 3 (l.map eIn)]=some [.l 3 (l.map eIn)]:=zg (p:=fun l:List In=>l.length≤3518437208780) (f:=fun l:List In=>l) l h
theorem z0p4:Meets Tryz.prog zem 95 ⟨[.one],[(false,[.fresh 105 3])],false⟩ :=
 z5a (e:=fun x:{ l:List In // l.length≤3518437208780 }=>Enc.e x.1) (xs:=fun x=>x.1) zxe rfl rfl (by decide) (z23 (fn:=Tryz.f95) (by kernel_rfl) (by kernel_rfl) (by kernel_rfl)) fun x W F us hF h=>by
  obtain ⟨v,us,rfl,h1,h⟩:=z1f h;obtain rfl:=z2a h;obtain ⟨A,n,c,rfl,k1⟩:=z3t zxe h1;have:=x.2;have:=k1.1;exact (z0i5 x.1 A n c W F k1 hF (by omega)).mono fun r W' h=>⟨n,h⟩
noncomputable def zcr:z9:=spD (fun l:List Out=>l.length≤4398046510976) fun l=>l
theorem z07n (l:List Out) (h:l.length≤4398046510976):zcr [.l 2 (l.map z17)]=some [.l 2 (l.map z17)]:=zg (p:=fun l:List Out=>l.length≤4398046510976) (f:=fun l:List Out=>l) l h
theorem z0mm:Meets Tryz.prog zcr 96 ⟨[.one],[(false,[.fresh 99 2])],false⟩ :=
 z5a (e:=fun x:{ l:List Out // l.length≤4398046510976 }=>Enc.e x.1) (xs:=fun x=>x.1) zil rfl rfl (by decide) (z23 (fn:=Tryz.f96) (by kernel_rfl) (by kernel_rfl) (by kernel_rfl)) fun x W F us hF h=>by
  obtain ⟨v,us,rfl,h1,h⟩:=z1f h;obtain rfl:=z2a h;obtain ⟨A,n,c,rfl,k1⟩:=z3t zil h1;have:=x.2;have:=k1.1;exact (z0eh x.1 A n c W F k1 hF (by omega)).mono fun r W' h=>⟨n,h⟩
noncomputable def z9u:z9:=spD (fun l:List Tx=>l.length≤2513169434843) fun l=>l
theorem z07o (l:List Tx) (h:l.length≤2513169434843):z9u [.l 3 (l.map eTx)]=some [.l 3 (l.map eTx)]:=zg (p:=fun l:List Tx=>l.length≤2513169434843) (f:=fun l:List Tx=>l) l h
theorem z0c8 (l:List Tx) (h:l.length≤1000000):z9u [.l 3 (l.map eTx)]=some [.l 3 (l.map eTx)]:=z07o l (by omega)
theorem z0p5:Meets Tryz.prog z9u 62 ⟨[.one],[(false,[.fresh 30 3])],false⟩ :=
 z5a (e:=fun x:{ l:List Tx // l.length≤2513169434843 }=>Enc.e x.1) (xs:=fun x=>x.1) she_tx rfl rfl (by decide) (z23 (fn:=Tryz.f62) (by kernel_rfl) (by kernel_rfl) (by kernel_rfl)) fun x W F us hF h=>by
  obtain ⟨v,us,rfl,h1,h⟩:=z1f h;obtain rfl:=z2a h;obtain ⟨A,n,c,rfl,k1⟩:=z3t she_tx h1;have:=x.2;have:=k1.1;exact (z0i6 x.1 A n c W F k1 hF (by omega)).mono fun r W' h=>⟨n,h⟩
noncomputable def z0jd:z9:=spD (fun l:List Block=>l.length≤1000000) fun l=>l
attribute [local irreducible] z00 spD zq zaq
attribute [local irreducible] den denX z0f z0k
def zmd (t:Tx):Prop:=(t.ins.length≤3518437208780∧∀ x ∈ t.ins,x.key.length≤8796093021952)∧(t.outs.length≤4398046510976∧∀ x ∈ t.outs,x.lock.length≤8796093021952)
def z0p6 (b:Block):Prop:=b.txs.length≤2513169434843∧∀ t ∈ b.txs,zmd t
theorem TxSmall.fit {t:Tx} (h:TxSmall t):zmd t:=⟨⟨by have:=h.ins;omega,fun x hx=>by have:=h.key x hx;omega⟩,by have:=h.outs;omega,fun x hx=>by have:=h.lock x hx;omega⟩
theorem BlockSmall.fit {b:Block} (h:BlockSmall b):z0p6 b:=⟨by have:=h.txs;omega,fun x hx=>(h.each x hx).fit⟩
noncomputable def z53:z9:=spD zmd fun t=>t
theorem zt0 (t:Tx) (h:zmd t):z53 [I t.height,.l 3 (t.ins.map eIn),.l 2 (t.outs.map z17)]=some (eTx t):=zg (p:=zmd) (f:=fun t:Tx=>t) t h
theorem zhi (t:Tx) (h:TxSmall t):z53 [I t.height,.l 3 (t.ins.map eIn),.l 2 (t.outs.map z17)]=some (eTx t):=zt0 t h.fit
def z0c9:T :=
 .lets [.call 10 [11] 0] [] (.lets [] [.inr 3 7 6] (.lets [.set 7 6 2 [12]] [] (.lets [.bin .add 6 (zI 1)] [] (.again 0 [14,13]))))
def z0ca:T :=
 .lets [.call 10 [14] 0] [] (.lets [] [.inr 2 11 10] (.lets [.set 11 10 1 [15]] [] (.lets [.bin .add 10 (zI 1)] [] (.again 1 [17,.v
 16]))))
def z0cb:T :=
 .lets [.bin .lss 10 9] [] (.ite 12 (.lets [] [.inr 2 11 10] (.lets [.idx 11 10 0,.idx 11 10 1] [] z0ca)) (.ret [0,7,.v
 11]))
def z0cc:T :=
 .ite 8 (.lets [] [.inr 3 7 6] (.lets [.idx 7 6 0,.idx 7 6 1,.idx 7 6 2] [] z0c9)) (.lets [.len 4] [] (.loop [.c (.i .i64
 0),4] z0cb))
def zk9:T :=
 .lets [.call 107 [1] 0] [] (.lets [.call 108 [2] 0] [] (.lets [.len 3] [] (.loop [zI 0,3] (.lets [.bin .lss 6 5] [] z0cc))))
attribute [local irreducible] zem z3c zcr
theorem z01d:Meets Tryz.prog z53 48 ⟨[.agg 3],[(true,[.scal,.pure,.pure])],false⟩:=by
 refine zj (sp:=(z07 [(10,z3c),(107,zem),(108,zcr)])) (sigs:=z0i) (cut:=[]) (hints:=[⟨3,[.t 18,.o 9]⟩,⟨8,[.t 35,.o 12]⟩]) (fn:=Tryz.f48) (t:=zk9) (by kernel_rfl) (by kernel_rfl) (by kernel_rfl) ?_ ?_
 ·exact (z01 (L:=[(10,z3c),(107,zem),(108,zcr)]) ⟨za rfl zh3,za rfl z0p4,za rfl z0mm,trivial⟩)
 ·rintro ds rs - h
  obtain ⟨t,ht,rfl,rfl⟩:=zi h;clear h;obtain ⟨⟨h1,h3⟩,h2,h4⟩:=ht;refine ⟨⟨t.ins.length+t.outs.length+1,?_⟩,z52 ⟨rfl,trivial⟩⟩
  show den _ _ zk9 [I t.height,.l 3 (t.ins.map eIn),.l 2 (t.outs.map z17)] []=ret t
  unfold zk9
  repeat' (first|refine dq1 ?_|refine dqk rfl (z0c7 _ (by omega)) ?_|refine dqk rfl (z07n _ (by omega)) ?_|fail)
  (refine zw (fun (_:Unit) k=>[I k,.l 3 (t.ins.map eIn)]) (fun _ _ _=>t) (fun _ _=>True) () t.ins ?_ ?_ ?_ ?_ ?_;rfl;exact trivial;omega)
  ·rintro _ k c r hx hd hkl - again hag
   repeat' (first|refine dq1 ?_|refine dqc ?_|refine dqm ?_|refine dqk rfl (z5v _ (by have:=h3 c (zY0f hx);omega)) ?_|refine dqT ?_|fail)
   refine z4 (zfd rfl rfl rfl (by omega) (by simp) (by exact hx) rfl) ?_
   repeat' (first|refine dq1 ?_|exact z6 rfl rfl (hag () trivial)|fail)
  ·intro _ _ again
   repeat' (first|refine dq1 ?_|refine dqF ?_|fail)
   (refine zw (fun (_:Unit) k=>[I k,.l 2 (t.outs.map z17)]) (fun _ _ _=>t) (fun _ _=>True) () t.outs ?_ ?_ ?_ ?_ ?_;rfl;exact trivial;omega)
   ·rintro _ k c r hx hd hkl - again hag
    repeat' (first|refine dq1 ?_|refine dqc ?_|refine dqm ?_|refine dqk rfl (z5v _ (by have:=h4 c (zY0f hx);omega)) ?_|refine dqT ?_|fail)
    refine z4 (zfd rfl rfl rfl (by omega) (by simp) (by exact hx) rfl) ?_
    repeat' (first|refine dq1 ?_|exact z6 rfl rfl (hag () trivial)|fail)
   ·intro _ _ again
    repeat' (first|refine dq1 ?_|exact z5 rfl rfl|refine dqF ?_|fail)
attribute [local irreducible] z9u
attribute [local irreducible] z0jd z01c
attribute [local irreducible] zrl
def z0fx (x:Tree × Block × Int):Prop:=0≤x.2.2∧x.2.2≤x.1.names.length∧x.1.names.length=x.1.blocks.length∧∀ b ∈ x.1.blocks.take x.2.2.toNat,0≤b.height∧b.height≤1000
noncomputable def z07p:z9:=spD z0fx fun x=>zej x.1.names x.1.blocks x.2.1 x.2.2.toNat
attribute [local irreducible] z32 z07p
attribute [local irreducible] zrm
noncomputable def z07q:z9:=spD (fun _:Tree × Int=>True) fun x=>z0c4 x.1 x.2
noncomputable def z01e:z9:=spD (fun _:Tree × Int=>True) fun x=>(zhf x.1 x.2,z0ac x.1 x.2)
end
section
open Go.RowKit
set_option maxRecDepth 100000
set_option maxHeartbeats 4000000
section
variable {ρ:Type}
def z2x (h:Int) (bad:Int→ρ) (K:List Coin→List Coin→ρ):List Coin→List Coin→List In→ρ
 | r,s,[]=>K r s
 | r,s,x::xs=>if z1n r x.p=true then
   if ((r[zo r x.p]?).getD z5x).reward=true then
    if h<((r[zo r x.p]?).getD z5x).height+2 then bad 10
    else if (z1z ((r[zo r x.p]?).getD z5x).o.lock x.key h).1=true then z2x h bad K (r.take (zo r x.p)++r.drop (zo r x.p+1)) (s++[(r[zo r x.p]?).getD z5x]) xs else bad 8
   else if (z1z ((r[zo r x.p]?).getD z5x).o.lock x.key h).1=true then z2x h bad K (r.take (zo r x.p)++r.drop (zo r x.p+1)) (s++[(r[zo r x.p]?).getD z5x]) xs else bad 8
  else bad 7
def z2r (nm h:Int) (rw:Bool) (bad:Int→ρ) (K:List Coin→ρ):List Coin→Nat→List Out→ρ
 | r,_,[]=>K r
 | r,i,o::os=>if z1n r ⟨nm,i⟩=true then bad 6 else z2r nm h rw bad K (r.take (zo r ⟨nm,i⟩)++[⟨⟨nm,i⟩,o,h,rw⟩]++r.drop (zo r ⟨nm,i⟩)) (i+1) os
end
def z1d (e:Int):List Coin × List Coin × Int:=([],[],e)
def z4p (s r:List Coin):List Coin × List Coin × Int:=if zb r≠0 then z1d (zb r) else (r,s,0)
def zp (l:List Coin) (t:Tx) (nm h:Int):List Coin × List Coin × Int :=
 if zb l≠0 then z1d (zb l) else if zf t≠0 then z1d (zf t) else
 if nm<1∨120<nm∨h<1∨1000<h then z1d 3 else
 if (t.ins.length:Int)=0 then
  if t.height≠h then z1d 4 else z2x h z1d (fun r s=>z2r nm h (decide ((t.ins.length:Int)=0)) z1d (z4p s) r 0 t.outs) l [] t.ins
 else z2x h z1d (fun r s=>if z16 t s<0 then z1d 9 else z2r nm h (decide ((t.ins.length:Int)=0)) z1d (z4p s) r 0 t.outs) l [] t.ins
section
variable {ρ:Type}
def z0kl (nm:Int) (bad:Int→ρ) (K:List Coin→ρ):List Coin→Nat→List Out→ρ
 | r,_,[]=>K r
 | r,i,o::os=>if z1n r ⟨nm,i⟩=true then (if decide (((r[zo r ⟨nm,i⟩]?).getD z5x).o=o)=true then z0kl nm bad K (r.take (zo r ⟨nm,i⟩)++r.drop (zo r ⟨nm,i⟩+1)) (i+1) os else bad 7) else bad 7
def z0km (ins:List In) (bad:Int→ρ) (K:List Coin→ρ):List Coin→Nat→List Coin→ρ
 | r,_,[]=>K r
 | r,i,c::cs=>if z1n r c.p=true then bad 6 else if ((ins[i]?).getD ⟨⟨0,0⟩,[]⟩).p≠c.p then bad 6 else z0km ins bad K (r.take (zo r c.p)++[c]++r.drop (zo r c.p)) (i+1) cs
end
def zcs (e:Int):List Coin × Int:=([],e)
def endR (r:List Coin):List Coin × Int:=if zb r≠0 then zcs (zb r) else (r,0)
def z5y (l:List Coin) (t:Tx) (nm:Int) (u:List Coin):List Coin × Int :=
 if zb l≠0 then zcs (zb l) else if zf t≠0 then zcs (zf t) else if (u.length:Int)≠t.ins.length then zcs 4 else
  z0kl nm zcs (fun r=>z0km t.ins zcs endR r 0 u) l 0 t.outs
theorem z98 {r:List Coin} (h:z06 r) (k:Nat):z06 (r.take k++r.drop (k+1)):=by
 have:(r.take k++r.drop (k+1))=r.eraseIdx k:=(List.eraseIdx_eq_take_drop_succ r k).symm;rw [this];exact h.sublist (List.eraseIdx_sublist r k)
theorem z7m {r:List Coin} (h:z06 r) {c:Coin} (hc:z1n r c.p=false):z06 (r.take (zo r c.p)++[c]++r.drop (zo r c.p)):=by
 obtain ⟨i1,i2⟩:=zj4 h c.p;have hle:=zk1 r c.p;have hne:∀ t (ht:t<r.length),r[t].p≠c.p:=fun t ht he=>by
  have:z1n r c.p=true:=zY32.2 ⟨_,zY1l ht,by simpa using he⟩;rw [this] at hc;cases hc
 unfold z06;rw [zY1b,zY2k];refine ⟨List.Pairwise.sublist (List.take_sublist _ _) h,?_,?_⟩
 ·rw [zY31,zY1q]
  refine ⟨fun d hd=>?_,List.Pairwise.sublist (List.drop_sublist _ _) h⟩;obtain ⟨t,ht,rfl⟩:=zY2f hd;rw [zY0y] at ht;rw [List.getElem_drop];have:=i2 (zo r c.p+t) (by omega) (by omega);rcases zo0 c.p r[zo r c.p+t].p with h|h|h
  ·exact h
  ·exact absurd h.symm (hne _ (by omega))
  ·exact absurd h this
 ·intro a ha b hb
  obtain ⟨t,ht,rfl⟩:=zY2f ha;rw [zY0b] at ht;rw [List.getElem_take];have hat:=i1 t (by omega) (by omega);rw [zY31,zY0i] at hb;rcases hb with rfl|hb
  ·exact hat
  ·obtain ⟨u,hu,rfl⟩:=zY2f hb
   rw [zY0y] at hu;rw [List.getElem_drop];have:=i2 (zo r c.p+u) (by omega) (by omega);rcases zo0 r[t].p r[zo r c.p+u].p with h|h|h
   ·exact h
   ·exact absurd (h ▸ hat) this
   ·exact absurd (z6v h hat) this
structure SpI (l:List Coin) (st:List Coin × List Coin) (k:Nat):Prop where
 sorted:z06 st.1
 len:st.1.length≤l.length
 good:∀ c ∈ st.1,z4b c=0
 cnt:st.2.length=k
 spent:∀ c ∈ st.2,z4b c=0
theorem SpI.cut {l:List Coin} {r s:List Coin} {k:Nat} {c:Coin} {j:Nat} (h:SpI l (r,s) k) (hc:r[j]? = some c):SpI l (r.take j++r.drop (j+1),s++[c]) (k+1):=by
 refine ⟨z98 h.sorted j,?_,fun d hd=>?_,?_,fun d hd=>?_⟩
 ·have:=h.len
  simp only [zY06,zY0b,zY0y] at this ⊢;omega
 ·rcases zY0z.1 hd with hd|hd
  ·exact h.good d (zY2j hd)
  ·exact h.good d (zY2d hd)
 ·have:=h.cnt
  simp only [zY06,zY1o] at this ⊢;omega
 ·rcases zY0z.1 hd with hd|hd
  ·exact h.spent d hd
  ·simp only [zY19] at hd
   subst hd;exact h.good d (zY0f hc)
theorem SpI.fee {l:List Coin} {r s:List Coin} {t:Tx} (h:SpI l (r,s) t.ins.length) (ht:TxOK t):z96 (t,s) :=
 ⟨by have:=h.cnt;have:=ht.ins;simp only at *;omega,fun c hc=>by have:=z3m (h.spent c hc);omega,by have:=ht.outs;simp only;omega,fun o ho=>by have:=ht.good o ho;omega⟩
end
section
open Go.RowKit
section
variable {P:Program} {W:World}
theorem zen {g o t:Nat} {vs cs:List Value} (hg:W.heap[g]? = some (.cells vs.toArray t (0,0))) (hn:o+cs.length≤vs.length) (h1:∀ v ∈ cs,v.oneCell'=true):(storeCells ⟨g,o,none⟩ cs 0).run P W = .ok () (W.setCells g o cs):=by
 have h:=zgg (fr:=(0,0)) hg (o:=o) (n:=cs.length) hn;have:=run_storeCells_cells (P:=P) g o cs 0 W (fun j hj=>by rw [zY2c];exact (h j hj).1) (fun j hj=>by rw [zY2c];exact (h j hj).2) h1;simpa using this
theorem z0fy {t e ty sz:Nat} {z:Value} (ht:P.underlying t=some (.slice e)) (hv:∀ w,(zeroValue e).run P w = .ok z w) (hz:z.cells.size=sz) (h1:∀ v ∈ z.cells.toList,v.oneCell'=true) {g o n c tt:Nat} {vs:List Value} (hg:W.heap[g]? = some (.cells vs.toArray tt (0,0))) (hn:o+n * sz≤vs.length) :
  (Builtin.clear_ #[t] ty #[.slice (some ⟨g,o,none⟩) n c]).run P W = .ok (.tuple #[]) (W.setCells g o (Builtin.zeroCells z.cells n).toList):=by
 have hzl:(Builtin.zeroCells z.cells n).toList.length=n * sz:=by simp [Builtin.zeroCells,hz]
 cases n with
 | zero =>
  have:(Builtin.zeroCells z.cells 0).toList=[]:=zY07 (by rw [hzl];simp);rw [this];simp [Builtin.clear_,run_underlying ht,World.setCells]
 | succ n =>
  have hs:=zen (P:=P) (cs:=(Builtin.zeroCells z.cells (n+1)).toList) hg (by rw [hzl];exact hn) (fun v hv=>by
   rw [Array.mem_toList_iff] at hv;simp only [Builtin.zeroCells,Array.mem_map] at hv;obtain ⟨i,hi,rfl⟩:=hv;have hpos:0<z.cells.size:=by
    rcases zY1c z.cells.size with h|h
    ·rw [h] at hi;simp at hi
    ·exact h
   have hlt:i % z.cells.size<z.cells.size:=Nat.mod_lt _ hpos;rw [getElem!_pos z.cells _ hlt];exact h1 _ (by simp))
  simp [Builtin.clear_,run_underlying ht,hv,hs]
theorem zfo {t t' e ty sz:Nat} (ht:P.underlying t=some (.slice e)) (hsz:(P.info? e).map (·.size)=some sz) {g o dLen dCap sLen sCap tt:Nat} {a:Addr} {vs cs:List Value} (hg:W.heap[g]? = some (.cells vs.toArray tt (0,0))) (hl:cs.length=Nat.min sLen dLen * sz) (hsrc:∀ j v,cs[j]? = some v→W.cell? (a.add j)=some v) (hn:o+cs.length≤vs.length) (h1:∀ v ∈ cs,v.oneCell'=true) :
  (Builtin.copy_ #[t,t'] ty #[.slice (some ⟨g,o,none⟩) dLen dCap,.slice (some a) sLen sCap]).run P W = .ok (goInt (Nat.min sLen dLen)) (W.setCells g o cs):=by
 have hs:=zen (P:=P) hg hn h1;have hlc:=run_loadCells_list (P:=P) W a cs hsrc
 cases hq:P.info? e with
 | none=>simp [hq] at hsz
 | some i =>
  have hi:i.size=sz:=by simpa [hq] using hsz
  simp [Builtin.copy_,run_underlying ht,Builtin.lenOf,Builtin.firstCells,sizeOf,typeInfo,hq,hi,← hl,hlc,hs]
end
theorem z0je {pre mid post us:List Value} {o:Nat} (ho:o=pre.length) (h:us.length=mid.length):z1v (pre++mid++post) o us=pre++us++post:=by subst ho;exact zjo us pre mid post h
theorem z8o {vs us:List Value} {o:Nat} (h:o+us.length≤vs.length):z1v vs o us=vs.take o++us++vs.drop (o+us.length):=by
 have e:vs=vs.take o++(vs.drop o).take us.length++vs.drop (o+us.length):=by
  rw [zY1b,← List.drop_drop,zY0v,zY0v]
 have h1:o=(vs.take o).length:=by rw [zY0b];omega
 have h2:us.length=((vs.drop o).take us.length).length:=by rw [zY0b,zY0y];omega
 conv=>lhs;rw [e]
 exact z0je h1 h2
theorem zhj {sz:Nat}:∀ {xs:List (List Dt)},(∀ x ∈ xs,x.length=sz)→xs.flatten.length=xs.length * sz
 | [],_=>by simp
 | x::xs,h=>by rw [zY1k,zY06,h x (zY0h ..),zhj fun y hy=>h y (zY0d _ hy),zY0g,zY1x,Nat.add_comm]
theorem zfp {sz:Nat}:∀ {xs:List (List Dt)} (i:Nat),(∀ x ∈ xs,x.length=sz)→(xs.take i).flatten=xs.flatten.take (i * sz)
 | [],i,_=>by simp
 | x::xs,0,_=>by simp
 | x::xs,i+1,h=>by
  have hx:=h x (zY0h ..);rw [zY3b,zY1k,zY1k,zfp i fun y hy=>h y (zY0d _ hy),List.take_append,hx,zY0p (show x.length≤(i+1) * sz by rw [hx,zY1x];omega),zY1x,zY2s]
theorem zme {sz:Nat} {xs:List (List Dt)} (i:Nat) (h:∀ x ∈ xs,x.length=sz):(xs.drop i).flatten=xs.flatten.drop (i * sz):=by
 have e:xs.flatten=(xs.take i).flatten++(xs.drop i).flatten:=by rw [← zY2m,zY0v]
 by_cases hi:i≤xs.length
 ·have h1:(xs.take i).flatten.length=i * sz:=by rw [zhj fun y hy=>h y (zY2j hy),zY0b,zY28 hi]
  rw [e,← h1,List.drop_left]
 ·rw [zY27 (by omega),zY27]
  ·rfl
  ·rw [zhj h];exact zY1r _ (by omega)
section
variable {P:Program}
theorem z0fz {α:Type} [Enc α] {f e sz:Nat} (hn:Enc.n α=sz) (hpos:0<sz) (hen:En P f) (zc:Array Value) (hzc:zc.size=sz)
  (h0:∀ (W:World) (A:Option Addr) (n cap i:Nat),i≤n→n≤cap→cap≤maxLen→Calls P f #[.slice A n cap,.int .i64 i,.int .i64 i] W fun r W'=>r = .returned (.slice A n cap)∧W'=W)
  (hw:∀ (W:World) (g n cap i j:Nat) (vs:List Value),W.heap[g]? = some (.cells vs.toArray e (0,0))→n≤cap→cap≤maxLen→vs.length=cap * sz→(∀ u ∈ vs.take (n * sz),u.oneCell'=true)→i<j→j≤n →
   Calls P f #[.slice (some ⟨g,0,none⟩) n cap,.int .i64 i,.int .i64 j] W fun r W'=>r = .returned (.slice (some ⟨g,0,none⟩) (n - (j - i)) cap)∧W'=((W.drewN 1).setCells g (i * sz) ((vs.take (n * sz)).drop (j * sz))).setCells g ((i+(n - j)) * sz) (Builtin.zeroCells zc (j - i)).toList) :
  Meets P (spD (fun x:List α × Int × Int=>0≤x.2.1∧x.2.1≤x.2.2∧x.2.2≤x.1.length) fun x=>x.1.take x.2.1.toNat++x.1.drop x.2.2.toNat) f ⟨[.mine e sz,.one,.one],[(false,[.fresh e sz])],false⟩:=by
 refine ⟨fun h=>(by cases h),?_⟩;intro e' sz' ps hps;injection hps with h1 h2
 injection h1 with h1 h1'
 subst h1;subst h1';subst h2;intro W F base v xs cells ds args rs hF hbase hvF hxs hown hreps hargs hsp;obtain ⟨⟨l,i,j⟩,⟨hi0,hij,hjl⟩,he,rfl⟩:=zi hsp;have he':Dt.l sz xs::ds=Dt.l (Enc.n α) (l.map Enc.e)::[I i,I j]:=he;injection he' with g1 g2
 injection g1 with g3 g1
 subst g2;subst g1;simp only at hi0 hij hjl;obtain ⟨va,vas,rfl,ha,hargs⟩:=z1f hargs;obtain ⟨vb,vbs,rfl,hb,hargs⟩:=z1f hargs;obtain rfl:=z2a hargs;obtain ⟨rfl,_⟩:=z2z ha;obtain ⟨rfl,_⟩:=z2z hb;obtain ⟨a,rfl⟩:∃ a:Nat,i=a:=⟨i.toNat,by omega⟩
 obtain ⟨b,rfl⟩:∃ b:Nat,j=b:=⟨j.toNat,by omega⟩
 have hlen:(l.map Enc.e).length=l.length:=zY0w _;rw [hlen] at hown;refine ⟨(l.take a++l.drop b).map Enc.e,?_,fun x hx=>hxs x ?_,?_⟩
 ·show [Dt.l (Enc.n α) _]=_
  rw [hn];rfl
 ·rw [zY24,List.map_take,List.map_drop] at hx
  rcases zY0z.1 hx with hx|hx
  ·exact zY2j hx
  ·exact zY2d hx
 by_cases hab:a=b
 ·subst hab
  have hsame:l.take a++l.drop a=l:=zY0v ..;simp only [zY2x,hsame];have hv:∃ A cap,v = .slice A l.length cap∧l.length≤cap∧cap≤maxLen:=by
   rcases hown.2 with ⟨rfl,h0⟩|⟨g,cap,cur,rfl,_,_,h1,h2,_⟩
   ·exact ⟨none,0,by rw [h0],by omega,by unfold maxLen;omega⟩
   ·exact ⟨_,cap,rfl,h1,h2⟩
  obtain ⟨A,cap,rfl,h1,h2⟩:=hv;refine .inl ⟨hen.run _ _,(h0 W A l.length cap a (by omega) h1 h2).mono ?_⟩;rintro r W' ⟨rfl,rfl⟩;exact ⟨_,rfl,_,cells,⟨fun h=>(by cases h),fun _=>rfl⟩,World.grownBy.refl _ _,by rw [hlen];exact hown,hreps,fun _ h=>.inl h⟩
 ·rcases hown.2 with ⟨rfl,h0⟩|⟨g,cap,cur,rfl,hbg,hg,h1,h2,hcs,htk⟩
  ·omega
  ·have hkeep:=hown
   have hml:cells.length=l.length * sz:=hown.1;have hcs':cur.toList.length=cap * sz:=by simpa using hcs
   have hones:∀ u ∈ cur.toList.take (l.length * sz),u.oneCell'=true:=by rw [htk];exact hreps.one
   refine .inl ⟨hen.run _ _,(hw W g l.length cap a b cur.toList (by simpa using hg) h1 h2 hcs' hones (by omega) (by omega)).mono ?_⟩;rintro r W' ⟨rfl,rfl⟩;have hgF:¬ F g:=hvF g rfl;generalize hW1:(W.drewN 1).setCells g (a * sz) ((cur.toList.take (l.length * sz)).drop (b * sz))=W1;have hg0:(W.drewN 1).heap[g]? = some (.cells cur.toList.toArray e (0,0)):=by simpa using hg
   have hnl:((cur.toList.take (l.length * sz)).drop (b * sz)).length=(l.length - b) * sz:=by
    rw [htk,zY0y,hml,Nat.sub_mul]
   have hzl:(Builtin.zeroCells zc (b - a)).toList.length=(b - a) * sz:=by simp [Builtin.zeroCells,hzc]
   have hg1:=z26 ((cur.toList.take (l.length * sz)).drop (b * sz)) (a * sz) (W.drewN 1) cur.toList hg0;rw [hW1] at hg1;have hg2:=z26 (Builtin.zeroCells zc (b - a)).toList ((a+(l.length - b)) * sz) W1 _ hg1;have hmul1:a * sz+(l.length - b) * sz=(a+(l.length - b)) * sz:=(Nat.add_mul ..).symm;have hle1:(a+(l.length - b)) * sz≤cap * sz:=zY1r _ (by omega);have hle2:(a+(l.length - b)) * sz+(b - a) * sz≤cap * sz:=by rw [← Nat.add_mul];exact zY1r _ (by omega)
   have hle3:a * sz≤l.length * sz:=zY1r _ (by omega);have hle4:l.length * sz≤cap * sz:=zY1r _ h1;have hfar:∀ k,k≠g→(W1.setCells g ((a+(l.length - b)) * sz) (Builtin.zeroCells zc (b - a)).toList).heap[k]? = W.heap[k]?:=by
    intro k hk;rw [z2f g _ _ _ k hk,← hW1,z2f g _ _ _ k hk];rfl
   refine ⟨_,rfl,_,cells.take (a * sz)++cells.drop (b * sz),⟨fun h=>(by cases h),fun _=>rfl⟩,?_,?_,?_,fun _ h=>.inl h⟩
   ·obtain ⟨k1,k2,k3,k4⟩:=z3q g (Builtin.zeroCells zc (b - a)).toList ((a+(l.length - b)) * sz) W1
    obtain ⟨q1,q2,q3,q4⟩:=z3q g ((cur.toList.take (l.length * sz)).drop (b * sz)) (a * sz) (W.drewN 1);rw [hW1] at q1 q2 q3 q4;refine ⟨k1.trans q1,k2.trans q2,k3.trans q3,?_,fun k hk hne=>hfar k fun h=>hne (by rw [h];rfl)⟩;rw [k4,q4];exact zY0m _
   ·have hl2:((l.take a++l.drop b).map (Enc.e (α:=α))).length=a+(l.length - b):=by
     rw [zY0w,zY06,zY0b,zY0y];omega
    rw [hl2];refine ⟨?_,.inr ⟨g,cap,_,by rw [show l.length - (b - a)=a+(l.length - b) by omega],hbg,hg2,by omega,h2,?_,?_⟩⟩
    ·rw [zY06,zY0b,zY0y,hml,zY28 hle3,← Nat.sub_mul,hmul1]
    ·rw [zY2i,z21,z21];exact hcs'
    ·rw [zY2z,z8o (by rw [z21,hzl];omega),zY1b,zY1s (by rw [zY0b,z21];omega),zY38,Nat.min_self,z8o (by rw [hnl];omega),zY1s (by rw [zY06,zY0b,hnl];omega),zY0p (by rw [zY06,zY0b,hnl];omega),htk]
     congr 1;rw [← htk,zY38,zY28 hle3]
   ·rw [zY24,List.map_take,List.map_drop,zY2m,zfp a hxs,zme b hxs]
    have hag:Agree F W (W1.setCells g ((a+(l.length - b)) * sz) (Builtin.zeroCells zc (b - a)).toList):=fun k hk=>hfar k fun h=>hgF (h ▸ hk)
    exact ((hreps.take (a * sz)).append (hreps.drop (b * sz))).mono hag (fun _ h=>h)
theorem z01f {tS tR e sz:Nat} {W:World} (ht:P.underlying tS=some (.slice e)) (hz:∀ w,(sizeOf e).run P w = .ok sz w) {g o b off la ca lb cb t:Nat} {vs:List Value} (hg:W.heap[g]? = some (.cells vs.toArray t (0,0))) (hvs:0<vs.length) (hne:b≠g) {u:Value} (hb:W.cell? ⟨b,off,none⟩=some u) :
  (Extern.SlicesOverlaps.overlaps #[tS,tS] #[tR] #[.slice (some ⟨b,off,none⟩) la ca,.slice (some ⟨g,o,none⟩) lb cb]).run P W = .ok (.bool false) W:=by
 have hnb:(b != g)=true:=by simpa using hne
 have hnb':(b == g)=false:=by simpa using hne
 obtain ⟨arr,tb,fr,hbh,hsz⟩:∃ arr tb fr,W.heap[b]? = some (.cells arr tb fr)∧0<arr.size:=by
  unfold World.cell? at hb
  split at hb
  ·rename_i arr tb fr h
   simp at hb;obtain ⟨hlt,_⟩:=zY17.1 hb;exact ⟨arr,tb,fr,h,by omega⟩
  ·cases hb
 have hsa:W.shape? b=some (tb,arr.size):=by simp [World.shape?,hbh]
 have hsb:W.shape? g=some (t,vs.length):=by simp [World.shape?,hg]
 have hfg:∀ k,W.frozen? ⟨g,k,none⟩=false:=fun k=>by simp [World.frozen?,hg]
 obtain ⟨n1,hn1⟩:∃ n,arr.size=n+1:=⟨arr.size - 1,by omega⟩
 obtain ⟨n2,hn2⟩:∃ n,vs.length=n+1:=⟨vs.length - 1,by omega⟩
 rw [hn1] at hsa;rw [hn2] at hsb;change Sem.run P (α:=Value) (do
  let some t:=(#[tS,tS]:Array TypeId)[0]? | stuck "slices.overlaps: no parameter types"
  let .slice elem ← underlying t|stuck "slices.overlaps: slice type expected"
  let size ← sizeOf elem
  match (some ⟨b,off,none⟩:Option Addr),(some ⟨g,o,none⟩:Option Addr) with
  | some a,some b =>
   if la=0∨lb=0∨size=0 then pure (Value.bool false)
   else if a.block != b.block && (← frozen a) && (← frozen b) then unsupported .addressObserved
   else do
    if a.block != b.block then do
     noView a;noView b
     if ← mayBeOne a b then return Value.bool ((← choose (.extern "sameAddr.stringBytes" 2)) == 1)
    pure (Value.bool (a.block == b.block && a.off<b.off+lb * size && b.off<a.off+la * size))
  | _,_=>pure (Value.bool false)) W=_
 by_cases h0:la=0∨lb=0∨sz=0
 ·simp [run_underlying ht,hz,h0]
 ·cases hf1:W.frozen? ⟨b,off,none⟩ <;> cases hf2:W.frozen? ⟨b,n1+1,none⟩ <;>
   simp [run_underlying ht,hz,h0,hnb,hnb',frozen,noView,viewAt,mayBeOne,stringish,shape,Sem.run,hsa,hsb,hfg,hf1,hf2]
theorem zj9 {W:World} {b k:Nat} {v:Value} (o:Obj) (h:W.cell? ⟨b,k,none⟩=some v):(W.alloc o).cell? ⟨b,k,none⟩=some v:=by
 have hlt:b<W.heap.size:=by
  rcases zY20 b W.heap.size with h'|h'
  ·exact h'
  ·simp [World.cell?,zY15 h'] at h
 rw [← h];simp only [World.cell?,World.alloc,zY3n,Nat.ne_of_lt hlt,if_false]
theorem z0g0 {W:World} {g o b k:Nat} {us:List Value} (h:b≠g):(W.setCells g o us).cell? ⟨b,k,none⟩=W.cell? ⟨b,k,none⟩:=by
 simp only [World.cell?,z2f g us o W b h]
theorem z0g1 {W:World} {o:Oper} {a:Act} {K:Act→World→Prop} {Q:Exit→Act→World→Prop} (d s:Operand) (t t':TypeId)
  (ho:o.op = .call { callee:=.builtin .copy,args:=#[d,s],argTypes:=#[t,t'] }) (v u:Value) (hd:a.eval d=v) (hs:a.eval s=u) {v':Value} {w':World}
  (hr:(Builtin.copy_ #[t,t'] o.type #[v,u]).run P W = .ok v' w') (h:K (a.put o.dst v') w'):o.wp P a W K Q:=by
 unfold Oper.wp execOp;simp only [ho,resolve,invoke,builtin,Sem.run_bind,Sem.run_pure,Result.andThen_ok,zY3d,zY1t,zY30,hd,hs,hr];exact h
theorem zt1 {W:World} {ops:Array Oper} {rest:List Oper} {o:Oper} {a:Act} {Q:Exit→Act→World→Prop} (hgd:o.guard=none) (d s:Operand) (t t':TypeId)
  (ho:o.op = .call { callee:=.builtin .copy,args:=#[d,s],argTypes:=#[t,t'] }) (v u:Value) (hd:a.eval d=v) (hs:a.eval s=u) {v':Value} {w':World}
  (hr:(Builtin.copy_ #[t,t'] o.type #[v,u]).run P W = .ok v' w') (h:wpList P ops Q rest (a.put o.dst v') w'):wpList P ops Q (o::rest) a W :=
 wpList_plain hgd fun _ hK=>z0g1 d s t t' ho v u hd hs hr (hK _ _ h)
theorem zja {ops:Array Oper} {o:Oper} {a:Act} {W:World} {K:Act→World→Prop} {Q:Exit→Act→World→Prop} {E:Prop}
  (hg:o.guard=none) (d x:Operand) (dT sT:TypeId) (hop:o.op=Op.call { callee:=Callee.builtin Builtin.copy,args:=#[d,x],argTypes:=#[dT,sT] })
  (v u:Value) (hd:a.eval d=v) (hx:a.eval x=u) {v':Value} {w':World} (hr:(Builtin.copy_ #[dT,sT] o.type #[v,u]).run P W = .ok v' w') (hK:K (a.put o.dst v') w') :
  if Region.wanted o (yielded ops a.tmps)=true then Oper.wp P o a W K Q else E:=by
 have hw:Region.wanted o (yielded ops a.tmps)=true:=by simp [Region.wanted,hg]
 rw [if_pos hw];unfold Oper.wp;simp [execOp,hop,resolve,invoke,builtin,hd,hx,hr,Result.andThen];exact hK
theorem z0g2 {α:Type} [Enc α] {f e sz:Nat} (hn:Enc.n α=sz) (hpos:0<sz) (hen:En P f)
  (hroom:∀ (W:World) (g n cap i b off c:Nat) (vs cs:List Value),W.heap[g]? = some (.cells vs.toArray e (0,0))→n<cap→cap≤maxLen→vs.length=cap * sz→(∀ u ∈ vs.take (n * sz),u.oneCell'=true)→i<n→b≠g→cs.length=sz→(∀ j v,cs[j]? = some v→W.cell? ⟨b,off+j,none⟩=some v)→(∀ v ∈ cs,v.oneCell'=true) →
   Calls P f #[.slice (some ⟨g,0,none⟩) n cap,.int .i64 i,.slice (some ⟨b,off,none⟩) 1 c] W fun r W'=>r = .returned (.slice (some ⟨g,0,none⟩) (n+1) cap)∧W'=((W.drewN 1).setCells g ((i+1) * sz) ((vs.take (n * sz)).drop (i * sz))).setCells g (i * sz) cs)
  (hend:∀ (W:World) (base:Nat) (v:Value) (n b off c:Nat) (olds cs:List Value),W.ownsRow base e sz v n olds→base≤W.heap.size→n≤1000000→cs.length=sz→(∀ j v,cs[j]? = some v→W.cell? ⟨b,off+j,none⟩=some v)→(∀ v ∈ cs,v.oneCell'=true) →
   Calls P f #[v,.int .i64 n,.slice (some ⟨b,off,none⟩) 1 c] W fun r W'=>∃ v',r = .returned v'∧W'.ownsRow base e sz v' (n+1) (olds++cs)∧W.grownBy W' v.ownBlock∧(v'.ownBlock=v.ownBlock∨v'.ownBlock=some W.heap.size))
  (hgrow:∀ (W:World) (g n cap i b off c:Nat) (vs cs:List Value),W.heap[g]? = some (.cells vs.toArray e (0,0))→n=cap→n≤1000000→vs.length=cap * sz→(∀ u ∈ vs.take (n * sz),u.oneCell'=true)→i<n→cs.length=sz→(∀ j v,cs[j]? = some v→W.cell? ⟨b,off+j,none⟩=some v)→(∀ v ∈ cs,v.oneCell'=true) →
   Calls P f #[.slice (some ⟨g,0,none⟩) n cap,.int .i64 i,.slice (some ⟨b,off,none⟩) 1 c] W fun r W'=>∃ G,∃ row:List Value,n+1≤G∧G≤maxLen∧row.length=G * sz∧r = .returned (.slice (some ⟨W.heap.size,0,none⟩) (n+1) G)∧(∀ u ∈ row.take (i * sz),u.oneCell'=true)∧row.take (i * sz)=vs.take (i * sz) ∧
    W'=(((W.alloc (.cells row.toArray e)).drew.setCells W.heap.size (i * sz) cs).drew).setCells W.heap.size ((i+1) * sz) ((vs.take (n * sz)).drop (i * sz))) :
  Meets P (spD (fun x:List α × Int × List α=>0≤x.2.1∧x.2.1≤x.1.length∧x.1.length≤1000000∧x.2.2.length=1) fun x=>x.1.take x.2.1.toNat++x.2.2++x.1.drop x.2.1.toNat) f ⟨[.mine e sz,.one,.one],[(false,[.fresh e sz])],false⟩:=by
 refine ⟨fun h=>(by cases h),?_⟩;intro e' sz' ps hps;injection hps with h1 h2
 injection h1 with h1 h1'
 subst h1;subst h1';subst h2;intro W F base v xs cells ds args rs hF hbase hvF hxs hown hreps hargs hsp;obtain ⟨⟨l,i,ys⟩,⟨hi0,hil,hlm,hy1⟩,he,rfl⟩:=zi hsp;have he':Dt.l sz xs::ds=Dt.l (Enc.n α) (l.map Enc.e)::[I i,.l (Enc.n α) (ys.map Enc.e)]:=he;injection he' with g1 g2
 injection g1 with g3 g1
 subst g2;subst g1;simp only at hi0 hil hlm hy1;obtain ⟨y,rfl⟩:=List.length_eq_one_iff.1 hy1;obtain ⟨va,vas,rfl,ha,hargs⟩:=z1f hargs;obtain ⟨vb,vbs,rfl,hb,hargs⟩:=z1f hargs;obtain rfl:=z2a hargs;obtain ⟨rfl,_⟩:=z2z ha;obtain ⟨a,rfl⟩:∃ a:Nat,i=a:=⟨i.toNat,by omega⟩
 have hlen:(l.map Enc.e).length=l.length:=zY0w _;have hyl:(Enc.e y).length=sz:=by rw [Enc.len,hn]
 rw [hlen] at hown;have hml:cells.length=l.length * sz:=hown.1;obtain ⟨b,off,c,cs,rfl,hFb,hcl,hcell,hcr⟩:∃ b off c,∃ cs:List Value,vb = .slice (some ⟨b,off,none⟩) 1 c∧F b∧cs.length=sz∧(∀ j v,cs[j]? = some v→W.cell? ⟨b,off+j,none⟩=some v)∧Reps W F (Enc.e y) cs:=by
  generalize hd:Dt.l (Enc.n α) ([y].map Enc.e)=d at hb
  cases hb with
  | l sz0 zs A n c b o vs k0 k1 k2 k3 k4 k5 k6 =>
   injection hd with e1 e2
   subst e2;obtain ⟨rfl,hFb⟩:=k4 (by simp);refine ⟨b,o,c,(List.range sz).map (vs 0),by rw [k0];rfl,hFb,by simp,fun j v hv=>?_,Reps.of (by simp [hyl]) fun j d v hd hv=>?_⟩
   ·obtain ⟨hj,rfl⟩:=z2o hv
    have h:=k5 0 j (Enc.e y) _ rfl (zY03 (by omega))
    rwa [Nat.zero_mul,zY2c] at h
   ·obtain ⟨hj,rfl⟩:=z2o hv
    exact k6 0 j (Enc.e y) d rfl hd
  | _=>cases hd
 have hc1:∀ v ∈ cs,v.oneCell'=true:=hcr.one;refine ⟨(l.take a++[y]++l.drop a).map Enc.e,?_,fun x hx=>?_,?_⟩
 ·show [Dt.l (Enc.n α) _]=_
  rw [hn];rfl
 ·obtain ⟨z,_,rfl⟩:=zY2q.1 hx
  rw [Enc.len,hn]
 have hl2:((l.take a++[y]++l.drop a).map (Enc.e (α:=α))).length=l.length+1:=by
  rw [zY0w,zY06,zY06,zY0b,zY0y,zY1o];omega
 have hflat:((l.take a++[y]++l.drop a).map (Enc.e (α:=α))).flatten=(l.map Enc.e).flatten.take (a * sz)++Enc.e y++(l.map Enc.e).flatten.drop (a * sz):=by
  rw [zY24,zY24,List.map_take,List.map_drop,zY2m,zY2m,zfp a hxs,zme a hxs];simp
 rw [hl2,hflat];have hle3:a * sz≤l.length * sz:=zY1r _ (by omega);have hnew:∀ {W':World},Agree F W W'→Reps W' F ((l.map Enc.e).flatten.take (a * sz)++Enc.e y++(l.map Enc.e).flatten.drop (a * sz)) (cells.take (a * sz)++cs++cells.drop (a * sz)):=fun hag=>(((hreps.take (a * sz)).append hcr).append (hreps.drop (a * sz))).mono hag (fun _ h=>h)
 have hnl:(cells.take (a * sz)++cs++cells.drop (a * sz)).length=(l.length+1) * sz:=by
  rw [zY06,zY06,zY0b,zY0y,hcl,hml,zY28 hle3,zY1x];omega
 by_cases hend':a=l.length
 ·subst hend'
  refine .inl ⟨hen.run _ _,(hend W base v l.length b off c cells cs hown hbase (by omega) hcl hcell hc1).mono ?_⟩;rintro r W' ⟨v',rfl,q1,q2,q3⟩;have hag:Agree F W W':=fun k hk=>q2.block k (hF.1 k hk) fun h=>hvF k h.symm hk
  refine ⟨_,rfl,v',_,⟨fun h=>(by cases h),fun _=>rfl⟩,q2,?_,hnew hag,fun k hk=>?_⟩
  ·rw [zY0p (by omega),zY27 (by omega),zY23];exact q1
  ·rcases q3 with q3|q3
   ·exact .inl (q3 ▸ hk)
   ·rw [q3] at hk;injection hk with hk;exact .inr (zY3e hk)
 ·rcases hown.2 with ⟨rfl,h0⟩|⟨g,cap,cur,rfl,hbg,hg,h1,h2,hcs,htk⟩
  ·omega
  ·have hcs':cur.toList.length=cap * sz:=by simpa using hcs
   have hones:∀ u ∈ cur.toList.take (l.length * sz),u.oneCell'=true:=by rw [htk];exact hreps.one
   have hgF:¬ F g:=hvF g rfl;have hbg':b≠g:=fun h=>hgF (h ▸ hFb)
   have hg':W.heap[g]? = some (.cells cur.toList.toArray e (0,0)):=by simpa using hg
   have hal:a<l.length:=by omega
   have hmvl:((cur.toList.take (l.length * sz)).drop (a * sz)).length=(l.length - a) * sz:=by rw [htk,zY0y,hml,Nat.sub_mul]
   have e1:(a+1) * sz=a * sz+sz:=zY1x ..;have e2:(a+1) * sz+(l.length - a) * sz=(l.length+1) * sz:=by rw [← Nat.add_mul];congr 1;omega
   have hsplit:∀ vs':List Value,(l.length+1) * sz≤vs'.length→vs'.take (a * sz)=cells.take (a * sz)→(z1v (z1v vs' ((a+1) * sz) ((cur.toList.take (l.length * sz)).drop (a * sz))) (a * sz) cs).take ((l.length+1) * sz)=cells.take (a * sz)++cs++cells.drop (a * sz):=by
    intro vs' hl' ht';have k1:a * sz+cs.length≤(z1v vs' ((a+1) * sz) ((cur.toList.take (l.length * sz)).drop (a * sz))).length:=by rw [z21];omega
    rw [z8o k1,z8o (by rw [hmvl];omega),hcl,hmvl,e2,htk];have k2:(vs'.take ((a+1) * sz)++cells.drop (a * sz)++vs'.drop ((l.length+1) * sz)).take (a * sz)=cells.take (a * sz):=by
     rw [zY1b,zY1s (by rw [zY0b];omega),zY38,zY28 (by omega),ht']
    have k3:(vs'.take ((a+1) * sz)++cells.drop (a * sz)++vs'.drop ((l.length+1) * sz)).drop (a * sz+sz)=cells.drop (a * sz)++vs'.drop ((l.length+1) * sz):=by
     rw [zY1b,List.drop_append,zY27 (by rw [zY0b];omega),zY0b,zY28 (by omega),e1,Nat.sub_self,zY11,zY3g]
    rw [k2,k3,← zY1b,zY1s (by rw [hnl];omega),zY0p (by rw [hnl];omega)]
   rcases zY20 l.length cap with hr|hr
   ·have hcapm:(l.length+1) * sz≤cap * sz:=zY1r _ hr
    refine .inl ⟨hen.run _ _,(hroom W g l.length cap a b off c cur.toList cs hg' hr h2 hcs' hones hal hbg' hcl hcell hc1).mono ?_⟩;rintro r W' ⟨rfl,rfl⟩;have hfar:∀ k,k≠g→(((W.drewN 1).setCells g ((a+1) * sz) ((cur.toList.take (l.length * sz)).drop (a * sz))).setCells g (a * sz) cs).heap[k]? = W.heap[k]?:=by
     intro k hk;rw [z2f g _ _ _ k hk,z2f g _ _ _ k hk];rfl
    have hag:Agree F W (((W.drewN 1).setCells g ((a+1) * sz) ((cur.toList.take (l.length * sz)).drop (a * sz))).setCells g (a * sz) cs):=fun k hk=>hfar k fun h=>hgF (h ▸ hk)
    refine ⟨_,rfl,_,_,⟨fun h=>(by cases h),fun _=>rfl⟩,?_,⟨hnl,.inr ⟨g,cap,_,rfl,hbg,z26 cs (a * sz) _ _ (z26 _ ((a+1) * sz) (W.drewN 1) _ hg'),hr,h2,by rw [zY2i,z21,z21];exact hcs',?_⟩⟩,hnew hag,fun _ h=>.inl h⟩
    ·obtain ⟨k1,k2,k3,k4⟩:=z3q g cs (a * sz) ((W.drewN 1).setCells g ((a+1) * sz) ((cur.toList.take (l.length * sz)).drop (a * sz)))
     obtain ⟨q1,q2,q3,q4⟩:=z3q g ((cur.toList.take (l.length * sz)).drop (a * sz)) ((a+1) * sz) (W.drewN 1);exact ⟨k1.trans q1,k2.trans q2,k3.trans q3,by rw [k4,q4];exact zY0m _,fun k hk hne=>hfar k fun h=>hne (by rw [h];rfl)⟩
    ·rw [zY2z]
     refine hsplit _ (by omega) ?_;rw [← htk,zY38,zY28 hle3]
   ·have hcap:l.length=cap:=by omega
    refine .inl ⟨hen.run _ _,(hgrow W g l.length cap a b off c cur.toList cs hg' hcap (by omega) hcs' hones hal hcl hcell hc1).mono ?_⟩;rintro r W' ⟨G,row,r1,r2,r3,rfl,r4,r5,rfl⟩;have hGm:(l.length+1) * sz≤G * sz:=zY1r _ r1;generalize hW0:(W.alloc (.cells row.toArray e)).drew=W0;have hs0:W0.heap.size=W.heap.size+1:=by rw [← hW0];show (W.heap.push _).size=_;simp
    have hn0:W0.heap[W.heap.size]? = some (.cells row.toArray e (0,0)):=by rw [← hW0];exact heap_alloc_new W _
    have ho0:∀ k,k<W.heap.size→W0.heap[k]? = W.heap[k]?:=fun k hk=>by
     rw [← hW0]
     show (W.alloc (.cells row.toArray e)).heap[k]? = _
     simp only [World.alloc,zY3n,Nat.ne_of_lt hk,if_false]
    have hfar:∀ k,k<W.heap.size→(((W0.setCells W.heap.size (a * sz) cs).drew).setCells W.heap.size ((a+1) * sz) ((cur.toList.take (l.length * sz)).drop (a * sz))).heap[k]? = W.heap[k]?:=by
     intro k hk;rw [z2f _ _ _ _ k (by omega)]
     show (W0.setCells W.heap.size (a * sz) cs).heap[k]? = _
     rw [z2f _ _ _ _ k (by omega),ho0 k hk]
    obtain ⟨z1,z2,z3⟩:W0.os=W.os∧W0.tape=W.tape∧W0.output=W.output:=by rw [← hW0];exact ⟨rfl,rfl,rfl⟩
    have hag:Agree F W (((W0.setCells W.heap.size (a * sz) cs).drew).setCells W.heap.size ((a+1) * sz) ((cur.toList.take (l.length * sz)).drop (a * sz))):=fun k hk=>hfar k (hF.1 k hk)
    have hheap:=z26 ((cur.toList.take (l.length * sz)).drop (a * sz)) ((a+1) * sz) ((W0.setCells W.heap.size (a * sz) cs).drew) _ (z26 cs (a * sz) W0 _ hn0);refine ⟨_,rfl,_,_,⟨fun h=>(by cases h),fun _=>rfl⟩,?_,⟨hnl,.inr ⟨W.heap.size,G,_,rfl,hbase,hheap,r1,r2,by rw [zY2i,z21,z21];exact r3,?_⟩⟩,hnew hag,fun k hk=>?_⟩
    ·obtain ⟨k1,k2,k3,k4⟩:=z3q W.heap.size ((cur.toList.take (l.length * sz)).drop (a * sz)) ((a+1) * sz) ((W0.setCells W.heap.size (a * sz) cs).drew)
     obtain ⟨q1,q2,q3,q4⟩:=z3q W.heap.size cs (a * sz) W0;refine ⟨k1.trans (q1.trans z1),k2.trans (q2.trans z2),k3.trans (q3.trans z3),?_,fun k hk hne=>hfar k hk⟩;rw [k4]
     show W.heap.size≤(W0.setCells W.heap.size (a * sz) cs).heap.size
     rw [q4,hs0];omega
    ·rw [zY2z]
     have hswap:z1v (z1v row (a * sz) cs) ((a+1) * sz) ((cur.toList.take (l.length * sz)).drop (a * sz))=z1v (z1v row ((a+1) * sz) ((cur.toList.take (l.length * sz)).drop (a * sz))) (a * sz) cs:=by
      have hL:a * sz+cs.length≤row.length:=by omega
      have hR:(a+1) * sz+((cur.toList.take (l.length * sz)).drop (a * sz)).length≤row.length:=by rw [hmvl];omega
      rw [z8o (vs:=z1v row (a * sz) cs) (by rw [z21];exact hR),z8o hL,z8o (vs:=z1v row ((a+1) * sz) _) (by rw [z21];exact hL),z8o hR];have t1:(row.take (a * sz)++cs++row.drop (a * sz+cs.length)).take ((a+1) * sz)=row.take (a * sz)++cs:=by
       rw [zY1s (by rw [zY06,zY0b];omega),zY0p (by rw [zY06,zY0b];omega)]
      have t2:(row.take (a * sz)++cs++row.drop (a * sz+cs.length)).drop ((a+1) * sz+((cur.toList.take (l.length * sz)).drop (a * sz)).length)=row.drop ((a+1) * sz+((cur.toList.take (l.length * sz)).drop (a * sz)).length):=by
       rw [List.drop_append,zY27 (by rw [zY06,zY0b];omega),zY11,List.drop_drop];congr 1;rw [zY06,zY0b];omega
      have t3:(row.take ((a+1) * sz)++((cur.toList.take (l.length * sz)).drop (a * sz))++row.drop ((a+1) * sz+((cur.toList.take (l.length * sz)).drop (a * sz)).length)).take (a * sz)=row.take (a * sz):=by
       rw [zY1b,zY1s (by rw [zY0b];omega),zY38,zY28 (by omega)]
      have t4:(row.take ((a+1) * sz)++((cur.toList.take (l.length * sz)).drop (a * sz))++row.drop ((a+1) * sz+((cur.toList.take (l.length * sz)).drop (a * sz)).length)).drop (a * sz+cs.length)=((cur.toList.take (l.length * sz)).drop (a * sz))++row.drop ((a+1) * sz+((cur.toList.take (l.length * sz)).drop (a * sz)).length):=by
       rw [zY1b,List.drop_append,zY27 (by rw [zY0b];omega),zY11,zY0b,zY28 (by omega),hcl,e1,Nat.sub_self,zY3g]
      rw [t1,t2,t3,t4,zY1b,zY1b]
     rw [hswap];refine hsplit _ (by omega) ?_;rw [r5,← htk,zY38,zY28 hle3]
    ·simp only [Value.ownBlock,zY00] at hk
     exact .inr (zY3e hk)
end
end
section
open Go.RowKit
set_option maxRecDepth 100000
set_option maxHeartbeats 4000000
theorem z0jf {W:World} {g n cap i j:Nat} {vs:List Value} (hg:W.heap[g]? = some (.cells vs.toArray 101 (0,0))) (hn:n≤cap) (hm:cap≤maxLen) (hcs:vs.length=cap * 6) (h1:∀ u ∈ vs.take (n * 6),u.oneCell'=true) (hij:i<j) (hj:j≤n) :
  Calls Tryz.prog 120 #[.slice (some ⟨g,0,none⟩) n cap,.int .i64 i,.int .i64 j] W fun e w'=>e = .returned (.slice (some ⟨g,0,none⟩) (n - (j - i)) cap) ∧
   w'=((W.drewN 1).setCells g (i * 6) ((vs.take (n * 6)).drop (j * 6))).setCells g ((i+(n - j)) * 6) (Builtin.zeroCells #[.int .i64 0,.int .i64 0,.int .i64 0,.slice none 0 0,.int .i64 0,.bool false] (j - i)).toList:=by
 have hm':cap≤9223372036854775807:=hm;obtain ⟨news,hnews⟩:∃ news,news=(vs.take (n * 6)).drop (j * 6):=⟨_,rfl⟩
 have hlen:news.length=(n - j) * 6:=by rw [hnews,zY0y,zY0b];omega
 have hg1:W.drew.heap[g]? = some (.cells vs.toArray 101 (0,0)):=hg;obtain ⟨A,hA,hsrc⟩:∃ A:Addr,(if cap=j then some (⟨g,0,none⟩:Addr) else some ⟨g,j * 6,none⟩)=some A∧Hid (∀ t u,news[t]? = some u→W.drew.cell? (A.add t)=some u):=by
  by_cases h:cap=j
  ·refine ⟨⟨g,0,none⟩,by simp [h],fun t u hu=>?_⟩
   have:=(zY02.1 hu).1;omega
  ·refine ⟨⟨g,j * 6,none⟩,by simp [h],fun t u hu=>?_⟩
   have ht:=(zY02.1 hu).1;rw [hnews,zY1v,zY18,if_pos (by omega)] at hu;rw [z4x,cell_of_row _ g _ _ 101 (0,0) hg1];simpa using hu
 have s1:Hid (news.length=(n - j) * 6):=hlen;have s2:Hid (∀ u ∈ news,u.oneCell'=true):=by
  intro u hu;rw [hnews] at hu;exact h1 u (zY2d hu)
 have s3:Hid (∀ t,t<news.length→(W.drew.cell? ⟨g,0+i * 6+t,none⟩).isSome=true∧W.drew.frozen? ⟨g,0+i * 6+t,none⟩=false):=by
  intro t ht;have:=zgg (fr:=(0,0)) hg1 (o:=0+i * 6) (n:=news.length) (by omega);exact this t ht
 obtain ⟨W1,hW1⟩:∃ W1,W1=W.drew.setCells g (0+i * 6) news:=⟨_,rfl⟩
 have hg2:W1.heap[g]? = some (.cells (z1v vs (0+i * 6) news).toArray 101 (0,0)):=by rw [hW1];exact z26 _ _ _ _ hg1
 have hcl:∀ ty,(Builtin.clear_ #[25] ty #[.slice (some ⟨g,(i+(n - j)) * 6,none⟩) (n - (i+(n - j))) (cap - (i+(n - j)))]).run Tryz.prog W1 = .ok (.tuple #[]) (W1.setCells g ((i+(n - j)) * 6) (Builtin.zeroCells #[.int .i64 0,.int .i64 0,.int .i64 0,.slice none 0 0,.int .i64 0,.bool false] (n - (i+(n - j)))).toList) :=
  fun ty=>z0fy (sz:=6) Tryz.underlying25 Tryz.zeroValue101 rfl (by simp [Value.cells,Value.oneCell']) hg2 (by rw [z21];omega)
 have hW:Hid (W1=W.drew.setCells g (0+i * 6) news):=hW1;have hic:i≤cap:=by omega
 have hjc:j≤cap:=by omega
 have hnews:=Lib.hid hnews;clear hW1 hg2 hg hg1 hlen;go_enter Tryz.func120,Tryz.ntmps120;go_wp2_with fail;obtain ⟨ht,ie,zv,he,hz0,hsz,hbz,hzs⟩:=zob;go_region_law (refine step_append_room rfl (.tmp 22) (.tmp 25) 25 rfl 101 ie 6 ht he hsz g 0 i cap (by simp [Act.eval,Act.put]) A (n - j) (cap - j) news (by simp [Act.eval,Act.put,hA]) s1.out hsrc.out s2.out (by omega) s3.out ?_;rw [← hW.out]);go_wp2;go_ret;refine ⟨by rw [show n - (j - i)=i+(n - j) by omega];rfl,?_⟩;rw [hW.out,zY0q,hnews.out,show n - (i+(n - j))=j - i by omega];rfl
theorem z0jg {W:World} {A:Option Addr} {n cap i:Nat} (hi:i≤n) (hn:n≤cap) (hm:cap≤maxLen):Calls Tryz.prog 120 #[.slice A n cap,.int .i64 i,.int .i64 i] W fun r W'=>r = .returned (.slice A n cap)∧W'=W:=by
 have hm':cap≤9223372036854775807:=hm;have hic:i≤cap:=by omega
 go_enter Tryz.func120,Tryz.ntmps120;go_wp2_with fail
 all_goals (go_ret;exact ⟨rfl,rfl⟩)
noncomputable def z99:z9:=spD (fun x:List Coin × Int × Int=>0≤x.2.1∧x.2.1≤x.2.2∧x.2.2≤x.1.length) fun x=>x.1.take x.2.1.toNat++x.1.drop x.2.2.toNat
theorem z0g3:Meets Tryz.prog z99 120 ⟨[.mine 101 6,.one,.one],[(false,[.fresh 101 6])],false⟩ :=
 z0fz rfl (by decide) (z23 (fn:=Tryz.f120) (by kernel_rfl) (by kernel_rfl) (by kernel_rfl)) #[.int .i64 0,.int .i64 0,.int .i64 0,.slice none 0 0,.int .i64 0,.bool false] rfl (fun W A n cap i h1 h2 h3=>z0jg h1 h2 h3) (fun W g n cap i j vs h1 h2 h3 h4 h5 h6 h7=>z0jf h1 h2 h3 h4 h5 h6 h7)
end
section
open Go.RowKit
set_option maxRecDepth 100000
set_option maxHeartbeats 4000000
theorem z0jh {W:World} {g o b off la ca lb cb:Nat} {vs:List Value} (hg:W.heap[g]? = some (.cells vs.toArray 101 (0,0))) (hvs:0<vs.length) (hne:b≠g) {u:Value} (hb:W.cell? ⟨b,off,none⟩=some u) :
  (callFunc 147 #[.slice (some ⟨b,off,none⟩) la ca,.slice (some ⟨g,o,none⟩) lb cb]).run Tryz.prog W = .ok (.value (.bool false)) W:=by
 rw [run_callFunc_extern Tryz.func147 (by kernel_rfl) (by kernel_rfl) (by kernel_rfl) (e:=Extern.SlicesOverlaps.overlaps #[25,25] #[4]) (by kernel_rfl),
  z01f (e:=101) (sz:=6) Tryz.underlying25 Tryz.sizeOf101 hg hvs hne hb]
 rfl
theorem z0ji {W:World} {g n cap i b off c:Nat} {vs cs:List Value} (hg:W.heap[g]? = some (.cells vs.toArray 101 (0,0))) (hn:n<cap) (hm:cap≤maxLen) (hcs:vs.length=cap * 6) (h1:∀ u ∈ vs.take (n * 6),u.oneCell'=true) (hi:i<n) (hne:b≠g) (hcl:cs.length=6) (hb:∀ j v,cs[j]? = some v→W.cell? ⟨b,off+j,none⟩=some v) (h1c:∀ v ∈ cs,v.oneCell'=true) :
  Calls Tryz.prog 119 #[.slice (some ⟨g,0,none⟩) n cap,.int .i64 i,.slice (some ⟨b,off,none⟩) 1 c] W fun r W'=>r = .returned (.slice (some ⟨g,0,none⟩) (n+1) cap)∧W'=((W.drewN 1).setCells g ((i+1) * 6) ((vs.take (n * 6)).drop (i * 6))).setCells g (i * 6) cs:=by
 have hm':cap≤9223372036854775807:=hm;obtain ⟨mv,hmv⟩:∃ mv,mv=(vs.take (n * 6)).drop (i * 6):=⟨_,rfl⟩
 have hlen:mv.length=(n - i) * 6:=by rw [hmv,zY0y,zY0b];omega
 have hg1:W.drew.heap[g]? = some (.cells vs.toArray 101 (0,0)):=hg;obtain ⟨u0,hu0⟩:∃ u,W.cell? ⟨b,off,none⟩=some u:=by
  have h:=hb 0 (cs[0]'(by omega)) (zY03 (by omega));exact ⟨_,h⟩
 have hov:∀ lb cb,(callFunc 147 #[.slice (some ⟨b,off,none⟩) 1 c,.slice (some ⟨g,(i+1) * 6,none⟩) lb cb]).run Tryz.prog W = .ok (.value (.bool false)) W:=fun lb cb=>z0jh hg (by omega) hne hu0
 have hsz:(Tryz.prog.info? 101).map (·.size)=some 6:=by kernel_rfl
 have hcp1:∀ ty dc sc,(Builtin.copy_ #[25,25] ty #[.slice (some ⟨g,(i+1) * 6,none⟩) (n - i) dc,.slice (some ⟨g,i * 6,none⟩) (n+1 - i) sc]).run Tryz.prog W.drew = .ok (goInt (Nat.min (n+1 - i) (n - i):Nat)) (W.drew.setCells g ((i+1) * 6) mv):=fun ty dc sc =>
  zfo Tryz.underlying25 hsz hg1 (by rw [hlen];show _=min _ _ * 6;rw [Nat.min_def];split <;> omega) (fun j v hj=>by
   rw [z4x,cell_of_row _ g _ _ 101 (0,0) hg1];have hlt:=(zY02.1 hj).1;rw [hmv,zY1v,zY18,if_pos (by omega)] at hj;simpa using hj) (by omega) (fun v hv=>h1 v (by rw [hmv] at hv;exact zY2d hv))
 obtain ⟨W1,hW1⟩:∃ W1,W1=W.drew.setCells g ((i+1) * 6) mv:=⟨_,rfl⟩
 have hg2:W1.heap[g]? = some (.cells (z1v vs ((i+1) * 6) mv).toArray 101 (0,0)):=by rw [hW1];exact z26 _ _ _ _ hg1
 have hcp2:∀ ty dc,(Builtin.copy_ #[25,25] ty #[.slice (some ⟨g,i * 6,none⟩) (n+1 - i) dc,.slice (some ⟨b,off,none⟩) 1 c]).run Tryz.prog W1 = .ok (goInt (Nat.min 1 (n+1 - i):Nat)) (W1.setCells g (i * 6) cs):=fun ty dc =>
  zfo Tryz.underlying25 hsz hg2 (by rw [hcl];show _=min _ _ * 6;rw [Nat.min_def];split <;> omega) (fun j v hj=>by
   rw [z4x,hW1,z0g0 hne];exact hb j v hj) (by rw [z21];omega) h1c
 rw [← hW1] at hcp1;have hw1:IntKind.i64.wrap ((i:Int)+1)=(i:Int)+1:=by rw [IntKind.wrap_i64];omega
 have hw2:IntKind.i64.wrap ((n:Int)+1)=(n:Int)+1:=by rw [IntKind.wrap_i64];omega
 have hz2:¬ ((i:Int)=(n:Int)):=by omega
 have hp1:(i:Int)≤(n:Int)+1:=by omega
 have hp0:(0:Int)≤(i:Int)+1:=by omega
 have hb1:¬ (cap=i+1):=by omega
 have hb4:¬ (cap=i):=by omega
 have hin:i≤n:=by omega
 have hic:i≤cap:=by omega
 have hW:=Lib.hid hW1;have hmv':=Lib.hid hmv;clear hmv hlen hg hg1 hg2 hW1 hcs h1 hb h1c hcl hu0;go_enter Tryz.func119,Tryz.ntmps119;go_wp2_with (simp only [hov]);go_region_law (refine zja rfl _ _ 25 25 rfl _ _ (by simp [Act.eval,Act.put]) (by simp [Act.eval,Act.put]) (hcp1 _ _ _) ?_);go_wp2_with (at_builtin;refine zt1 rfl _ _ 25 25 rfl _ _ rfl rfl (hcp2 _ _) ?_);go_ret;refine ⟨rfl,?_⟩;rw [hW.out,hmv'.out];rfl
theorem z0mn {W:World} {base:Nat} {v:Value} {n b off c:Nat} {olds cs:List Value} (hown:W.ownsRow base 101 6 v n olds) (hbase:base≤W.heap.size) (hn:n≤1000000) (hcl:cs.length=6) (hb:∀ j v,cs[j]? = some v→W.cell? ⟨b,off+j,none⟩=some v) (h1c:∀ v ∈ cs,v.oneCell'=true) :
  Calls Tryz.prog 119 #[v,.int .i64 n,.slice (some ⟨b,off,none⟩) 1 c] W fun r W'=>∃ v',r = .returned v'∧W'.ownsRow base 101 6 v' (n+1) (olds++cs)∧W.grownBy W' v.ownBlock∧(v'.ownBlock=v.ownBlock∨v'.ownBlock=some W.heap.size):=by
 obtain ⟨ht,ie,zv,he,hz0,hsz,hbz,hzs⟩:=zob;have hrun:∀ ty,∃ v' W',(Builtin.append_ #[25,25] ty #[v,.slice (some ⟨b,off,none⟩) 1 c]).run Tryz.prog W = .ok v' W'∧W'.ownsRow base 101 6 v' (n+1) (olds++cs)∧W.grownBy W' v.ownBlock∧(v'.ownBlock=v.ownBlock∨v'.ownBlock=some W.heap.size):=fun ty=>by
  obtain ⟨v',W',hr,h2,h3,_,h5⟩:=run_append_own_at (P:=Tryz.prog) W base 25 ty 101 ie zv 6 64 ht he hz0 hsz hbz hzs (by decide) v n olds hown ⟨b,off,none⟩ 1 c cs (by omega) (fun j u hj=>by rw [z4x];exact hb j u hj) h1c (by unfold maxLen;omega) (by omega) hbase;exact ⟨v',W',hr,h2,h3,h5⟩
 obtain ⟨v',W',hr,h2,h3,h4⟩:=hrun 25;have hv:∃ A cap,v = .slice A n cap∧n≤cap∧cap≤maxLen:=by
  rcases hown.2 with ⟨rfl,h0⟩|⟨g,cap,cur,rfl,_,_,h1,h2,_⟩
  ·exact ⟨none,0,by rw [h0],by omega,by unfold maxLen;omega⟩
  ·exact ⟨_,cap,rfl,h1,h2⟩
 obtain ⟨A,cap,rfl,hc1,hc2⟩:=hv;have hc3:cap≤9223372036854775807:=hc2;have R:=Lib.hid (And.intro h2 (And.intro h3 h4));clear h2 h3 h4 hown hrun hb h1c hcl hbase;go_enter Tryz.func119,Tryz.ntmps119;go_wp2_with (at_builtin;refine Lib.wpList_append_run _ rfl _ _ _ _ rfl _ _ rfl rfl _ _ hr ?_)
 all_goals (go_ret;have R':=R.out;first|exact ⟨v',rfl,R'⟩|(subst_vars;exact ⟨v',rfl,R'⟩))
theorem z0jj {W:World} {g n cap i b off c:Nat} {vs cs:List Value} (hg:W.heap[g]? = some (.cells vs.toArray 101 (0,0))) (hn:n=cap) (hm:n≤1000000) (hcs:vs.length=cap * 6) (h1:∀ u ∈ vs.take (n * 6),u.oneCell'=true) (hi:i<n) (hcl:cs.length=6) (hb:∀ j v,cs[j]? = some v→W.cell? ⟨b,off+j,none⟩=some v) (h1c:∀ v ∈ cs,v.oneCell'=true) :
  Calls Tryz.prog 119 #[.slice (some ⟨g,0,none⟩) n cap,.int .i64 i,.slice (some ⟨b,off,none⟩) 1 c] W fun r W'=>∃ G,∃ row:List Value,n+1≤G∧G≤maxLen∧row.length=G * 6∧r = .returned (.slice (some ⟨W.heap.size,0,none⟩) (n+1) G)∧(∀ u ∈ row.take (i * 6),u.oneCell'=true)∧row.take (i * 6)=vs.take (i * 6) ∧
   W'=(((W.alloc (.cells row.toArray 101)).drew.setCells W.heap.size (i * 6) cs).drew).setCells W.heap.size ((i+1) * 6) ((vs.take (n * 6)).drop (i * 6)):=by
 obtain ⟨ht,ie,zv,he,hz0,hszI,hbz,hzs⟩:=zob;have hz1:¬ ((1:Int)=0):=by decide
 have hz2:¬ ((i:Int)=(n:Int)):=by omega
 have hz3:(cap:Int)<(n:Int)+1:=by omega
 have hsz:(Tryz.prog.info? 101).map (·.size)=some 6:=by kernel_rfl
 have hgl:g<W.heap.size:=by
  rcases zY20 g W.heap.size with h|h
  ·exact h
  ·rw [zY15 h] at hg;cases hg
 have hbl:b<W.heap.size:=block_lt_of_cell (hb 0 _ (zY03 (by omega)));have hkk:(n:Int)+1 - (i:Int)=((n+1 - i:Nat):Int):=by omega
 have hik:i+(n+1 - i)=n+1:=by omega
 have hg1:W.drew.heap[g]? = some (.cells vs.toArray 101 (0,0)):=hg;have hold:(Builtin.firstCells ie.size i (.slice (some ⟨g,0,none⟩) i cap)).run Tryz.prog W.drew = .ok (vs.take (i * 6)).toArray W.drew:=by
  rw [hszI];exact run_firstCells_some W.drew 6 i ⟨g,0,none⟩ i cap (vs.take (i * 6)) (by rw [zY0b];omega) (fun j v hj=>by
   rw [z4x,cell_of_row _ g _ _ 101 (0,0) hg1];rw [zY18] at hj
   split at hj
   ·simpa using hj
   ·cases hj)
 have hrz:∀ ty,(Builtin.append_ #[25,3] ty #[.slice (some ⟨g,0,none⟩) i cap,.int .i64 ((n:Int)+1 - (i:Int))]).run Tryz.prog W =
   .ok (.slice (some ⟨W.heap.size,0,none⟩) (n+1) (grownCap W (n+1) cap 101)) (W.drew.alloc (.cells ((vs.take (i * 6)).toArray++Builtin.zeroCells zv.cells (n+1 - i)++Builtin.zeroCells zv.cells (grownCap W (n+1) cap 101 - (n+1))) 101)):=fun ty=>by
  have h:=Lib.run_append_grow_zeros W 25 3 ty 101 ie zv .i64 .i64 ht Tryz.underlying3 he hz0 (some ⟨g,0,none⟩) i cap (vs.take (i * 6)) hold (n+1 - i) (by omega) (by omega) (by omega) (by omega) (by rw [hbz];omega) (by rw [hbz,hik];exact growslice_fits (by omega) (by omega));rw [hik] at h;rw [hkk];exact h
 obtain ⟨G,hG⟩:∃ G,G=grownCap W (n+1) cap 101:=⟨_,rfl⟩
 obtain ⟨row,hrow⟩:∃ row:List Value,row=vs.take (i * 6)++(Builtin.zeroCells zv.cells (n+1 - i)).toList++(Builtin.zeroCells zv.cells (G - (n+1))).toList:=⟨_,rfl⟩
 have hrowA:row.toArray=(vs.take (i * 6)).toArray++Builtin.zeroCells zv.cells (n+1 - i)++Builtin.zeroCells zv.cells (G - (n+1)):=by rw [hrow];simp
 rw [← hG,← hrowA] at hrz;have hGn:n+1≤G:=by rw [hG];exact grownCap_ge W _ _ _
 have hGm:G≤maxLen:=by rw [hG];exact grownCap_le_maxLen W (n+1) cap 101 (by unfold maxLen;omega)
 have hG63:G≤9223372036854775807:=hGm;have hrl:row.length=G * 6:=by
  rw [hrow];simp only [zY06,zY0b,zY2e,Builtin.zeroCells,Array.size_map,Array.size_range,hzs];omega
 have hrt:row.take (i * 6)=vs.take (i * 6):=by
  rw [hrow,zY1b,zY1s (by rw [zY0b];omega),zY38,Nat.min_self]
 obtain ⟨mv,hmv⟩:∃ mv,mv=(vs.take (n * 6)).drop (i * 6):=⟨_,rfl⟩
 have hlen:mv.length=(n - i) * 6:=by rw [hmv,zY0y,zY0b];omega
 have hcpA:∀ (W':World),W'.heap[W.heap.size]? = some (.cells row.toArray 101 (0,0))→(∀ k v,W.cell? ⟨b,k,none⟩=some v→W'.cell? ⟨b,k,none⟩=some v)→∀ ty dc,(Builtin.copy_ #[25,25] ty #[.slice (some ⟨W.heap.size,i * 6,none⟩) (n+1 - i) dc,.slice (some ⟨b,off,none⟩) 1 c]).run Tryz.prog W' = .ok (goInt (Nat.min 1 (n+1 - i):Nat)) (W'.setCells W.heap.size (i * 6) cs):=fun W' h1' h2' ty dc =>
  zfo ht hsz h1' (by rw [hcl];show _=min _ _ * 6;rw [Nat.min_def];split <;> omega) (fun j v hj=>by rw [z4x];exact h2' _ v (hb j v hj)) (by omega) h1c
 have hcpB:∀ (W':World) (vs':List Value),vs'.length=G * 6→W'.heap[W.heap.size]? = some (.cells vs'.toArray 101 (0,0))→W'.heap[g]? = some (.cells vs.toArray 101 (0,0))→∀ ty dc sc,(Builtin.copy_ #[25,25] ty #[.slice (some ⟨W.heap.size,(i+1) * 6,none⟩) (n - i) dc,.slice (some ⟨g,i * 6,none⟩) (n - i) sc]).run Tryz.prog W' = .ok (goInt (Nat.min (n - i) (n - i):Nat)) (W'.setCells W.heap.size ((i+1) * 6) mv):=fun W' vs' hl' h1' h2' ty dc sc =>
  zfo ht hsz h1' (by rw [hlen];show _=min _ _ * 6;rw [Nat.min_def];split <;> omega) (fun j v hj=>by
   rw [z4x,cell_of_row _ g _ _ 101 (0,0) h2'];have hlt:=(zY02.1 hj).1;rw [hmv,zY1v,zY18,if_pos (by omega)] at hj;simpa using hj) (by omega) (fun v hv=>h1 v (by rw [hmv] at hv;exact zY2d hv))
 have hA:=hcpA ((W.alloc (.cells row.toArray 101)).drew) (heap_alloc_new W _) (fun k v h=>zj9 _ h);have hA':=hcpA (W.drew.alloc (.cells row.toArray 101)) (heap_alloc_new W.drew _) (fun k v h=>zj9 (W:=W.drew) _ h);have hgold:(W.alloc (.cells row.toArray 101)).heap[g]? = some (.cells vs.toArray 101 (0,0)):=by
  have:(W.alloc (.cells row.toArray 101)).heap[g]? = W.heap[g]?:=by simp only [World.alloc,zY3n,Nat.ne_of_lt hgl,if_false]
  rw [this];exact hg
 have hB:=hcpB (((W.alloc (.cells row.toArray 101)).drew.setCells W.heap.size (i * 6) cs).drew) (z1v row (i * 6) cs) (by rw [z21,hrl]) (z26 _ _ (W.alloc (.cells row.toArray 101)).drew _ (heap_alloc_new W _)) (by
  show ((W.alloc (.cells row.toArray 101)).drew.setCells W.heap.size (i * 6) cs).heap[g]? = _
  rw [z2f _ _ _ _ _ (by omega)];exact hgold)
 have hw1:IntKind.i64.wrap ((i:Int)+1)=(i:Int)+1:=by rw [IntKind.wrap_i64];omega
 have hw2:IntKind.i64.wrap ((n:Int)+1)=(n:Int)+1:=by rw [IntKind.wrap_i64];omega
 have hp1:(i:Int)≤(n:Int)+1:=by omega
 have hp0:(0:Int)≤(i:Int)+1:=by omega
 have hGi:¬ (G=i):=by omega
 have hGi1:¬ (G=i+1):=by omega
 have hci:¬ (cap=i):=by omega
 have hin:i≤n:=by omega
 have R:Hid (n+1≤G∧G≤maxLen∧row.length=G * 6∧(∀ u ∈ row.take (i * 6),u.oneCell'=true)∧row.take (i * 6)=vs.take (i * 6)∧mv=(vs.take (n * 6)).drop (i * 6)):=Lib.hid ⟨hGn,hGm,hrl,fun u hu=>h1 u (by rw [hrt] at hu;exact (List.take_sublist_take_left (by omega)).subset hu),hrt,hmv⟩;have hic:i≤cap:=by omega
 have hn':=Lib.hid hn;clear hn hmv hlen hg hg1 hgold hcs h1 hb h1c hcl hcpA hcpB hrt hrl hrow hrowA hG hGm hold hkk hik;go_enter Tryz.func119,Tryz.ntmps119;go_wp2_with ((at_builtin;refine Lib.wpList_append_run _ rfl _ _ _ _ rfl _ _ rfl rfl _ _ (hrz _) ?_));go_region_law (refine zja rfl _ _ 25 25 rfl _ _ (by simp [Act.eval,Act.put]) (by simp [Act.eval,Act.put]) (hB _ _ _) ?_);go_wp2;go_ret;obtain ⟨r1,r2,r3,r4,r5,r6⟩:=R.out;exact ⟨G,row,r1,r2,r3,rfl,r4,r5,by rw [r6]⟩
noncomputable def zbs:z9:=spD (fun x:List Coin × Int × List Coin=>0≤x.2.1∧x.2.1≤x.1.length∧x.1.length≤1000000∧x.2.2.length=1) fun x=>x.1.take x.2.1.toNat++x.2.2++x.1.drop x.2.1.toNat
theorem z0g4:Meets Tryz.prog zbs 119 ⟨[.mine 101 6,.one,.one],[(false,[.fresh 101 6])],false⟩ :=
 z0g2 rfl (by decide) (z23 (fn:=Tryz.f119) (by kernel_rfl) (by kernel_rfl) (by kernel_rfl)) (fun W g n cap i b off c vs cs h1 h2 h3 h4 h5 h6 h7 h8 h9 h10=>z0ji h1 h2 h3 h4 h5 h6 h7 h8 h9 h10) (fun W base v n b off c olds cs h1 h2 h3 h4 h5 h6=>z0mn h1 h2 h3 h4 h5 h6) (fun W g n cap i b off c vs cs h1 h2 h3 h4 h5 h6 h7 h8 h9=>z0jj h1 h2 h3 h4 h5 h6 h7 h8 h9)
end
section
open Go.RowKit
set_option maxRecDepth 100000
set_option maxHeartbeats 4000000
theorem zt2 (l:List Coin) (i j:Int) (h:0≤i∧i≤j∧j≤l.length):z99 [.l 6 (l.map zd),I i,I j]=some [.l 6 ((l.take i.toNat++l.drop j.toNat).map zd)]:=zg (p:=fun x:List Coin × Int × Int=>0≤x.2.1∧x.2.1≤x.2.2∧x.2.2≤x.1.length) (f:=fun x:List Coin × Int × Int=>x.1.take x.2.1.toNat++x.1.drop x.2.2.toNat) (l,i,j) h
theorem zg4 (l:List Coin) (i:Int) (c:Coin) (h:0≤i∧i≤l.length∧l.length≤1000000):zbs [.l 6 (l.map zd),I i,.l 6 ([c].map zd)]=some [.l 6 ((l.take i.toNat++[c]++l.drop i.toNat).map zd)]:=zg (p:=fun x:List Coin × Int × List Coin=>0≤x.2.1∧x.2.1≤x.1.length∧x.1.length≤1000000∧x.2.2.length=1) (f:=fun x:List Coin × Int × List Coin=>x.1.take x.2.1.toNat++x.2.2++x.1.drop x.2.1.toNat) (l,i,[c]) ⟨h.1,h.2.1,h.2.2,rfl⟩
noncomputable def z7n:z9:=spD (fun _:List Coin × Tx × Int × Int=>True) fun x=>zp x.1 x.2.1 x.2.2.1 x.2.2.2
theorem zt3 (l:List Coin) (t:Tx) (nm h:Int):z7n [.l 6 (l.map zd),I t.height,.l 3 (t.ins.map eIn),.l 2 (t.outs.map z17),I nm,I h]=some [.l 6 ((zp l t nm h).1.map zd),.l 6 ((zp l t nm h).2.1.map zd),I (zp l t nm h).2.2]:=zg (f:=fun x:List Coin × Tx × Int × Int=>zp x.1 x.2.1 x.2.2.1 x.2.2.2) (l,t,nm,h) trivial
theorem zmf {a b:Dt} {n:Int} {pk:List PK} {l:Bool} {g:Bool}:z6m ⟨pk,[(false,[.pure]),(g,[.pure]),(false,[.scal])],l⟩ [a,b,I n]:=by
 intro i d hi hd
 match i,hi,hd with
 | 0,hi,_=>simp [zn] at hi
 | 1,hi,_=>simp [zn] at hi
 | 2,_,hd=>simp only [zY2a,zY04,zY00] at hd;subst hd;rfl
 | i+3,hi,_=>simp [zn] at hi
attribute [local irreducible] z00 spD z1e zb zf z1z z16 z3y z7
theorem zt4 (t:Tx):zbj [I t.height,.l 3 (t.ins.map eIn),.l 2 (t.outs.map z17)]=some [I (zf t)]:=zg (f:=fun t:Tx=>zf t) t trivial
def z07r:T :=
 .lets [.bin .add 28 (zI 1)] [] (.lets [.call 13 [22,28,44] 0] [] (.lets [.bin .add 23 (zI 1)] [] (.again 0 [19,20,43,45,.v
 46])))
def z07s:T :=
 .ite 41 (.ret [.c (.nil 6),.c (.nil 6),zI 8]) (.lets [.mk 6 [[31,32,33,34,35,36]]] [] (.lets [.app 6 21 42] [] z07r))
def z07t:T :=
 .ite 38 (.ret [.c (.nil 6),.c (.nil 6),zI 10]) (.lets [.call 15 [34,27,5] 0,.call 15 [34,27,5] 1] [] (.lets [.not 39] [] z07s))
def z07u:T :=
 .lets [.bin .add 28 (zI 1)] [] (.lets [.call 13 [22,28,42] 0] [] (.lets [.bin .add 23 (zI 1)] [] (.again 0 [19,20,41,43,.v
 44])))
def z07v:T :=
 .ite 39 (.ret [.c (.nil 6),.c (.nil 6),zI 8]) (.lets [.mk 6 [[31,32,33,34,35,36]]] [] (.lets [.app 6 21 40] [] z07u))
def z07w:T :=
 .ite 36 (.lets [.bin .add 35 (zI 2)] [] (.lets [.bin .lss 5 37] [] z07t)) (.lets [.call 15 [34,27,5] 0,.call 15 [34,27,5]
 1] [] (.lets [.not 37] [] z07v))
def z07x:T :=
 .lets [.idx 22 28 0,.idx 22 28 1,.idx 22 28 2,.idx 22 28 3,.idx 22 28 4,.idx 22 28 5] [] z07w
def z07y:T :=
 .lets [.call 6 [22,25,26] 0,.call 6 [22,25,26] 1] [] (.lets [.not 29] [] (.ite 30 (.ret [.c (.nil 6),.c (.nil 6),zI 7]) (.lets [] [.inr
 6 22 28] z07x)))
def z07z:T :=
 .lets [.mk 6 [[4,29,31,35,5,15]]] [] (.lets [.call 14 [28,33,36] 0] [] (.lets [.bin .add 29 (zI 1)] [] (.again 1 [26,27,.v
 37,38])))
def z080:T :=
 .lets [.call 6 [28,4,29] 0,.call 6 [28,4,29] 1] [] (.ite 34 (.ret [.c (.nil 6),.c (.nil 6),zI 6]) (.lets [.call 10 [32] 0] []
 z07z))
def z01g:T :=
 .lets [.call 8 [28] 0] [] (.lets [.bin .neq 31 (zI 0)] [] (.ite 32 (.ret [.c (.nil 6),.c (.nil 6),31]) (.ret [28,21,zI 0])))
def z01h:T :=
 .lets [.bin .lss 29 25] [] (.ite 30 (.lets [] [.inr 2 3 29] (.lets [.idx 3 29 0,.idx 3 29 1] [] z080)) z01g)
def z01i:T :=
 .ite 24 (.lets [] [.inr 3 2 23] (.lets [.idx 2 23 0,.idx 2 23 1,.idx 2 23 2] [] z07y)) (.lets [.len 3] [] (.loop [.c (.nil
 6),zI 0,22,zI 0] z01h))
def z01j:T :=
 .lets [.call 11 [0] 0] [] (.lets [.len 2] [] (.loop [.c (.nil 6),zI 0,.c (.nil 6),17,zI 0] (.lets [.bin .lss 23 18] [] z01i)))
def z01k:T :=
 .lets [.bin .add 27 (zI 1)] [] (.lets [.call 13 [21,27,43] 0] [] (.lets [.bin .add 22 (zI 1)] [] (.again 0 [18,19,42,44,.v
 45])))
def z01l:T :=
 .ite 40 (.ret [.c (.nil 6),.c (.nil 6),zI 8]) (.lets [.mk 6 [[30,31,32,33,34,35]]] [] (.lets [.app 6 20 41] [] z01k))
def z01m:T :=
 .ite 37 (.ret [.c (.nil 6),.c (.nil 6),zI 10]) (.lets [.call 15 [33,26,5] 0,.call 15 [33,26,5] 1] [] (.lets [.not 38] [] z01l))
def z01n:T :=
 .lets [.bin .add 27 (zI 1)] [] (.lets [.call 13 [21,27,41] 0] [] (.lets [.bin .add 22 (zI 1)] [] (.again 0 [18,19,40,42,.v
 43])))
def z01o:T :=
 .ite 38 (.ret [.c (.nil 6),.c (.nil 6),zI 8]) (.lets [.mk 6 [[30,31,32,33,34,35]]] [] (.lets [.app 6 20 39] [] z01n))
def z01p:T :=
 .ite 35 (.lets [.bin .add 34 (zI 2)] [] (.lets [.bin .lss 5 36] [] z01m)) (.lets [.call 15 [33,26,5] 0,.call 15 [33,26,.v
 5] 1] [] (.lets [.not 36] [] z01o))
def z01q:T :=
 .lets [.idx 21 27 0,.idx 21 27 1,.idx 21 27 2,.idx 21 27 3,.idx 21 27 4,.idx 21 27 5] [] z01p
def z01r:T :=
 .lets [.call 6 [21,24,25] 0,.call 6 [21,24,25] 1] [] (.lets [.not 28] [] (.ite 29 (.ret [.c (.nil 6),.c (.nil 6),zI 7]) (.lets [] [.inr
 6 21 27] z01q)))
def z01s:T :=
 .lets [.mk 6 [[4,30,32,36,5,15]]] [] (.lets [.call 14 [29,34,37] 0] [] (.lets [.bin .add 30 (zI 1)] [] (.again 1 [27,28,.v
 38,39])))
def z01t:T :=
 .lets [.call 6 [29,4,30] 0,.call 6 [29,4,30] 1] [] (.ite 35 (.ret [.c (.nil 6),.c (.nil 6),zI 6]) (.lets [.call 10 [33] 0] []
 z01s))
def z01u:T :=
 .lets [.call 8 [29] 0] [] (.lets [.bin .neq 32 (zI 0)] [] (.ite 33 (.ret [.c (.nil 6),.c (.nil 6),32]) (.ret [29,20,zI 0])))
def z01v:T :=
 .lets [.bin .lss 30 26] [] (.ite 31 (.lets [] [.inr 2 3 30] (.lets [.idx 3 30 0,.idx 3 30 1] [] z01t)) z01u)
def z01w:T :=
 .ite 25 (.ret [.c (.nil 6),.c (.nil 6),zI 9]) (.lets [.len 3] [] (.loop [.c (.nil 6),zI 0,21,zI 0] z01v))
def z01x:T :=
 .ite 23 (.lets [] [.inr 3 2 22] (.lets [.idx 2 22 0,.idx 2 22 1,.idx 2 22 2] [] z01r)) (.lets [.call 12 [1,2,3,.v
 20] 0] [] (.lets [.bin .lss 24 (zI 0)] [] z01w))
def z01y:T :=
 .lets [.call 11 [0] 0] [] (.lets [.len 2] [] (.loop [.c (.nil 6),zI 0,.c (.nil 6),16,zI 0] (.lets [.bin .lss 22 17] [] z01x)))
def z01z:T :=
 .lets [.bin .eql 14 (zI 0)] [] (.ite 15 (.lets [.bin .neq 1 5] [] (.ite 16 (.ret [.c (.nil 6),.c (.nil 6),zI 4]) z01j))
 z01y)
def z020:T :=
 .ite 12 (.ret [.c (.nil 6),.c (.nil 6),zI 3]) (.lets [.bin .gtr 5 (zI 1000)] [] (.ite 13 (.ret [.c (.nil 6),.c (.nil 6),zI 3])
 (.lets [.len 2] [] z01z)))
def z021:T :=
 .lets [.bin .gtr 4 (zI 120)] [] (.ite 11 (.ret [.c (.nil 6),.c (.nil 6),zI 3]) (.lets [.bin .lss 5 (zI 1)] [] z020))
def z022:T :=
 .ite 9 (.ret [.c (.nil 6),.c (.nil 6),8]) (.lets [.bin .lss 4 (zI 1)] [] (.ite 10 (.ret [.c (.nil 6),.c (.nil 6),zI 3]) z021))
def z023:T :=
 .lets [.bin .neq 6 (zI 0)] [] (.ite 7 (.ret [.c (.nil 6),.c (.nil 6),6]) (.lets [.call 16 [1,2,3] 0] [] (.lets [.bin .neq 8 (.c (.i .i64
 0))] [] z022)))
def zhk:T :=
 .lets [.call 8 [0] 0] [] z023
theorem z0g5:Meets Tryz.prog z7n 73 ⟨[.one,.agg 3,.one,.one],[(false,[.pure]),(true,[.pure]),(false,[.scal])],false⟩:=by
 refine z5r (sp:=(z07 [(6,zbl),(8,z51),(10,z3c),(11,z71),(12,z72),(13,z99),(14,zbs),(15,z94),(16,zbj)])) (sigs:=z0i) (cut:=[]) (hints:=[⟨19,[.r 8 101 6,.t 10,.r 0 101 6,.t 111,.z 84,.z 83,.z 78]⟩]) (fns:=[z6s 117 Tryz.f117 [⟨2,[.r 6 101 6,.t 8,.r 7 101 6,.r 0 101 6,.t 19]⟩] [],z6s 116 Tryz.f116 [] []]) (dep:=2) (pool:=240) (fn:=Tryz.f73) (t:=zhk) (by kernel_rfl) (by kernel_rfl) (by kernel_rfl) ?_ ?_ ?_
 ·exact (z1x (fn:=Tryz.f117) (by kernel_rfl) (by kernel_rfl) (by kernel_rfl) (by kernel_rfl) (by kernel_rfl) (z1x (fn:=Tryz.f116) (by kernel_rfl) (by kernel_rfl) (by kernel_rfl) (by kernel_rfl) (by kernel_rfl) z6t))
 ·exact (z01 (L:=[(6,zbl),(8,z51),(10,z3c),(11,z71),(12,z72),(13,z99),(14,zbs),(15,z94),(16,zbj)]) ⟨za rfl z0f2,za rfl zrc,za rfl zh3,za rfl z013,za rfl z0ab,za rfl z0g3,za rfl z0g4,za rfl z06y,za rfl z0f0,trivial⟩)
 ·rintro ds rs - h
  obtain ⟨⟨l,t,nm,ht⟩,-,rfl,rfl⟩:=zi h;clear h;refine ⟨⟨t.ins.length+t.outs.length+1,?_⟩,zmf⟩
  show den _ _ zhk [.l 6 (l.map zd),I t.height,.l 3 (t.ins.map eIn),.l 2 (t.outs.map z17),I nm,I ht] []=ret (zp l t nm ht)
  unfold zhk zp
  repeat' (first|refine dq1 ?_|refine dqk rfl (z86 _) ?_|refine dqk rfl (zt4 _) ?_|exact z5 rfl rfl|((first|refine tR ?_ ?_|refine tO ?_ ?_) <;> intro h)|fail)
  all_goals
   have ok:CoinsOK l:=(z1r l).1 (zY0s.1 (by assumption));have okt:TxOK t:=z7j (zY0s.1 (by assumption));have hl:=ok.len;have hti:=okt.ins;have hto:=okt.outs
   repeat' (first|refine dq1 ?_|refine dqk rfl (zhb _ ok.short) ?_|fail)
  ·(refine zw (fun (st:List Coin × List Coin) k=>[.l 6 (([]:List Coin).map zd),I 0,.l 6 (st.2.map zd),.l 6 (st.1.map zd),I k]) (fun (st:List Coin × List Coin) _ (xs:List In)=>z2x ht z1d (fun r s=>z2r nm ht (decide ((t.ins.length:Int)=0)) z1d (z4p s) r 0 t.outs) st.1 st.2 xs) (fun st k=>SpI l st k) (l,[]) t.ins ?_ ?_ ?_ ?_ ?_;rfl;exact ⟨ok.sorted,zY0m _,ok.good,rfl,fun c hc=>by cases hc⟩;omega)
   ·rintro ⟨r,s⟩ k x xs hx hd hk hI again hag
    rename_i h0 _;omega
   ·rintro ⟨r,s⟩ hI again
    rw [z2x]
    repeat' (first|refine dq1 ?_|refine dqF ?_|fail)
    (refine zw (fun (r:List Coin) k=>[.l 6 (([]:List Coin).map zd),I 0,.l 6 (r.map zd),I k]) (fun (r:List Coin) k (os:List Out)=>z2r nm ht (decide ((t.ins.length:Int)=0)) z1d (z4p s) r k os) (fun r k=>z06 r∧r.length≤l.length+k) r t.outs ?_ ?_ ?_ ?_ ?_;rfl;exact ⟨hI.sorted,hI.len⟩;omega)
    ·rintro r k o os hx hd hk ⟨hs,hrl⟩ again' hag
     rw [z2r];have hol:=z90 (okt.good o (zY0f hx)).2.2;have hpl:=zk1 r ⟨nm,k⟩;have e1:((zo r ⟨nm,k⟩:Int)).toNat=zo r ⟨nm,k⟩:=by omega
     repeat' (first|refine dq1 ?_|refine dqc ?_|refine dqm ?_|refine dqK rfl (zb0 r ⟨nm,k⟩ hs (by omega)) ?_|refine dqk rfl (z5v _ (by omega)) ?_|exact z5 rfl rfl|refine tB (fun h=>?_) fun h=>?_|refine dqT ?_|fail)
     have hno:=h;refine z4 (z28 (r:=[(⟨⟨nm,k⟩,o,ht,decide ((t.ins.length:Int)=0)⟩:Coin)].map zd) rfl rfl (by simp)) ?_;refine z4 (z35 rfl (zg4 _ _ _ ⟨by omega,by omega,by omega⟩) rfl) ?_;refine z4 (z7f rfl rfl (by omega)) ?_;rw [e1];exact z6 rfl rfl (hag _ ⟨z7m hs (c:=⟨⟨nm,k⟩,o,ht,decide ((t.ins.length:Int)=0)⟩) hno,by simp only [zY06,zY0b,zY0y,zY1o];omega⟩)
    ·rintro r hr again'
     rw [z2r];unfold z4p
     repeat' (first|refine dq1 ?_|refine dqk rfl (z86 _) ?_|exact z5 rfl rfl|refine tR (fun h=>?_) fun h=>?_|refine dqF ?_|fail)
  ·(refine zw (fun (st:List Coin × List Coin) k=>[.l 6 (([]:List Coin).map zd),I 0,.l 6 (st.2.map zd),.l 6 (st.1.map zd),I k]) (fun (st:List Coin × List Coin) _ (xs:List In)=>z2x ht z1d (fun r s=>if z16 t s<0 then z1d 9 else z2r nm ht (decide ((t.ins.length:Int)=0)) z1d (z4p s) r 0 t.outs) st.1 st.2 xs) (fun st k=>SpI l st k) (l,[]) t.ins ?_ ?_ ?_ ?_ ?_;rfl;exact ⟨ok.sorted,zY0m _,ok.good,rfl,fun c hc=>by cases hc⟩;omega)
   ·rintro ⟨r,s⟩ k x xs hx hd hk hI again hag
    rw [z2x];simp only;have hs:=hI.sorted;have hrl:=hI.len;simp only at hs hrl
    repeat' (first|refine dq1 ?_|refine dqc ?_|refine dqm ?_|refine dqK rfl (zb0 _ _ hs (by omega)) ?_|exact z5 rfl rfl|refine tN (fun h=>?_) fun h=>?_|refine dqT ?_|fail)
    obtain ⟨hlt,hp⟩:=(zk2 hs x.p).1 h;have hc:r[zo r x.p]? = some r[zo r x.p]:=zY03 hlt;rw [hc];generalize r[zo r x.p]=c at *;have hcb:=z3m (hI.good c (zY0f hc));have e1:((zo r x.p:Int)).toNat=zo r x.p:=by omega
    have e2:((zo r x.p:Int)+1).toNat=zo r x.p+1:=by omega
    simp only [zY1y];have hxo:=hx;have hx:=hc
    repeat' (first|refine dq1 ?_|refine dqc ?_|refine dqm ?_|refine dqK rfl (zlx _ _ _) ?_|exact z5 rfl rfl|((first|refine tR ?_ ?_|refine tB ?_ ?_|refine tN ?_ ?_) <;> intro h)|fail)
    all_goals (refine z4 (z28 (r:=[c].map zd) rfl rfl (by simp)) ?_;refine z4 (zam (l:=s) (l':=[c]) rfl rfl (by have:=hI.cnt;simp only at this ⊢;simp only [zY1o];omega)) ?_;refine z4 (z7f rfl rfl (by omega)) ?_;refine z4 (z35 rfl (zt2 _ _ _ ⟨by omega,by omega,by omega⟩) rfl) ?_;refine z4 (z7f rfl rfl (by omega)) ?_;rw [e1,e2];exact z6 rfl rfl (hag (r.take (zo r x.p)++r.drop (zo r x.p+1),s++[c]) (hI.cut hc)))
   ·rintro ⟨r,s⟩ hI again
    rw [z2x]
    repeat' (first|refine dq1 ?_|refine dqk rfl (zj7 t s (hI.fee okt)) ?_|exact z5 rfl rfl|refine tR (fun h=>?_) fun h=>?_|refine dqF ?_|fail)
    (refine zw (fun (r:List Coin) k=>[.l 6 (([]:List Coin).map zd),I 0,.l 6 (r.map zd),I k]) (fun (r:List Coin) k (os:List Out)=>z2r nm ht (decide ((t.ins.length:Int)=0)) z1d (z4p s) r k os) (fun r k=>z06 r∧r.length≤l.length+k) r t.outs ?_ ?_ ?_ ?_ ?_;rfl;exact ⟨hI.sorted,hI.len⟩;omega)
    ·rintro r k o os hx hd hk ⟨hs,hrl⟩ again' hag
     rw [z2r];have hol:=z90 (okt.good o (zY0f hx)).2.2;have hpl:=zk1 r ⟨nm,k⟩;have e1:((zo r ⟨nm,k⟩:Int)).toNat=zo r ⟨nm,k⟩:=by omega
     repeat' (first|refine dq1 ?_|refine dqc ?_|refine dqm ?_|refine dqK rfl (zb0 r ⟨nm,k⟩ hs (by omega)) ?_|refine dqk rfl (z5v _ (by omega)) ?_|exact z5 rfl rfl|refine tB (fun h=>?_) fun h=>?_|refine dqT ?_|fail)
     have hno:=h;refine z4 (z28 (r:=[(⟨⟨nm,k⟩,o,ht,decide ((t.ins.length:Int)=0)⟩:Coin)].map zd) rfl rfl (by simp)) ?_;refine z4 (z35 rfl (zg4 _ _ _ ⟨by omega,by omega,by omega⟩) rfl) ?_;refine z4 (z7f rfl rfl (by omega)) ?_;rw [e1];exact z6 rfl rfl (hag _ ⟨z7m hs (c:=⟨⟨nm,k⟩,o,ht,decide ((t.ins.length:Int)=0)⟩) hno,by simp only [zY06,zY0b,zY0y,zY1o];omega⟩)
    ·rintro r hr again'
     rw [z2r];unfold z4p
     repeat' (first|refine dq1 ?_|refine dqk rfl (z86 _) ?_|exact z5 rfl rfl|refine tR (fun h=>?_) fun h=>?_|refine dqF ?_|fail)
end
section
open Go.RowKit
set_option maxRecDepth 100000
set_option maxHeartbeats 4000000
attribute [local irreducible] z00 spD z1e zb zf z7
def z024 (l:List Coin):Prop:=∀ c ∈ l,c.o.lock.length≤8796093022208
noncomputable def z081:z9:=spD (fun x:List Coin × Tx × Int × List Coin=>z024 x.2.2.2) fun x=>z5y x.1 x.2.1 x.2.2.1 x.2.2.2
end
section
open Go.RowKit
theorem hasP_mem {l:List Coin} {p:Point}:z1n l p=true↔∃ c ∈ l,c.p=p:=by
 unfold z1n;rw [zY32];constructor
 ·rintro ⟨c,hc,h⟩;exact ⟨c,hc,of_decide_eq_true h⟩
 ·rintro ⟨c,hc,h⟩;exact ⟨c,hc,decide_eq_true h⟩
theorem hasP_not {l:List Coin} {p:Point}:z1n l p=false↔∀ c ∈ l,c.p≠p:=by
 rw [← zY33,hasP_mem];constructor
 ·intro h c hc he;exact h ⟨c,hc,he⟩
 ·rintro h ⟨c,hc,he⟩;exact h c hc he
theorem zjb {l:List Coin} (h:z06 l) {c d:Coin} (hc:c ∈ l) (hd:d ∈ l) (hp:c.p=d.p):c=d:=by
 obtain ⟨i,hi,rfl⟩:=zY2f hc;obtain ⟨j,hj,rfl⟩:=zY2f hd;rcases Nat.lt_trichotomy i j with hij|rfl|hij
 ·have:=z8j h hij hj;rw [hp] at this;exact absurd this (z5u _)
 ·rfl
 ·have:=z8j h hij hi;rw [hp] at this;exact absurd this (z5u _)
theorem z025 {l:List Coin} (h:z06 l) {c:Coin} (hc:c ∈ l):l[zo l c.p]? = some c:=by
 obtain ⟨hlt,hp⟩:=(zk2 h c.p).1 (hasP_mem.2 ⟨c,hc,rfl⟩);rw [zY03 hlt];exact congrArg some (zjb h (zY1l hlt) hc hp)
theorem z0mo {l:List Coin} (h:z06 l) {p:Point} (hp:z1n l p=true):∃ c,l[zo l p]? = some c∧c ∈ l∧c.p=p:=by
 obtain ⟨c,hc,rfl⟩:=hasP_mem.1 hp;exact ⟨c,z025 h hc,hc,rfl⟩
theorem z0ad {l:List Coin} (h:z06 l) {c:Coin} {k:Nat} (hk:l[k]? = some c) {d:Coin}:d ∈ l.take k++l.drop (k+1)↔d ∈ l∧d.p≠c.p:=by
 obtain ⟨hlt,rfl⟩:=zY02.1 hk;have hsplit:l=l.take k++l[k]::l.drop (k+1):=by rw [List.getElem_cons_drop,zY0v]
 have hs:z06 (l.take k++l[k]::l.drop (k+1)):=by rw [← hsplit];exact h
 obtain ⟨_,h2,h3⟩:=zY2k.1 hs;have h2':=zY1q.1 h2;constructor
 ·intro hd
  refine ⟨?_,?_⟩
  ·rcases zY0z.1 hd with hd|hd
   ·exact zY2j hd
   ·exact zY2d hd
  ·rcases zY0z.1 hd with hd|hd
   ·intro e;have:=h3 d hd l[k] (zY0h ..);rw [e] at this;exact z5u _ this
   ·intro e;have:=h2'.1 d hd;rw [e] at this;exact z5u _ this
 ·rintro ⟨hd,hne⟩
  rw [hsplit] at hd;rcases zY0z.1 hd with hd|hd
  ·exact List.mem_append_left _ hd
  ·rcases zY0i.1 hd with rfl|hd
   ·exact absurd rfl hne
   ·exact List.mem_append_right _ hd
theorem put_mem {l:List Coin} {c d:Coin} {k:Nat}:d ∈ l.take k++[c]++l.drop k↔d=c∨d ∈ l:=by
 have:d ∈ l↔d ∈ l.take k∨d ∈ l.drop k:=by rw [← zY0z,zY0v]
 rw [zY0z,zY0z,zY19,this];constructor
 ·rintro ((h|h)|h)
  ·exact .inr (.inl h)
  ·exact .inl h
  ·exact .inr (.inr h)
 ·rintro (h|h|h)
  ·exact .inl (.inr h)
  ·exact .inl (.inl h)
  ·exact .inr h
theorem z0g6 {l:List Coin} {c:Coin} {k:Nat} (hk:l[k]? = some c):zh l=zh (l.take k++l.drop (k+1))+c.o.coin:=by
 obtain ⟨hlt,rfl⟩:=zY02.1 hk;have hsplit:l=l.take k++l[k]::l.drop (k+1):=by rw [List.getElem_cons_drop,zY0v]
 have e:zh l=zh (l.take k++l[k]::l.drop (k+1)):=by rw [← hsplit]
 rw [e,z4g,z4g,zh];omega
theorem z0g7 {l:List Coin} {c:Coin} {k:Nat}:zh (l.take k++[c]++l.drop k)=zh l+c.o.coin:=by
 have e:zh l=zh (l.take k++l.drop k):=by rw [zY0v]
 rw [e,z4g,z4g,z4g,zh,zh];omega
structure Fine (h:Int) (x:In) (c:Coin):Prop where
 p:c.p=x.p
 ripe:c.reward=true→c.height+2≤h
 opens:(z1z c.o.lock x.key h).1=true
inductive Spent (h:Int):List Coin→List Coin→List In→List Coin→List Coin→Prop
 | nil (r s):Spent h r s [] r s
 | cons {r s x xs r' s' c}:c ∈ r→r[zo r x.p]? = some c→Fine h x c→Spent h (r.take (zo r x.p)++r.drop (zo r x.p+1)) (s++[c]) xs r' s'→Spent h r s (x::xs) r' s'
theorem zmg {ρ:Type} {h:Int} {bad:Int→ρ} {K:List Coin→List Coin→ρ} {r s:List Coin} {x:In} {xs:List In} {c:Coin} (hm:c ∈ r) (hc:r[zo r x.p]? = some c) (hf:Fine h x c):z2x h bad K r s (x::xs)=z2x h bad K (r.take (zo r x.p)++r.drop (zo r x.p+1)) (s++[c]) xs:=by
 have hp:z1n r x.p=true:=hasP_mem.2 ⟨c,hm,hf.p⟩;rw [z2x,if_pos hp,hc];simp only [zY1y];rw [if_pos hf.opens]
 by_cases hr:c.reward=true
 ·rw [if_pos hr,if_neg (by have:=hf.ripe hr;omega)]
 ·rw [if_neg hr]
theorem Spent.run {ρ:Type} {h:Int} {bad:Int→ρ} {K:List Coin→List Coin→ρ} {r s r' s':List Coin} {xs:List In} (hs:Spent h r s xs r' s'):z2x h bad K r s xs=K r' s':=by
 induction hs with
 | nil r s=>rfl
 | cons hm hc hf _ ih=>rw [zmg hm hc hf,ih]
theorem zka {h:Int} {K:List Coin→List Coin→List Coin × List Coin × Int}:∀ {xs:List In} {r s:List Coin},z06 r→(z2x h z1d K r s xs).2.2=0→∃ r' s',Spent h r s xs r' s'∧z2x h z1d K r s xs=K r' s'
 | [],r,s,_,_=>⟨r,s,.nil r s,rfl⟩
 | x::xs,r,s,hr,h0=>by
  by_cases hp:z1n r x.p=true
  ·obtain ⟨c,hc,hm,hcp⟩:=z0mo hr hp
   have hf:Fine h x c:=by
    rw [z2x,if_pos hp,hc] at h0;simp only [zY1y] at h0
    by_cases hrw:c.reward=true
    ·rw [if_pos hrw] at h0
     by_cases hh:h<c.height+2
     ·rw [if_pos hh] at h0;cases h0
     ·rw [if_neg hh] at h0
      by_cases ho:(z1z c.o.lock x.key h).1=true
      ·exact ⟨hcp,fun _=>by omega,ho⟩
      ·rw [if_neg ho] at h0;cases h0
    ·rw [if_neg hrw] at h0
     by_cases ho:(z1z c.o.lock x.key h).1=true
     ·exact ⟨hcp,fun h=>absurd h hrw,ho⟩
     ·rw [if_neg ho] at h0;cases h0
   have e:=zmg (bad:=z1d) (K:=K) (s:=s) (xs:=xs) hm hc hf;rw [e] at h0 ⊢;obtain ⟨r',s',h1,h2⟩:=zka (z98 hr _) h0;exact ⟨r',s',.cons hm hc hf h1,h2⟩
  ·rw [z2x,if_neg hp] at h0
   cases h0
structure SpentAs (h:Int) (r:List Coin) (xs:List In) (r' cs:List Coin):Prop where
 sorted:z06 r'
 mem:∀ c,c ∈ r'↔c ∈ r∧∀ x ∈ xs,x.p≠c.p
 len:cs.length=xs.length
 fine:∀ (i:Nat) (x:In),xs[i]? = some x→∃ c,cs[i]? = some c∧c ∈ r∧Fine h x c
 apart:xs.Pairwise fun x y=>x.p≠y.p
 total:zh r=zh r'+zh cs
theorem Spent.as {h:Int} {r s r' s':List Coin} {xs:List In} (hs:Spent h r s xs r' s'):z06 r→∃ cs,s'=s++cs∧SpentAs h r xs r' cs:=by
 induction hs with
 | nil r s=>exact fun hr=>⟨[],(zY23 s).symm,hr,fun c=>by simp,rfl,fun i x hx=>by simp at hx,.nil,by simp [zh]⟩
 | @cons r s x xs r' s' c hm hc hf hs ih =>
  intro hr;obtain ⟨cs,rfl,H⟩:=ih (z98 hr _);have hcm:=fun d=>z0ad hr hc (d:=d)
  refine ⟨c::cs,by simp,H.sorted,fun d=>?_,by simp [H.len],fun i y hy=>?_,?_,?_⟩
  ·rw [H.mem,hcm]
   constructor
   ·rintro ⟨⟨h1,h2⟩,h3⟩
    refine ⟨h1,fun y hy=>?_⟩;rcases zY0i.1 hy with rfl|hy
    ·rw [← hf.p];exact fun e=>h2 e.symm
    ·exact h3 y hy
   ·rintro ⟨h1,h2⟩
    exact ⟨⟨h1,fun e=>h2 x (zY0h ..) (by rw [← hf.p,e])⟩,fun y hy=>h2 y (zY0d _ hy)⟩
  ·cases i with
   | zero =>
    simp only [zY04,zY00] at hy;subst hy;exact ⟨c,rfl,hm,hf⟩
   | succ i =>
    obtain ⟨d,h1,h2,h3⟩:=H.fine i y (by simpa using hy);exact ⟨d,by simpa using h1,(hcm d).1 h2 |>.1,h3⟩
  ·refine zY1q.2 ⟨fun y hy=>?_,H.apart⟩
   obtain ⟨i,hi⟩:=zY2t hy;obtain ⟨d,_,h2,h3⟩:=H.fine i y hi;have:=((hcm d).1 h2).2;rw [h3.p,hf.p] at this;exact fun e=>this e.symm
  ·rw [z0g6 hc,H.total,zh];omega
theorem Spent.of {h:Int}:∀ {xs:List In} {r s cs:List Coin},z06 r→xs.Pairwise (fun x y=>x.p≠y.p)→cs.length=xs.length→(∀ (i:Nat) (x:In),xs[i]? = some x→∃ c,cs[i]? = some c∧c ∈ r∧Fine h x c)→∃ r',Spent h r s xs r' (s++cs)
 | [],r,s,cs,hr,ha,hl,hf=>by
  have:cs=[]:=zY07 hl;subst this;exact ⟨r,by rw [zY23];exact .nil r s⟩
 | x::xs,r,s,[],hr,ha,hl,hf=>by cases hl
 | x::xs,r,s,c::cs,hr,ha,hl,hf=>by
  obtain ⟨c',h1,hm,hfx⟩:=hf 0 x rfl;simp only [zY04,zY00] at h1;subst h1;have hc:r[zo r x.p]? = some c:=by rw [← hfx.p];exact z025 hr hm
  have ha':=zY1q.1 ha;obtain ⟨r',hs⟩:=Spent.of (s:=s++[c]) (cs:=cs) (z98 hr (zo r x.p)) ha'.2 (by simpa using hl) fun i y hy=>by
   obtain ⟨d,k1,k2,k3⟩:=hf (i+1) y (by simpa using hy);refine ⟨d,by simpa using k1,(z0ad hr hc).2 ⟨k2,?_⟩,k3⟩;rw [k3.p,hfx.p];exact fun e=>ha'.1 y (zY0f hy) e.symm
  exact ⟨r',.cons hm hc hfx (by rw [zY1b] at hs;exact hs)⟩
def zc0 (nm h:Int) (rw:Bool) (i:Nat) (o:Out):Coin:=⟨⟨nm,i⟩,o,h,rw⟩
inductive Brought (nm h:Int) (rw:Bool):List Coin→Nat→List Out→List Coin→Prop
 | nil (r i):Brought nm h rw r i [] r
 | cons {r:List Coin} {i:Nat} {o:Out} {os:List Out} {m:List Coin}:z1n r ⟨nm,i⟩=false→Brought nm h rw (r.take (zo r ⟨nm,i⟩)++[zc0 nm h rw i o]++r.drop (zo r ⟨nm,i⟩)) (i+1) os m→Brought nm h rw r i (o::os) m
theorem Brought.run {ρ:Type} {nm h:Int} {rw:Bool} {bad:Int→ρ} {K:List Coin→ρ} {r m:List Coin} {i:Nat} {os:List Out} (hb:Brought nm h rw r i os m):z2r nm h rw bad K r i os=K m:=by
 induction hb with
 | nil r i=>rfl
 | cons hn _ ih=>rw [z2r,if_neg (by simp [hn])];exact ih
theorem zkb {nm h:Int} {rw:Bool} {K:List Coin→List Coin × List Coin × Int}:∀ {os:List Out} {r:List Coin} {i:Nat},(z2r nm h rw z1d K r i os).2.2=0→∃ m,Brought nm h rw r i os m∧z2r nm h rw z1d K r i os=K m
 | [],r,i,_=>⟨r,.nil r i,rfl⟩
 | o::os,r,i,h0=>by
  rw [z2r] at h0 ⊢
  cases hp:z1n r ⟨nm,i⟩ with
  | true=>rw [hp,if_pos rfl] at h0;cases h0
  | false =>
   rw [hp,if_neg (by simp)] at h0;rw [if_neg (by simp)];obtain ⟨m,h1,h2⟩:=zkb h0;exact ⟨m,.cons hp h1,h2⟩
def z3d (os:List Out):Int:=(os.map Out.coin).sum
structure BroughtAs (nm h:Int) (rw:Bool) (r:List Coin) (i:Nat) (os:List Out) (m:List Coin):Prop where
 sorted:z06 m
 mem:∀ c,c ∈ m↔c ∈ r∨∃ (j:Nat) (o:Out),os[j]? = some o∧c=zc0 nm h rw (i+j) o
 free:∀ c ∈ r,∀ j,j<os.length→c.p≠⟨nm,((i+j:Nat):Int)⟩
 total:zh m=zh r+z3d os
 len:m.length=r.length+os.length
theorem Brought.as {nm h:Int} {rw:Bool} {r m:List Coin} {i:Nat} {os:List Out} (hb:Brought nm h rw r i os m):z06 r→BroughtAs nm h rw r i os m:=by
 induction hb with
 | nil r i=>exact fun hr=>⟨hr,fun c=>by simp,fun c _ j hj=>by simp at hj,by simp [z3d],by simp⟩
 | @cons r i o os m hn hb ih =>
  intro hr;have H:=ih (z7m hr (c:=zc0 nm h rw i o) hn);refine ⟨H.sorted,fun c=>?_,fun c hc j hj=>?_,?_,?_⟩
  ·rw [H.mem,put_mem]
   constructor
   ·rintro ((rfl|h1)|⟨j,q,h1,h2⟩)
    ·exact .inr ⟨0,o,rfl,rfl⟩
    ·exact .inl h1
    ·exact .inr ⟨j+1,q,by simpa using h1,by rw [h2,show i+1+j=i+(j+1) by omega]⟩
   ·rintro (h1|⟨j,q,h1,h2⟩)
    ·exact .inl (.inr h1)
    ·cases j with
     | zero =>
      simp only [zY04,zY00] at h1;subst h1;exact .inl (.inl h2)
     | succ j=>exact .inr ⟨j,q,by simpa using h1,by rw [h2,show i+1+j=i+(j+1) by omega]⟩
  ·cases j with
   | zero=>exact hasP_not.1 hn c hc
   | succ j =>
    have:=H.free c (put_mem.2 (.inr hc)) j (by simpa using hj)
    rwa [show i+1+j=i+(j+1) by omega] at this
  ·rw [H.total,z0g7]
   simp only [z3d,zY1t,List.sum_cons,zc0];omega
  ·rw [H.len]
   simp only [zY06,zY0b,zY0y,zY0g,zY13];omega
theorem Brought.of {nm h:Int} {rw:Bool}:∀ {os:List Out} {r:List Coin} {i:Nat},z06 r→(∀ c ∈ r,∀ j,j<os.length→c.p≠⟨nm,((i+j:Nat):Int)⟩)→∃ m,Brought nm h rw r i os m
 | [],r,i,_,_=>⟨r,.nil r i⟩
 | o::os,r,i,hr,hf=>by
  have hn:z1n r ⟨nm,i⟩=false:=hasP_not.2 fun c hc=>hf c hc 0 (by simp)
  obtain ⟨m,hb⟩:=Brought.of (os:=os) (i:=i+1) (z7m hr (c:=zc0 nm h rw i o) hn) fun c hc j hj=>by
   rcases put_mem.1 hc with rfl|hc
   ·simp only [zc0,ne_eq,Point.mk.injEq,not_and]
    intro _;omega
   ·have:=hf c hc (j+1) (by simpa using hj)
    rwa [show i+(j+1)=i+1+j by omega] at this
  exact ⟨m,.cons hn hb⟩
theorem z0g8 (os:List Out):∀ s:Int,os.foldl (fun s o=>s - o.coin) s=s - z3d os:=by
 induction os with
 | nil=>intro s;simp [z3d]
 | cons o os ih=>intro s;rw [List.foldl_cons,ih];simp only [z3d,zY1t,List.sum_cons];omega
theorem zkc (t:Tx) (s:List Coin):z16 t s=zh s - z3d t.outs:=by
 unfold z16;rw [z0g8,z079];omega
structure Done (l:List Coin) (t:Tx) (nm h:Int) (r s m:List Coin):Prop where
 ok:CoinsOK l
 tx:zf t=0
 nm1:1≤nm
 nm2:nm≤120
 h1:1≤h
 h2:h≤1000
 height:t.ins.length=0→t.height=h
 spent:Spent h l [] t.ins r s
 fee:t.ins.length≠0→0≤z16 t s
 brought:Brought nm h (decide ((t.ins.length:Int)=0)) r 0 t.outs m
 end_:CoinsOK m
theorem Done.run {l:List Coin} {t:Tx} {nm h:Int} {r s m:List Coin} (d:Done l t nm h r s m):zp l t nm h=(m,s,0):=by
 unfold zp;have hE:z4p s m=(m,s,0):=by
  unfold z4p;rw [if_neg (by rw [(z1r m).2 d.end_];decide)]
 have a:=d.nm1;have b:=d.nm2;have c:=d.h1;have e:=d.h2;rw [if_neg (by rw [(z1r l).2 d.ok];decide),if_neg (by rw [d.tx];decide),if_neg (by omega)]
 by_cases h0:(t.ins.length:Int)=0
 ·rw [if_pos h0,if_neg (by rw [d.height (by omega)];simp),d.spent.run,d.brought.run,hE]
 ·rw [if_neg h0,d.spent.run,if_neg (by have:=d.fee (by omega);omega),d.brought.run,hE]
theorem zfq {l:List Coin} {t:Tx} {nm h:Int} (h0:(zp l t nm h).2.2=0):∃ r,Done l t nm h r (zp l t nm h).2.1 (zp l t nm h).1:=by
 have key:∃ r s m,Done l t nm h r s m:=by
  unfold zp at h0
  by_cases k1:zb l=0
  ·rw [if_neg (by rw [k1];decide)] at h0
   have ok:=(z1r l).1 k1
   by_cases k2:zf t=0
   ·rw [if_neg (by rw [k2];decide)] at h0
    by_cases k3:nm<1∨120<nm∨h<1∨1000<h
    ·rw [if_pos k3] at h0;cases h0
    ·rw [if_neg k3] at h0
     by_cases k4:(t.ins.length:Int)=0
     ·rw [if_pos k4] at h0
      by_cases k5:t.height≠h
      ·rw [if_pos k5] at h0;cases h0
      ·rw [if_neg k5] at h0
       obtain ⟨r,s,q1,q2⟩:=zka ok.sorted h0;rw [q2] at h0;obtain ⟨m,q3,q4⟩:=zkb h0;rw [q4] at h0;unfold z4p at h0
       by_cases k6:zb m=0
       ·exact ⟨r,s,m,ok,k2,by omega,by omega,by omega,by omega,fun _=>zY0s.1 k5,q1,fun h=>absurd (by omega) h,q3,(z1r m).1 k6⟩
       ·rw [if_pos k6] at h0;exact absurd h0 k6
     ·rw [if_neg k4] at h0
      obtain ⟨r,s,q1,q2⟩:=zka ok.sorted h0;rw [q2] at h0
      by_cases k5:z16 t s<0
      ·simp only [if_pos k5] at h0;cases h0
      ·simp only [if_neg k5] at h0
       obtain ⟨m,q3,q4⟩:=zkb h0;rw [q4] at h0;unfold z4p at h0
       by_cases k6:zb m=0
       ·exact ⟨r,s,m,ok,k2,by omega,by omega,by omega,by omega,fun h=>absurd (by omega) k4,q1,fun _=>by omega,q3,(z1r m).1 k6⟩
       ·rw [if_pos k6] at h0;exact absurd h0 k6
   ·rw [if_pos k2] at h0;exact absurd h0 k2
  ·rw [if_pos k1] at h0;exact absurd h0 k1
 obtain ⟨r,s,m,d⟩:=key;refine ⟨r,?_⟩;rw [d.run];exact d
end
section
open Go.RowKit
theorem SpentAs.from {h:Int} {l:List Coin} {xs:List In} {r cs:List Coin} (S:SpentAs h l xs r cs) {c:Coin} (hc:c ∈ cs):c ∈ l∧∃ x ∈ xs,x.p=c.p:=by
 obtain ⟨i,hi,rfl⟩:=zY2f hc;have hl:=S.len;obtain ⟨c,h1,h2,h3⟩:=S.fine i xs[i] (zY03 (by omega));rw [zY03 hi] at h1;injection h1 with h1
 rw [h1];exact ⟨h2,_,zY1l _,h3.p.symm⟩
theorem SpentAs.all {h:Int} {l:List Coin} {xs:List In} {r cs:List Coin} (S:SpentAs h l xs r cs) (hs:z06 l) {c:Coin}:c ∈ l↔c ∈ r∨c ∈ cs:=by
 constructor
 ·intro hc
  by_cases hx:∃ x ∈ xs,x.p=c.p
  ·obtain ⟨x,hx,he⟩:=hx
   obtain ⟨i,hi⟩:=zY2t hx;obtain ⟨d,h1,h2,h3⟩:=S.fine i x hi;have:d=c:=zjb hs h2 hc (h3.p.trans he);subst this;exact .inr (zY0f h1)
  ·exact .inl ((S.mem c).2 ⟨hc,fun x hx' he=>hx ⟨x,hx',he⟩⟩)
 ·rintro (hc|hc)
  ·exact ((S.mem c).1 hc).1
  ·exact (S.from hc).1
theorem Done.spentAs {l:List Coin} {t:Tx} {nm h:Int} {r s m:List Coin} (d:Done l t nm h r s m):SpentAs h l t.ins r s:=by
 obtain ⟨cs,e,S⟩:=d.spent.as d.ok.sorted;rw [zY11] at e;exact e ▸ S
theorem Done.broughtAs {l:List Coin} {t:Tx} {nm h:Int} {r s m:List Coin} (d:Done l t nm h r s m):BroughtAs nm h (decide ((t.ins.length:Int)=0)) r 0 t.outs m:=d.brought.as d.spentAs.sorted
theorem Done.short {l:List Coin} {t:Tx} {nm h:Int} {r s m:List Coin} (d:Done l t nm h r s m):z95 s:=by
 have S:=d.spentAs;exact ⟨by have:=S.len;have:=(z7j d.tx).ins;omega,fun c hc=>d.ok.short.2 c (S.from hc).1⟩
theorem z0jk {t:Tx} (ok:TxOK t):0<z3d t.outs:=by
 have key:∀ os:List Out,(∀ o ∈ os,1≤o.coin)→(os.length:Int)≤z3d os:=by
  intro os
  induction os with
  | nil=>intro _;simp [z3d]
  | cons o os ih =>
   intro h;have h1:=h o (zY0h ..);have h2:=ih fun x hx=>h x (zY0d _ hx)
   simp only [z3d,zY1t,List.sum_cons,zY0g] at h2 ⊢;omega
 have:=key t.outs fun o ho=>(ok.good o ho).1
 have:=ok.some;omega
theorem z0g9 {m:List Coin} {p:Point} (ok:CoinsOK m) (h:z1n m p=false):z014 m p=(z5x,7):=by
 unfold z014;rw [if_neg (by rw [(z1r m).2 ok];decide),if_neg (by simp [h])]
theorem Done.gone {l:List Coin} {t:Tx} {nm h:Int} {r s m:List Coin} (d:Done l t nm h r s m) {x:In} (hx:x ∈ t.ins) (hn:x.p.tx≠nm):z014 m x.p=(z5x,7):=by
 have S:=d.spentAs;have B:=d.broughtAs;refine z0g9 d.end_ (hasP_not.2 fun c hc e=>?_);rcases (B.mem c).1 hc with hc|⟨j,o,_,rfl⟩
 ·exact ((S.mem c).1 hc).2 x hx e.symm
 ·exact hn (by rw [← e];rfl)
end
section
open Go.RowKit
open Go.Lib (itoa)
set_option maxRecDepth 100000
set_option maxHeartbeats 4000000
def z0mp (b:Block) (ns:List Int) (l:List Coin) (us:List Undo) (most:Int):List Coin × List Undo × Int :=
 if most < -z16 (b.txs.getD 0 zTx) [] then ([],[],9) else
 if (zp l (b.txs.getD 0 zTx) (ns.getD 0 0) b.height).2.2≠0 then ([],[],(zp l (b.txs.getD 0 zTx) (ns.getD 0 0) b.height).2.2) else
 ((zp l (b.txs.getD 0 zTx) (ns.getD 0 0) b.height).1,us.set 0 ⟨(zp l (b.txs.getD 0 zTx) (ns.getD 0 0) b.height).2.1⟩,0)
def z0ga (b:Block) (ns:List Int) (l:List Coin) (us:List Undo) (most:Int) (i:Nat):List Tx→List Coin × List Undo × Int
 | []=>z0mp b ns l us most
 | t::r=>if (zp l t (ns.getD i 0) b.height).2.2≠0 then ([],[],(zp l t (ns.getD i 0) b.height).2.2) else
  z0ga b ns (zp l t (ns.getD i 0) b.height).1 (us.set i ⟨(zp l t (ns.getD i 0) b.height).2.1⟩) (most+z16 t (zp l t (ns.getD i 0) b.height).2.1) (i+1) r
def zct (k:Book) (l:List Coin) (b:Block):List Coin × List Undo × Int :=
 if zb l≠0 then ([],[],zb l) else
 if (z4v k b).2.2.2≠0 then ([],[],(z4v k b).2.2.2) else
 z0ga b (z4v k b).2.2.1 l (List.replicate b.txs.length ⟨[]⟩) (z0u b.height) 1 (b.txs.drop 1)
theorem zhl {l:List Coin} {t:Tx} {nm h:Int} (h0:(zp l t nm h).2.2=0):z96 (t,(zp l t nm h).2.1) ∧ -10000000000≤z16 t (zp l t nm h).2.1∧z16 t (zp l t nm h).2.1≤10000000000:=by
 obtain ⟨r,d⟩:=zfq h0;generalize (zp l t nm h).2.1=s at *;generalize (zp l t nm h).1=m at *;have ok:=z7j d.tx;have S:=d.spentAs;have B:=d.broughtAs;have h1:=S.total;have h2:=B.total;have hl:=d.ok.total;have hm:=d.end_.total;have hr:0≤zh r:=zci fun c hc=>d.ok.good c ((S.mem c).1 hc).1
 have hs:0≤zh s:=zci fun c hc=>d.ok.good c (S.from hc).1
 have ho:=z0jk ok;have hsl:=S.len;have:=ok.ins;have:=ok.outs;refine ⟨⟨by simp only;omega,fun c hc=>by have:=z3m (d.ok.good c (S.from hc).1);omega,by simp only;omega,fun o ho=>by have:=ok.good o ho;omega⟩,?_⟩;rw [zkc];omega
section
variable {sp:Nat→z9} {N:Nat} {E E':Env} {ks:List (List Dt→Option (List Dt))} {res:Option (List Dt)} {k:T}
end
def z0kn (b:Block) (ns:List Int) (us:List Undo) (l:List Coin):Nat→List Coin × Int
 | 0=>(l,0)
 | i+1=>if (z5y l (b.txs.getD (i+1) zTx) (ns.getD (i+1) 0) (us.getD (i+1) ⟨[]⟩).spent).2≠0 then ([],(z5y l (b.txs.getD (i+1) zTx) (ns.getD (i+1) 0) (us.getD (i+1) ⟨[]⟩).spent).2) else
  z0kn b ns us (z5y l (b.txs.getD (i+1) zTx) (ns.getD (i+1) 0) (us.getD (i+1) ⟨[]⟩).spent).1 i
def z0cd (k:Book) (l:List Coin) (b:Block) (us:List Undo):List Coin × Int :=
 if zb l≠0 then ([],zb l) else
 if (z4v k b).2.2.2≠0 then ([],(z4v k b).2.2.2) else
 if (us.length:Int)≠b.txs.length then ([],4) else
 if (z5y l (b.txs.getD 0 zTx) ((z4v k b).2.2.1.getD 0 0) (us.getD 0 ⟨[]⟩).spent).2≠0 then ([],(z5y l (b.txs.getD 0 zTx) ((z4v k b).2.2.1.getD 0 0) (us.getD 0 ⟨[]⟩).spent).2) else
 z0kn b (z4v k b).2.2.1 us (z5y l (b.txs.getD 0 zTx) ((z4v k b).2.2.1.getD 0 0) (us.getD 0 ⟨[]⟩).spent).1 (b.txs.length - 1)
noncomputable def zg5:z9:=spD (fun _:Book × List Coin × Block=>True) fun x=>zct x.1 x.2.1 x.2.2
def z0ce (us:List Undo):Prop:=∀ u ∈ us,z024 u.spent
noncomputable def z0cf:z9:=spD (fun x:Book × List Coin × Block × List Undo=>z0ce x.2.2.2) fun x=>z0cd x.1 x.2.1 x.2.2.1 x.2.2.2
attribute [local irreducible] den denX z0f z0k
attribute [local irreducible] z00 spD zp z5y z16 z4v zb z0u
attribute [local irreducible] zj8 z2t z7n z51 z72
attribute [local irreducible] z081
end
section
open Go.RowKit
open Go.Lib (itoa)
set_option maxRecDepth 100000
set_option maxHeartbeats 4000000
def zon (k:Book) (t:Tree) (n:Int):List Int × Int:=if ze k≠0 then ([],ze k) else z0c4 t n
def z0ae (k:Book) (t:Tree):List Coin→List Int→List Coin × Int
 | l,[]=>(l,0)
 | l,n::r=>if (zct k l (zhf t n)).2.2≠0 then ([],(zct k l (zhf t n)).2.2) else z0ae k t (zct k l (zhf t n)).1 r
def z0mq (k:Book) (t:Tree) (n:Int):List Coin × Int:=if (zon k t n).2≠0 then ([],(zon k t n).2) else z0ae k t [] (zon k t n).1
def z0ko:List Int→List Int→Nat
 | a::x,b::y=>if a=b then z0ko x y+1 else 0
 | _,_=>0
section
variable {α:Type} {f:α→List Dt} {sp:Nat→z9} {E:Env}
end
noncomputable def z0cg:z9:=spD (fun l:List Coin=>l.length≤2199023255552) fun l=>l
attribute [local irreducible] den denX z0f z0k
attribute [local irreducible] z00 spD zct z0cd zhf z0c4 ze z0ko
attribute [local irreducible] z0cg z3c
noncomputable def z0ch:z9:=spD (fun _:Book × Tree × Int=>True) fun x=>z0mq x.1 x.2.1 x.2.2
attribute [local irreducible] z4i z07q
attribute [local irreducible] zg5 z01e
attribute [local irreducible] z0ch
attribute [local irreducible] zrl
attribute [local irreducible] z0cf z01c zrm
end
section
open Go.RowKit
open Go.Lib (itoa)
set_option maxRecDepth 100000
set_option maxHeartbeats 4000000
attribute [local irreducible] den denX z0f z0k
deriving instance DecidableEq for Undo
attribute [local irreducible] z9t z4v zct zj6 zj8 zg5
attribute [local irreducible] z0fj
end
section
open Go.RowKit
open Go.Lib (itoa)
set_option maxRecDepth 100000
set_option maxHeartbeats 4000000
def z0e (x:List (List UInt8)) (l:List Coin) (t:Tx) (h:Int):List (List UInt8) × List Coin × Int × Int :=
 if (z0a t).2≠0 then (x,[],0,(z0a t).2) else if (t.ins.length:Int)=0 then (x,[],0,4) else
 if z1y ⟨x⟩ (z0a t).1≠0 then (x,[],0,z1y ⟨x⟩ (z0a t).1) else
 if (zp l t (z14 ⟨x⟩ (z0a t).1) h).2.2≠0 then (x,[],0,(zp l t (z14 ⟨x⟩ (z0a t).1) h).2.2) else
 (z2c ⟨x⟩ (z0a t).1,(zp l t (z14 ⟨x⟩ (z0a t).1) h).1,z16 t (zp l t (z14 ⟨x⟩ (z0a t).1) h).2.1,0)
abbrev z0kp:=List (List UInt8) × List Tx × List Coin × Int × Int
structure Sw where
 x:List (List UInt8)
 s:List Tx
 m:List Coin
 f:Int
def z0q (h:Int):Sw→List Tx→z0kp
 | a,[]=>(a.x,a.s,a.m,a.f,0)
 | a,t::r=>if (z0e a.x a.m t h).2.2.2≠0 then z0q h a r else
  z0q h ⟨(z0e a.x a.m t h).1,a.s++[t],(z0e a.x a.m t h).2.1,a.f+(z0e a.x a.m t h).2.2.1⟩ r
def zt (k:Book) (l:List Coin) (p:List Tx) (h:Int):z0kp :=
 if ze k≠0 then ([],[],[],0,ze k) else if zb l≠0 then ([],[],[],0,zb l) else
 if h<1 then ([],[],[],0,3) else if h > 1000 then ([],[],[],0,3) else if (p.length:Int) > 8 then ([],[],[],0,2) else
 z0q h ⟨k.texts,[],l,0⟩ p
def zar (x:List (List UInt8)) (s:List Tx) (m:List Coin) (t:Tx) (h:Int):List (List UInt8) × List Tx × Int :=
 if (z0e x m t h).2.2.2≠0 then ([],[],(z0e x m t h).2.2.2) else if (s.length:Int)=8 then ([],[],12) else ((z0e x m t h).1,s++[t],0)
def z11 (k:Book) (l:List Coin) (p:List Tx) (t:Tx) (h:Int):List (List UInt8) × List Tx × Int :=
 if (zt k l p h).2.2.2.2≠0 then ([],[],(zt k l p h).2.2.2.2) else if t ∈ (zt k l p h).2.1 then ([],[],6) else
 zar (zt k l p h).1 (zt k l p h).2.1 (zt k l p h).2.2.1 t h
def zis (parent height work nonce:Int) (lk:List Op) (s:List Tx) (f:Int):Block × Int :=
 if z2b height≠0 then (z97,z2b height) else if z0u height+f=0 then (z97,9) else
 if zq ⟨parent,height,work,nonce,⟨height,[],[⟨z0u height+f,lk⟩]⟩::s⟩≠0 then (z97,zq ⟨parent,height,work,nonce,⟨height,[],[⟨z0u height+f,lk⟩]⟩::s⟩) else
 (⟨parent,height,work,nonce,⟨height,[],[⟨z0u height+f,lk⟩]⟩::s⟩,0)
def z0l (k:Book) (l:List Coin) (p:List Tx) (parent height work nonce:Int) (lk:List Op):Block × Int :=
 if (zt k l p (height+1)).2.2.2.2≠0 then (z97,(zt k l p (height+1)).2.2.2.2) else
 if (zt k l ((zt k l p (height+1)).2.1.take 3) (height+1)).2.2.2.2≠0 then (z97,(zt k l ((zt k l p (height+1)).2.1.take 3) (height+1)).2.2.2.2) else
 zis parent (height+1) work nonce lk (zt k l ((zt k l p (height+1)).2.1.take 3) (height+1)).2.1 (zt k l ((zt k l p (height+1)).2.1.take 3) (height+1)).2.2.2.1
theorem zmh {x:List (List UInt8)} {l:List Coin} {t:Tx} {h:Int} (h0:(z0e x l t h).2.2.2=0) :
  zf t=0∧t.ins.length≠0∧z1y ⟨x⟩ (z0d t)=0∧(zp l t (z14 ⟨x⟩ (z0d t)) h).2.2=0∧z0e x l t h=(z2c ⟨x⟩ (z0d t),(zp l t (z14 ⟨x⟩ (z0d t)) h).1,z16 t (zp l t (z14 ⟨x⟩ (z0d t)) h).2.1,0):=by
 by_cases hc:zf t=0
 rotate_left
 ·have e:z0a t=([],zf t):=by unfold z0a;exact if_pos hc
  unfold z0e at h0;rw [e,if_pos hc] at h0;exact absurd h0 hc
 unfold z0e at h0 ⊢;rw [zfh hc,if_neg (fun k=>k rfl)] at h0 ⊢
 by_cases hi:(t.ins.length:Int)=0
 ·rw [if_pos hi] at h0
  exact absurd h0 (by show ¬ (4:Int)=0;decide)
 rw [if_neg hi] at h0 ⊢
 by_cases hn:z1y ⟨x⟩ (z0d t)=0
 rotate_left
 ·rw [if_pos hn] at h0
  exact absurd h0 hn
 rw [if_neg (fun k=>k hn)] at h0 ⊢
 by_cases ha:(zp l t (z14 ⟨x⟩ (z0d t)) h).2.2=0
 rotate_left
 ·rw [if_pos ha] at h0
  exact absurd h0 ha
 rw [if_neg (fun k=>k ha)];exact ⟨hc,by omega,hn,ha,rfl⟩
theorem z0af {x:List (List UInt8)} {l:List Coin} {t:Tx} {h:Int} (h0:(z0e x l t h).2.2.2=0) : -10000000000≤(z0e x l t h).2.2.1∧(z0e x l t h).2.2.1≤10000000000:=by
 obtain ⟨-,-,-,h4,h5⟩:=zmh h0;rw [h5];exact (zhl h4).2
theorem zfr (h:Int):∀ (r:List Tx) (a:Sw) (n:Nat),a.s.length≤n → -10000000000 * (n:Int)≤a.f→a.f≤10000000000 * (n:Int)→(z0q h a r).2.1.length≤n+r.length ∧ -10000000000 * ((n:Int)+r.length)≤(z0q h a r).2.2.2.1∧(z0q h a r).2.2.2.1≤10000000000 * ((n:Int)+r.length)
 | [],a,n,h1,h2,h3=>by
  rw [z0q];simp only [zY13];omega
 | t::r,a,n,h1,h2,h3=>by
  rw [z0q]
  by_cases he:(z0e a.x a.m t h).2.2.2=0
  ·rw [if_neg (fun k=>k he)]
   have hf:=z0af he;have:=zfr h r ⟨(z0e a.x a.m t h).1,a.s++[t],(z0e a.x a.m t h).2.1,a.f+(z0e a.x a.m t h).2.2.1⟩ (n+1) (by simp;omega) (by simp only;omega) (by simp only;omega);simp only [zY0g];omega
  ·rw [if_pos he]
   have:=zfr h r a n h1 h2 h3;simp only [zY0g];omega
theorem z46 (k:Book) (l:List Coin) (p:List Tx) (h:Int):(zt k l p h).2.1.length≤8 ∧ -80000000000≤(zt k l p h).2.2.2.1∧(zt k l p h).2.2.2.1≤80000000000:=by
 unfold zt
 split
 ·exact ⟨by simp,by simp,by simp⟩
 split
 ·exact ⟨by simp,by simp,by simp⟩
 split
 ·exact ⟨by simp,by simp,by simp⟩
 split
 ·exact ⟨by simp,by simp,by simp⟩
 split
 ·exact ⟨by simp,by simp,by simp⟩
 ·rename_i h5
  have:=zfr h p ⟨k.texts,[],l,0⟩ 0 (by simp) (by simp) (by simp);omega
attribute [local irreducible] z00 spD z0a zp z16 z1y z2c z14 ze zb zq z0u z2b
attribute [local irreducible] den denX z0f z0k
noncomputable def z5z:z9:=spD (fun _:List (List UInt8) × List Coin × Tx × Int=>True) fun x=>z0e x.1 x.2.1 x.2.2.1 x.2.2.2
theorem zg6 (x:List (List UInt8)) (l:List Coin) (t:Tx) (h:Int):z5z [.l 1 (x.map z0g),.l 6 (l.map zd),I t.height,.l 3 (t.ins.map eIn),.l 2 (t.outs.map z17),I h]=some [.l 1 ((z0e x l t h).1.map z0g),.l 6 ((z0e x l t h).2.1.map zd),I (z0e x l t h).2.2.1,I (z0e x l t h).2.2.2]:=zg (f:=fun x:List (List UInt8) × List Coin × Tx × Int=>z0e x.1 x.2.1 x.2.2.1 x.2.2.2) (x,l,t,h) trivial
theorem zmi (x:List (List UInt8)) (s:List UInt8):z6c [.l 1 (x.map z0g),.s s]=some [.l 1 ((z2c ⟨x⟩ s).map z0g),I (z14 ⟨x⟩ s),I (z1y ⟨x⟩ s)]:=zok ⟨x⟩ s
theorem zkd (x:List (List UInt8)):z4i [.l 1 (x.map z0g)]=some [I (ze ⟨x⟩)]:=zmb ⟨x⟩
def z082:T :=
 .lets [.bin .neq 17 (zI 0)] [] (.ite 18 (.ret [0,.c (.nil 6),zI 0,17]) (.lets [.call 12 [2,3,4,16] 0] [] (.ret [11,15,
 .v 19,zI 0])))
def z083:T :=
 .lets [.call 17 [1,2,3,4,12,5] 0,.call 17 [1,2,3,4,12,5] 1,.call 17 [1,2,3,4,12,5] 2] [] z082
def z084:T :=
 .lets [.call 74 [0,6] 0,.call 74 [0,6] 1,.call 74 [0,6] 2] [] (.lets [.bin .neq 13 (zI 0)] [] (.ite 14 (.ret [0,.c (.nil 6),.c (.i
 .i64 0),13]) z083))
def z085:T :=
 .ite 8 (.ret [0,.c (.nil 6),zI 0,7]) (.lets [.len 3] [] (.lets [.bin .eql 9 (zI 0)] [] (.ite 10 (.ret [0,.c (.nil 6),.c (.i
 .i64 0),zI 4]) z084)))
def zhm:T :=
 .lets [.call 56 [2,3,4] 0,.call 56 [2,3,4] 1] [] (.lets [.bin .neq 7 (zI 0)] [] z085)
attribute [local irreducible] z6c z5w z7n z72
theorem zrn:Meets Tryz.prog z5z 47 ⟨[.agg 1,.one,.agg 3,.one],[(true,[.pure]),(false,[.pure]),(false,[.scal]),(false,[.scal])],false⟩:=by
 refine zj (sp:=(z07 [(12,z72),(17,z7n),(56,z5w),(74,z6c)])) (sigs:=z0i) (cut:=[]) (hints:=[]) (fn:=Tryz.f47) (t:=zhm) (by kernel_rfl) (by kernel_rfl) (by kernel_rfl) ?_ ?_
 ·exact (z01 (L:=[(12,z72),(17,z7n),(56,z5w),(74,z6c)]) ⟨za rfl z0ab,za rfl z0g5,za rfl z0fi,za rfl z0c5,trivial⟩)
 ·rintro ds rs - h
  obtain ⟨⟨x,l,t,hh⟩,-,rfl,rfl⟩:=zi h;clear h;refine ⟨⟨1,?_⟩,z52 ⟨rfl,rfl,trivial⟩⟩
  show den _ _ zhm [.l 1 (x.map z0g),.l 6 (l.map zd),I t.height,.l 3 (t.ins.map eIn),.l 2 (t.outs.map z17),I hh] []=ret (z0e x l t hh)
  have a1:=zom t;have a2:=zmi x (z0a t).1;have a3:=zt3 l t (z14 ⟨x⟩ (z0a t).1) hh;have a4:=fun h0=>zj7 t _ (zhl (l:=l) (t:=t) (nm:=z14 ⟨x⟩ (z0a t).1) (h:=hh) h0).1
  unfold zhm z0e;generalize z0a t=pt at *;obtain ⟨s,e⟩:=pt;simp only at *;generalize z1y ⟨x⟩ s=en at *;generalize z2c ⟨x⟩ s=xn at *;generalize z14 ⟨x⟩ s=nm at *;generalize zp l t nm hh=q at *;obtain ⟨m,us,ea⟩:=q;simp only at *
  by_cases hea:ea=0
  ·have a4:=a4 hea
   repeat' (first|refine dq1 ?_|refine dqK rfl (a1) ?_|refine dqK rfl (a2) ?_|refine dqK rfl (a3) ?_|refine dqk rfl (a4) ?_|exact z5 rfl rfl|refine tR (fun h=>?_) fun h=>?_|fail)
  ·clear a4
   repeat' (first|refine dq1 ?_|refine dqK rfl (a1) ?_|refine dqK rfl (a2) ?_|refine dqK rfl (a3) ?_|exact z5 rfl rfl|refine tR (fun h=>?_) fun h=>?_|fail)
   all_goals omega
noncomputable def z1t:z9:=spD (fun _:List (List UInt8) × List Coin × List Tx × Int=>True) fun x=>zt ⟨x.1⟩ x.2.1 x.2.2.1 x.2.2.2
theorem z39 (x:List (List UInt8)) (l:List Coin) (p:List Tx) (h:Int):z1t [.l 1 (x.map z0g),.l 6 (l.map zd),.l 3 (p.map eTx),I h]=some [.l 1 ((zt ⟨x⟩ l p h).1.map z0g),.l 3 ((zt ⟨x⟩ l p h).2.1.map eTx),.l 6 ((zt ⟨x⟩ l p h).2.2.1.map zd),I (zt ⟨x⟩ l p h).2.2.2.1,I (zt ⟨x⟩ l p h).2.2.2.2]:=zg (f:=fun x:List (List UInt8) × List Coin × List Tx × Int=>zt ⟨x.1⟩ x.2.1 x.2.2.1 x.2.2.2) (x,l,p,h) trivial
def zt5:T :=
 .lets [.mk 3 [[30,31,32]]] [] (.lets [.app 3 17 33] [] (.lets [.bin .add 18 (zI 1)] [] (.again 0 [25,29,34,35,24])))
def zt6:T :=
 .lets [.bin .add 16 26] [] (.lets [.call 81 [21,22,23] 0,.call 81 [21,22,23] 1,.call 81 [21,22,23] 2] [] zt5)
def zt7:T :=
 .lets [.bin .neq 27 (zI 0)] [] (.ite 28 (.lets [.bin .add 18 (zI 1)] [] (.again 0 [15,16,17,29,19])) zt6)
def zt8:T :=
 .lets [.call 89 [19,15,21,22,23,3] 0,.call 89 [19,15,21,22,23,3] 1,.call 89 [19,15,21,22,23,3] 2,.call 89 [.v
 19,15,21,22,23,3] 3] [] zt7
def zt9:T :=
 .ite 20 (.lets [] [.inr 3 2 18] (.lets [.idx 2 18 0,.idx 2 18 1,.idx 2 18 2] [] zt8)) (.ret [19,17,15,16,.c
 (.i .i64 0)])
def zta:T :=
 .lets [.call 73 [0] 0] [] (.lets [.len 2] [] (.loop [12,zI 0,.c (.nil 3),zI 0,13] (.lets [.bin .lss 18 14] [] zt9)))
def ztb:T :=
 .lets [.bin .gtr 10 (zI 8)] [] (.ite 11 (.ret [.c (.nil 1),.c (.nil 3),.c (.nil 6),zI 0,zI 2]) (.lets [.call 11 [1] 0] []
 zta))
def ztc:T :=
 .lets [.bin .gtr 3 (zI 1000)] [] (.ite 9 (.ret [.c (.nil 1),.c (.nil 3),.c (.nil 6),zI 0,zI 3]) (.lets [.len 2] [] ztb))
def ztd:T :=
 .ite 7 (.ret [.c (.nil 1),.c (.nil 3),.c (.nil 6),zI 0,6]) (.lets [.bin .lss 3 (zI 1)] [] (.ite 8 (.ret [.c (.nil 1),.c (.nil 3),.c (.nil
 6),zI 0,zI 3]) ztc))
def zte:T :=
 .ite 5 (.ret [.c (.nil 1),.c (.nil 3),.c (.nil 6),zI 0,4]) (.lets [.call 8 [1] 0] [] (.lets [.bin .neq 6 (zI 0)] [] ztd))
def zds:T :=
 .lets [.call 62 [0] 0] [] (.lets [.bin .neq 4 (zI 0)] [] zte)
attribute [local irreducible] z4i zcq z53 z51 z71
theorem zad:Meets Tryz.prog z1t 8 ⟨[.agg 1,.one,.one,.one],[(true,[.pure]),(false,[.fresh 30 3]),(false,[.pure]),(false,[.scal]),(false,[.scal])],false⟩:=by
 refine zj (sp:=(z07 [(8,z51),(11,z71),(62,z4i),(73,zcq),(81,z53),(89,z5z)])) (sigs:=z0px) (cut:=[]) (hints:=[⟨14,[.t 10,.t 11,.r 9 30 3,.t 52,.o 8]⟩]) (fn:=Tryz.f8) (t:=zds) (by kernel_rfl) (by kernel_rfl) (by kernel_rfl) ?_ ?_
 ·exact (z01 (L:=[(8,z51),(11,z71),(62,z4i),(73,zcq),(81,z53),(89,z5z)]) ⟨za rfl zrc,za rfl (zr4 rfl z013),za rfl z07l,za rfl (zr4 rfl z0mk),za rfl z01d,za rfl zrn,trivial⟩)
 ·rintro ds rs - h
  obtain ⟨⟨x,l,p,hh⟩,-,rfl,rfl⟩:=zi h;clear h;refine ⟨⟨10,?_⟩,z52 ⟨rfl,rfl,trivial⟩⟩
  show den _ _ zds [.l 1 (x.map z0g),.l 6 (l.map zd),.l 3 (p.map eTx),I hh] []=ret (zt ⟨x⟩ l p hh)
  have a1:=zkd x;have a2:=z86 l;have a3:=fun h0=>zhb l ((z1r l).1 h0).short
  have a4:=fun h0=>z07m x (by have:=z64 (bk:=⟨x⟩) h0;simp only at this;omega)
  unfold zds zt;generalize ze ⟨x⟩=eb at *;generalize zb l=ec at *
  by_cases hb:eb=0
  ·by_cases hc:ec=0
   ·have a3:=a3 hc
    have a4:=a4 hb
    repeat' (first|refine dq1 ?_|refine dqk rfl (a1) ?_|refine dqk rfl (a2) ?_|refine dqk rfl (a3) ?_|refine dqk rfl (a4) ?_|exact z5 rfl rfl|refine tR (fun h=>?_) fun h=>?_|fail)
    have hp8:p.length≤8:=by omega
    (refine zw (fun (a:Sw) k=>[.l 6 (a.m.map zd),I a.f,.l 3 (a.s.map eTx),I k,.l 1 (a.x.map z0g)]) (fun (a:Sw) _ (r:List Tx)=>z0q hh a r) (fun a k=>a.s.length≤k ∧ -10000000000 * (k:Int)≤a.f∧a.f≤10000000000 * (k:Int)) ⟨x,[],l,0⟩ p ?_ ?_ ?_ ?_ ?_;rfl;exact ⟨by simp,by simp,by simp⟩;omega)
    ·rintro ⟨ax,as_,am,af⟩ i t r hx hd hk ⟨h1,h2,h3⟩ again hag
     simp only at h1 h2 h3;have b1:=zg6 ax am t hh;have b2:=fun h0=>zhi t (zg3 (zmh (x:=ax) (l:=am) (t:=t) (h:=hh) h0).1)
     have b3:=fun h0=>z0af (x:=ax) (l:=am) (t:=t) (h:=hh) h0
     rw [z0q];simp only;have hag0:=hag ⟨ax,as_,am,af⟩ ⟨by simp only;omega,by simp only;omega,by simp only;omega⟩;have hag1:=fun (g0:(z0e ax am t hh).2.2.2=0)=>hag ⟨(z0e ax am t hh).1,as_++[t],(z0e ax am t hh).2.1,af+(z0e ax am t hh).2.2.1⟩ ⟨by simp;omega,by have:=b3 g0;simp only;omega,by have:=b3 g0;simp only;omega⟩
     generalize z0e ax am t hh=q at *;obtain ⟨qx,qm,qf,qe⟩:=q;simp only at *
     by_cases hq:qe=0
     ·have b2:=b2 hq
      have b3:=b3 hq;have hag':=hag1 hq;clear hag0 hag1
      repeat' (first|refine dq1 ?_|refine dqc ?_|refine dqm ?_|refine dqK rfl (b1) ?_|refine dqK rfl (b2) ?_|refine z4 (z28 rfl rfl (by simp)) ?_|refine tR (fun h=>?_) fun h=>?_|refine dqT ?_|fail)
      all_goals first|exact z6 rfl rfl hag'|omega
     ·clear b2 b3 hag1
      have hag':=hag0
      repeat' (first|refine dq1 ?_|refine dqc ?_|refine dqm ?_|refine dqK rfl (b1) ?_|refine tR (fun h=>?_) fun h=>?_|refine dqT ?_|fail)
      all_goals first|exact z6 rfl rfl hag'|omega
    ·rintro ⟨ax,as_,am,af⟩ - again
     rw [z0q]
     repeat' (first|refine dq1 ?_|exact z5 rfl rfl|refine dqF ?_|fail)
   ·clear a3 a4
    repeat' (first|refine dq1 ?_|refine dqk rfl (a1) ?_|refine dqk rfl (a2) ?_|exact z5 rfl rfl|refine tR (fun h=>?_) fun h=>?_|fail)
    all_goals omega
  ·clear a3 a4
   repeat' (first|refine dq1 ?_|refine dqk rfl (a1) ?_|refine dqk rfl (a2) ?_|exact z5 rfl rfl|refine tR (fun h=>?_) fun h=>?_|fail)
   all_goals omega
end
section
open Go.RowKit
open Go.Lib (itoa)
set_option maxRecDepth 100000
set_option maxHeartbeats 4000000
theorem zmj {t y:Tx} {r:List Tx} {a b:List (List UInt8) × List Tx × Int}:(if t ∈ y::r then a else b)=if decide (y=t)=true then a else if t ∈ r then a else b:=by
 by_cases h:y=t
 ·subst h;simp
 ·have h':¬ t=y:=fun e=>h e.symm
  simp [h,h']
attribute [local irreducible] z00 spD zt z0e z0a zp z16 ze zb zq z0u z2b
attribute [local irreducible] den denX z0f z0k
noncomputable def z3e:z9:=spD (fun _:List (List UInt8) × List Coin × List Tx × Tx × Int=>True) fun x=>z11 ⟨x.1⟩ x.2.1 x.2.2.1 x.2.2.2.1 x.2.2.2.2
theorem z8e (x:List (List UInt8)) (l:List Coin) (p:List Tx) (t:Tx) (h:Int):z3e [.l 1 (x.map z0g),.l 6 (l.map zd),.l 3 (p.map eTx),I t.height,.l 3 (t.ins.map eIn),.l 2 (t.outs.map z17),I h]=some [.l 1 ((z11 ⟨x⟩ l p t h).1.map z0g),.l 3 ((z11 ⟨x⟩ l p t h).2.1.map eTx),I (z11 ⟨x⟩ l p t h).2.2]:=zg (f:=fun x:List (List UInt8) × List Coin × List Tx × Tx × Int=>z11 ⟨x.1⟩ x.2.1 x.2.2.1 x.2.2.2.1 x.2.2.2.2) (x,l,p,t,h) trivial
theorem ztf (x y:Tx):z8n [I x.height,.l 3 (x.ins.map eIn),.l 2 (x.outs.map z17),I y.height,.l 3 (y.ins.map eIn),.l 2 (y.outs.map z17)]=some [.b (decide (x=y))]:=z016 x y
def zoo:T :=
 .lets [.call 81 [3,4,5] 0,.call 81 [3,4,5] 1,.call 81 [3,4,5] 2] [] (.lets [.mk 3 [[29,30,31]]] [] (.lets [.app 3 8 32] []
 (.ret [22,33,zI 0])))
def zop:T :=
 .ite 26 (.ret [.c (.nil 1),.c (.nil 3),25]) (.lets [.len 8] [] (.lets [.bin .eql 27 (zI 8)] [] (.ite 28 (.ret [.c (.nil 1),.c (.nil 3),.c (.i
 .i64 12)]) zoo)))
def zoq:T :=
 .lets [.call 89 [7,9,3,4,5,6] 0,.call 89 [7,9,3,4,5,6] 1,.call 89 [7,9,3,4,5,6] 2,.call 89 [7,9,3,
 .v 4,5,6] 3] [] (.lets [.bin .neq 25 (zI 0)] [] zop)
def zor:T :=
 .ite 20 (.lets [.bin .geq 15 (zI 0)] [] (.ite 21 (.ret [.c (.nil 1),.c (.nil 3),zI 6]) zoq)) (.lets [.bin .add 15 (.c (.i .i64
 1))] [] (.again 0 [14,21]))
def zos:T :=
 .lets [] [.inr 3 8 15] (.lets [.idx 8 15 0,.idx 8 15 1,.idx 8 15 2] [] (.lets [.call 61 [17,18,19,3,4,5] 0] []
 zor))
def zot:T :=
 .lets [.call 81 [3,4,5] 0,.call 81 [3,4,5] 1,.call 81 [3,4,5] 2] [] (.lets [.mk 3 [[25,26,27]]] [] (.lets [.app 3 8 28] []
 (.ret [18,29,zI 0])))
def zou:T :=
 .ite 22 (.ret [.c (.nil 1),.c (.nil 3),21]) (.lets [.len 8] [] (.lets [.bin .eql 23 (zI 8)] [] (.ite 24 (.ret [.c (.nil 1),.c (.nil 3),.c (.i
 .i64 12)]) zot)))
def zov:T :=
 .lets [.call 89 [7,9,3,4,5,6] 0,.call 89 [7,9,3,4,5,6] 1,.call 89 [7,9,3,4,5,6] 2,.call 89 [7,9,3,
 .v 4,5,6] 3] [] (.lets [.bin .neq 21 (zI 0)] [] zou)
def zow:T :=
 .ite 16 zos (.lets [.bin .geq (.c (.i .i64 (-1))) (zI 0)] [] (.ite 17 (.ret [.c (.nil 1),.c (.nil 3),zI 6]) zov))
def zox:T :=
 .ite 12 (.ret [.c (.nil 1),.c (.nil 3),11]) (.lets [.len 8] [] (.loop [zI 0,zI 0] (.lets [.bin .lss 15 13] [] zow)))
def zcu:T :=
 .lets [.call 90 [0,1,2,6] 0,.call 90 [0,1,2,6] 1,.call 90 [0,1,2,6] 2,.call 90 [0,1,2,6] 3,.call 90 [0,1,.v
 2,6] 4] [] (.lets [.bin .neq 11 (zI 0)] [] zox)
attribute [local irreducible] z5z z1t z53 z8n
theorem zhn:Meets Tryz.prog z3e 9 ⟨[.agg 1,.one,.one,.agg 3,.one],[(true,[.pure]),(false,[.pure]),(false,[.scal])],false⟩:=by
 refine z5r (sp:=(z07 [(61,z8n),(81,z53),(89,z5z),(90,z1t)])) (sigs:=z0i) (cut:=[]) (hints:=[]) (fns:=[z6s 49 Tryz.f49 [] [],z6s 97 Tryz.f97 [⟨2,[.t 4,.t 8]⟩] [],z6s 50 Tryz.f50 [] []]) (dep:=4) (pool:=400) (fn:=Tryz.f9) (t:=zcu) (by kernel_rfl) (by kernel_rfl) (by kernel_rfl) ?_ ?_ ?_
 ·exact (z1x (fn:=Tryz.f49) (by kernel_rfl) (by kernel_rfl) (by kernel_rfl) (by kernel_rfl) (by kernel_rfl) (z1x (fn:=Tryz.f97) (by kernel_rfl) (by kernel_rfl) (by kernel_rfl) (by kernel_rfl) (by kernel_rfl) (z1x (fn:=Tryz.f50) (by kernel_rfl) (by kernel_rfl) (by kernel_rfl) (by kernel_rfl) (by kernel_rfl) z6t)))
 ·exact (z01 (L:=[(61,z8n),(81,z53),(89,z5z),(90,z1t)]) ⟨za rfl z0j3,za rfl z01d,za rfl zrn,za rfl zad,trivial⟩)
 ·rintro ds rs - h
  obtain ⟨⟨x,l,p,t,hh⟩,-,rfl,rfl⟩:=zi h;clear h;refine ⟨⟨10,?_⟩,z52 ⟨rfl,trivial⟩⟩
  show den _ _ zcu [.l 1 (x.map z0g),.l 6 (l.map zd),.l 3 (p.map eTx),I t.height,.l 3 (t.ins.map eIn),.l 2 (t.outs.map z17),I hh] []=ret (z11 ⟨x⟩ l p t hh)
  have a1:=z39 x l p hh;have hs:=(z46 ⟨x⟩ l p hh).1;unfold zcu z11;generalize zt ⟨x⟩ l p hh=q at *;obtain ⟨qx,qs,qm,qf,qe⟩:=q;simp only at *
  repeat' (first|refine dq1 ?_|refine dqK rfl (a1) ?_|exact z5 rfl rfl|refine tR (fun h=>?_) fun h=>?_|fail)
  (refine zw (fun (_:Unit) k=>[I 0,I k]) (fun (_:Unit) _ (r:List Tx)=>if t ∈ r then ([],[],6) else zar qx qs qm t hh) (fun _ _=>True) () qs ?_ ?_ ?_ ?_ ?_;rfl;exact trivial;omega)
  ·rintro _ i y r hx hd hk - again hag
   rw [zmj];have b1:=ztf y t;have hag':=hag () trivial
   by_cases hy:y=t
   ·rw [decide_eq_true hy,if_pos rfl]
    rw [decide_eq_true hy] at b1
    repeat' (first|refine dq1 ?_|refine dqc ?_|refine dqm ?_|refine dqk rfl (b1) ?_|exact z5 rfl rfl|refine dqT ?_|refine z0h rfl ?_|fail)
   ·rw [decide_eq_false hy,if_neg (by decide)]
    rw [decide_eq_false hy] at b1
    repeat' (first|refine dq1 ?_|refine dqc ?_|refine dqm ?_|refine dqk rfl (b1) ?_|refine dqT ?_|refine z0m rfl ?_|fail)
    exact z6 rfl rfl hag'
  ·rintro _ - again
   rw [if_neg (by simp)];unfold zar;have b1:=zg6 qx qm t hh;have b2:=fun h0=>zhi t (zg3 (zmh (x:=qx) (l:=qm) (t:=t) (h:=hh) h0).1)
   generalize z0e qx qm t hh=w at *;obtain ⟨wx,wm,wf,we⟩:=w;simp only at *
   by_cases hw:we=0
   ·have b2:=b2 hw
    repeat' (first|refine dq1 ?_|refine dqK rfl (b1) ?_|refine dqK rfl (b2) ?_|refine z4 (z28 rfl rfl (by simp)) ?_|exact z5 rfl rfl|refine tR (fun h=>?_) fun h=>?_|refine dqF ?_|fail)
    all_goals omega
   ·clear b2
    repeat' (first|refine dq1 ?_|refine dqK rfl (b1) ?_|exact z5 rfl rfl|refine tR (fun h=>?_) fun h=>?_|refine dqF ?_|fail)
    all_goals omega
noncomputable def z81:z9:=spD (fun x:List (List UInt8) × List Coin × List Tx × Int × Int × Int × Int × List Op=>(-1≤x.2.2.2.2.1∧x.2.2.2.2.1≤1000)∧x.2.2.2.2.2.2.2.length≤8796093022208) fun x=>z0l ⟨x.1⟩ x.2.1 x.2.2.1 x.2.2.2.1 x.2.2.2.2.1 x.2.2.2.2.2.1 x.2.2.2.2.2.2.1 x.2.2.2.2.2.2.2
theorem zoy (x:List (List UInt8)) (l:List Coin) (p:List Tx) (a b c d:Int) (o:List Op) (h : -1≤b∧b≤1000) (h2:o.length≤8796093022208):z81 [.l 1 (x.map z0g),.l 6 (l.map zd),.l 3 (p.map eTx),I a,I b,I c,I d,.l 2 (o.map eOp)]=some [I (z0l ⟨x⟩ l p a b c d o).1.parent,I (z0l ⟨x⟩ l p a b c d o).1.height,I (z0l ⟨x⟩ l p a b c d o).1.work,I (z0l ⟨x⟩ l p a b c d o).1.nonce,.l 3 ((z0l ⟨x⟩ l p a b c d o).1.txs.map eTx),I (z0l ⟨x⟩ l p a b c d o).2] :=
 zg (p:=fun x:List (List UInt8) × List Coin × List Tx × Int × Int × Int × Int × List Op=>(-1≤x.2.2.2.2.1∧x.2.2.2.2.1≤1000)∧x.2.2.2.2.2.2.2.length≤8796093022208) (f:=fun x:List (List UInt8) × List Coin × List Tx × Int × Int × Int × Int × List Op=>z0l ⟨x.1⟩ x.2.1 x.2.2.1 x.2.2.2.1 x.2.2.2.2.1 x.2.2.2.2.2.1 x.2.2.2.2.2.2.1 x.2.2.2.2.2.2.2) (x,l,p,a,b,c,d,o) ⟨h,h2⟩
theorem zdd (a b c d:Int) (l:List Tx):z32 [I a,I b,I c,I d,.l 3 (l.map eTx)]=some [I (zq ⟨a,b,c,d,l⟩)]:=zol ⟨a,b,c,d,l⟩
theorem zho (n:Int):0≤z0u n∧z0u n≤1000:=zhg n
def z026:T :=
 .lets [.bin .neq 38 (zI 0)] [] (.ite 39 (.ret [zI 0,zI 0,zI 0,zI 0,.c (.nil 3),38]) (.ret [3,35,5,.v
 6,37,zI 0]))
def z027:T :=
 .lets [.bin .add 4 (zI 1)] [] (.lets [.mk 3 [[31,.c (.nil 3),34]]] [] (.lets [.app 3 36 20] [] (.lets [.call 64 [3,35,5,6,37] 0]
 [] z026)))
def z028:T :=
 .lets [.bin .add 4 (zI 1)] [] (.lets [.bin .add 26 22] [] (.lets [.call 10 [7] 0] [] (.lets [.mk 2 [[32,33]]] [] z027)))
def z029:T :=
 .lets [.bin .eql 29 (zI 0)] [] (.ite 30 (.ret [zI 0,zI 0,zI 0,zI 0,.c (.nil 3),zI 9]) z028)
def z02a:T :=
 .lets [.bin .neq 27 (zI 0)] [] (.ite 28 (.ret [zI 0,zI 0,zI 0,zI 0,.c (.nil 3),27]) (.lets [.bin .add 26 (.v
 22)] [] z029))
def z02b:T :=
 .ite 24 (.ret [zI 0,zI 0,zI 0,zI 0,.c (.nil 3),23]) (.lets [.bin .add 4 (zI 1)] [] (.lets [.call 66 [25] 0,
 .call 66 [25] 1] [] z02a))
def z02c:T :=
 .lets [.call 90 [0,1,17,18] 0,.call 90 [0,1,17,18] 1,.call 90 [0,1,17,18] 2,.call 90 [0,1,17,18] 3,.call 90 [0,.v
 1,17,18] 4] [] (.lets [.bin .neq 23 (zI 0)] [] z02b)
def z02d:T :=
 .lets [.len 10] [] (.lets [.mn 15 (zI 3)] [] (.lets [.sub 3 10 none (some 16)] [] (.lets [.bin .add 4 (zI 1)] [] z02c)))
def z02e:T :=
 .lets [.bin .neq 13 (zI 0)] [] (.ite 14 (.ret [zI 0,zI 0,zI 0,zI 0,.c (.nil 3),13]) z02d)
def z02f:T :=
 .lets [.call 90 [0,1,2,8] 0,.call 90 [0,1,2,8] 1,.call 90 [0,1,2,8] 2,.call 90 [0,1,2,8] 3,.call 90 [0,1,.v
 2,8] 4] [] z02e
def z60:T :=
 .lets [.bin .add 4 (zI 1)] [] z02f
attribute [local irreducible] z32 z3c z2t
theorem z0ci:Meets Tryz.prog z81 18 ⟨[.agg 1,.one,.one,.one,.one,.one,.one,.one],[(true,[.scal,.scal,.scal,.scal,.pure]),(false,[.scal])],false⟩:=by
 refine zj (sp:=(z07 [(10,z3c),(64,z32),(66,z2t),(90,z1t)])) (sigs:=z0i) (cut:=[]) (hints:=[]) (fn:=Tryz.f18) (t:=z60) (by kernel_rfl) (by kernel_rfl) (by kernel_rfl) ?_ ?_
 ·exact (z01 (L:=[(10,z3c),(64,z32),(66,z2t),(90,z1t)]) ⟨za rfl zh3,za rfl zmc,za rfl zhh,za rfl zad,trivial⟩)
 ·rintro ds rs - h
  obtain ⟨⟨x,l,p,a,b,c,d,o⟩,⟨hb,ho⟩,rfl,rfl⟩:=zi h;clear h;simp only at hb ho;refine ⟨⟨1,?_⟩,z52 ⟨rfl,rfl,rfl,rfl,rfl,trivial⟩⟩
  show den _ _ z60 [.l 1 (x.map z0g),.l 6 (l.map zd),.l 3 (p.map eTx),I a,I b,I c,I d,.l 2 (o.map eOp)] []=ret (z0l ⟨x⟩ l p a b c d o)
  have a1:=z39 x l p (b+1);have hs:=(z46 ⟨x⟩ l p (b+1)).1;unfold z60 z0l;generalize zt ⟨x⟩ l p (b+1)=q at *;obtain ⟨qx,qs,qm,qf,qe⟩:=q;simp only at *;have a2:=z39 x l (qs.take 3) (b+1);have hz:=z46 ⟨x⟩ l (qs.take 3) (b+1);generalize zt ⟨x⟩ l (qs.take 3) (b+1)=w at *;obtain ⟨wx,ws,wm,wf,we⟩:=w;simp only at *;unfold zis;have a3:=zcp (b+1);have a4:=z5v o ho;have hr:=zho (b+1);generalize z0u (b+1)=rn at *;generalize z2b (b+1)=re at *;have a5:=zdd a (b+1) c d (⟨b+1,[],[⟨rn+wf,o⟩]⟩::ws);generalize zq ⟨a,b+1,c,d,⟨b+1,[],[⟨rn+wf,o⟩]⟩::ws⟩=be at *;have ht:qs.take (if 3<(qs.length:Int) then 3 else (qs.length:Int)).toNat=qs.take 3:=by
   by_cases h3:3<(qs.length:Int)
   ·rw [if_pos h3];rfl
   ·rw [if_neg h3,zY2x,zY1a,zY0p (by omega)]
  repeat' (first|refine dq1 ?_|refine dqK rfl (a1) ?_|refine dqK rfl (a2) ?_|refine dqK rfl (a3) ?_|refine dqk rfl (a4) ?_|refine dqk rfl (a5) ?_|refine z4 (z28 rfl rfl (by simp)) ?_|refine z4 (zam (l:=[⟨b+1,[],[⟨rn+wf,o⟩]⟩]) (l':=ws) rfl rfl (by simp;omega)) ?_|exact z5 rfl rfl|refine tR (fun h=>?_) fun h=>?_|fail)
end
section
open Go.RowKit
open Go.Lib (itoa)
set_option maxRecDepth 100000
set_option maxHeartbeats 4000000
def poC:Coin:=⟨⟨1,0⟩,⟨9,[]⟩,1,false⟩
def poT:Tx:=⟨0,[⟨⟨1,0⟩,[⟨1,1⟩]⟩],[⟨6,[]⟩]⟩
def poB:Book:=⟨(z11 ⟨[]⟩ [poC] [] poT 4).1⟩
theorem z0q6:(z11 ⟨[]⟩ [poC] [] poT 4).2=([poT],0):=by with_unfolding_all decide +kernel
theorem z0q7:(z11 poB [poC] [poT] poT 4).2.2=6:=by with_unfolding_all decide +kernel
theorem po_m:(z0l poB [poC] [poT] 5 3 1 0 []).2=0∧(z0l poB [poC] [poT] 5 3 1 0 []).1.txs.length=2∧((z0l poB [poC] [poT] 5 3 1 0 []).1.txs[0]?).map (fun t=>(t.outs.length,(t.outs[0]?).map Out.coin))=some (1,some 67):=by with_unfolding_all decide +kernel
theorem z0q8 {l:List Tx} (h:(l[0]?).map (fun t=>(t.outs.length,(t.outs[0]?).map Out.coin))=some (1,some 67)):∃ t o,l[(0:Int).toNat]? = some t∧t.outs[(0:Int).toNat]? = some o∧t.outs.length=1∧o.coin=67:=by
 cases l with
 | nil=>cases h
 | cons t l =>
  obtain ⟨a,b,c⟩:=t
  cases c with
  | nil=>cases h
  | cons o c =>
   simp only [zY04,zY10,zY00,zY0x] at h;exact ⟨_,o,rfl,rfl,h.1,h.2⟩
attribute [local irreducible] den denX z0f z0k
noncomputable def z61:z9:=spD (fun _:Unit=>True) fun _=>true
theorem zg7:z61 []=some [.b true]:=zg (f:=fun _:Unit=>true) () trivial
attribute [local irreducible] z00 spD z11 z0l
def z086:T :=
 .lets [.idx 14 (zI 0) 2] [] (.lets [] [.inr 2 26 (zI 0)] (.lets [.idx 26 (zI 0) 0] [] (.lets [.bin .eql 27 (zI 67)] []
 (.ret [28]))))
def z087:T :=
 .lets [.len 23] [] (.lets [.bin .eql 24 (zI 1)] [] (.ite 25 (.lets [] [.inr 3 14 (zI 0)] z086) (.ret [.c (.b false)])))
def z088:T :=
 .lets [.bin .eql 21 (zI 2)] [] (.ite 22 (.lets [] [.inr 3 14 (zI 0)] (.lets [.idx 14 (zI 0) 2] [] z087)) (.ret [.c (.b
 false)]))
def z089:T :=
 .ite 18 (.lets [.len 5] [] (.lets [.bin .eql 19 (zI 1)] [] (.ite 20 (.lets [.len 14] [] z088) (.ret [.c (.b false)])))) (.ret [.c (.b
 false)])
def z08a:T :=
 .ite 16 (.lets [.bin .eql 9 (zI 6)] [] (.ite 17 (.lets [.bin .eql 15 (zI 0)] [] z089) (.ret [.c (.b false)]))) (.ret [.c (.b false)])
def z08b:T :=
 .lets [.call 92 [4,0,5,zI 5,zI 3,zI 1,zI 0,.c (.nil 2)] 0,.call 92 [4,0,5,zI 5,zI 3,.c (.i
 .i64 1),zI 0,.c (.nil 2)] 1,.call 92 [4,0,5,zI 5,zI 3,zI 1,zI 0,.c (.nil 2)] 2,.call 92 [4,0,5,.c
 (.i .i64 5),zI 3,zI 1,zI 0,.c (.nil 2)] 3,.call 92 [4,0,5,zI 5,zI 3,zI 1,zI 0,.c (.nil 2)]
 4,.call 92 [4,0,5,zI 5,zI 3,zI 1,zI 0,.c (.nil 2)] 5] [] (.lets [.bin .eql 6 (zI 0)] [] z08a)
def z08c:T :=
 .lets [.call 91 [4,0,5,zI 0,2,3,zI 4] 0,.call 91 [4,0,5,zI 0,2,3,zI 4] 1,.call 91 [4,0,.v
 5,zI 0,2,3,zI 4] 2] [] z08b
def z08d:T :=
 .lets [.call 91 [.c (.nil 1),0,.c (.nil 3),zI 0,2,3,zI 4] 0,.call 91 [.c (.nil 1),0,.c (.nil 3),zI 0,2,3,zI 4]
 1,.call 91 [.c (.nil 1),0,.c (.nil 3),zI 0,2,3,zI 4] 2] [] z08c
def z08e:T :=
 .lets [.mk 2 [[zI 1,zI 1]]] [] (.lets [.mk 3 [[zI 1,zI 0,1]]] [] (.lets [.mk 2 [[zI 6,.c (.nil 2)]]] [] z08d))
def zhp:T :=
 .lets [.mk 6 [[zI 1,zI 0,zI 9,.c (.nil 2),zI 1,.c (.b false)]]] [] z08e
attribute [local irreducible] z3e z81
theorem zro:Meets Tryz.prog z61 11 ⟨[],[(false,[.scal])],true⟩:=by
 refine zj (sp:=(z07 [(91,z3e),(92,z81)])) (sigs:=z0i) (cut:=[]) (hints:=[]) (fn:=Tryz.f11) (t:=zhp) (by kernel_rfl) (by kernel_rfl) (by kernel_rfl) ?_ ?_
 ·exact (z01 (L:=[(91,z3e),(92,z81)]) ⟨za rfl zhn,za rfl z0ci,trivial⟩)
 ·rintro ds rs - h
  obtain ⟨⟨⟩,-,rfl,rfl⟩:=zi h;clear h;refine ⟨⟨1,?_⟩,zy rfl⟩
  show den _ _ zhp [] []=ret true
  have a1:=z8e [] [poC] [] poT 4;rw [z0q6] at a1;have a2:=z8e poB.texts [poC] [poT] poT 4;have a3:=zoy poB.texts [poC] [poT] 5 3 1 0 [] ⟨by decide,by decide⟩ (by decide);have e2:(z11 ⟨poB.texts⟩ [poC] [poT] poT 4).2.2=6:=z0q7;rw [e2] at a2;obtain ⟨e3,e4,e5⟩:=po_m;have e6:z0l ⟨poB.texts⟩ [poC] [poT] 5 3 1 0 []=z0l poB [poC] [poT] 5 3 1 0 []:=rfl;rw [e6,e3] at a3;generalize (z11 ⟨poB.texts⟩ [poC] [poT] poT 4).1=w1 at *;generalize (z11 ⟨poB.texts⟩ [poC] [poT] poT 4).2.1=w2 at *;obtain ⟨t0,o0,g1,g2,g3,g4⟩:=z0q8 e5;clear e5 e3 e6 e2;generalize (z0l poB [poC] [poT] 5 3 1 0 []).1=mb at *;obtain ⟨mp,mh,mw,mn,mt⟩:=mb;simp only at *;have hx:(z11 ⟨[]⟩ [poC] [] poT 4).1=poB.texts:=rfl;rw [hx] at a1;generalize poB.texts=kx at *;unfold zhp;have hd:=decide_eq_true g4
  repeat' (first|refine dq1 ?_|refine dqc ?_|refine dqK rfl (a1) ?_|refine dqK rfl (a2) ?_|refine dqK rfl (a3) ?_|refine z4 (z28 rfl rfl (by simp)) ?_|refine dqT ?_|refine z0h rfl ?_|fail)
  all_goals (simp only [hd];exact z5 rfl rfl)
end
section
open Go.RowKit
set_option maxRecDepth 100000
theorem Done.total {l:List Coin} {t:Tx} {nm h:Int} {r s m:List Coin} (d:Done l t nm h r s m):zh m=zh l - z16 t s:=by
 have h1:=d.spentAs.total;have h2:=d.broughtAs.total;rw [zkc];omega
theorem Done.most {l:List Coin} {t:Tx} {nm h:Int} {r s m:List Coin} (d:Done l t nm h r s m):zh m≤zh l - z16 t []:=by
 have S:=d.spentAs;have h1:=S.total;have h2:=d.broughtAs.total;have hs:0≤zh s:=zci fun c hc=>d.ok.good c (S.from hc).1
 rw [zkc];simp only [zh];omega
theorem getD_set_ne {α:Type} {l:List α} {i j:Nat} {x d:α} (h:i≠j):(l.set i x).getD j d=l.getD j d:=by
 rw [zY16,zY0e h,← zY16]
end
section
open Go.RowKit
set_option maxRecDepth 100000
end
section
open Go.RowKit
set_option maxRecDepth 100000
end
section
open Go.RowKit
set_option maxRecDepth 100000
inductive RunC (h:Int) (y:List zb2):List Coin→List Tx→List Coin→Int→Prop where
 | nil (m:List Coin):RunC h y m [] m 0
 | cons {m m1 m' sp:List Coin} {t:Tx} {K:List Tx} {f:Int}:zf t=0→t.ins.length≠0→(z0d t).length≤4000→0≤idx y (z0d t)→zp m t (idx y (z0d t)+1) h=(m1,sp,0)→RunC h y m1 K m' f→RunC h y m (t::K) m' (z16 t sp+f)
theorem RunC.more {h:Int} {y z:List zb2} {m m':List Coin} {K:List Tx} {f:Int} (hp:y <+: z) (R:RunC h y m K m' f):RunC h z m K m' f:=by
 induction R with
 | nil m=>exact .nil m
 | cons h1 h2 h3 h4 h5 _ ih =>
  have e:=zma hp h4;exact .cons h1 h2 h3 (by omega) (by rw [e];exact h5) ih
theorem z08f {m m1 sp:List Coin} {t:Tx} {nm h:Int} (hi:t.ins.length≠0) (h0:zp m t nm h=(m1,sp,0)):CoinsOK m∧CoinsOK m1∧0≤z16 t sp∧zh m1=zh m - z16 t sp:=by
 obtain ⟨r,d⟩:=zfq (l:=m) (t:=t) (nm:=nm) (h:=h) (by rw [h0]);rw [h0] at d;exact ⟨d.ok,d.end_,d.fee hi,d.total⟩
theorem RunC.facts {h:Int} {y:List zb2} {m m':List Coin} {K:List Tx} {f:Int} (R:RunC h y m K m' f):0≤f∧zh m'=zh m - f∧(CoinsOK m→CoinsOK m'):=by
 induction R with
 | nil m=>exact ⟨by omega,by omega,fun h=>h⟩
 | cons h1 h2 h3 h4 h5 _ ih =>
  obtain ⟨a,b,c,d⟩:=z08f h2 h5;obtain ⟨e,f,g⟩:=ih;exact ⟨by omega,by omega,fun _=>g b⟩
theorem RunC.part {h:Int} {y:List zb2} {m':List Coin} {L:List Tx}:∀ {K:List Tx} {m:List Coin} {f:Int},RunC h y m (K++L) m' f→∃ m1 f1 f2,RunC h y m K m1 f1∧RunC h y m1 L m' f2
 | [],m,f,R=>⟨m,0,f,.nil m,R⟩
 | t::K,m,f,R=>by
  rw [zY1j] at R
  cases R with
  | cons h1 h2 h3 h4 h5 R =>
   obtain ⟨m1,f1,f2,a,b⟩:=RunC.part R;exact ⟨m1,_,f2,.cons h1 h2 h3 h4 h5 a,b⟩
theorem z0jl {x:List zb2} {s:zb2} (hx:zei x) (h:z1y ⟨x⟩ s=0):s.length≤4000∧zei (z2c ⟨x⟩ s)∧x <+: z2c ⟨x⟩ s∧0≤idx (z2c ⟨x⟩ s) s∧z14 ⟨x⟩ s=idx (z2c ⟨x⟩ s) s+1:=by
 have hc:=(zb3 x).2 hx;unfold z1y at h;rw [if_neg (fun k=>k hc)] at h
 by_cases hl:4000<s.length
 ·rw [if_pos hl] at h;exact absurd h (by decide)
 rw [if_neg hl] at h;have e1:z2c ⟨x⟩ s=z37 x s:=by
  unfold z2c;rw [if_neg (fun k=>k hc),if_neg hl]
 have e2:z14 ⟨x⟩ s=z30 x s:=by
  unfold z14;rw [if_neg (fun k=>k hc),if_neg hl]
 rw [e1,e2];obtain ⟨a,b,c,d⟩:=z0mi hx (by omega) h;exact ⟨by omega,a,b,c,d⟩
end
section
open Go.RowKit
set_option maxRecDepth 100000
end
section
open Go.RowKit
set_option maxRecDepth 100000
end
section
open Go.RowKit
set_option maxRecDepth 100000
def z0cj (x:Node):List Dt:=zf3 x.t++[.l 3 (x.pool.map eTx),I x.tip]
theorem z0gb (x y:Node) (h:z0cj x=z0cj y):x=y:=by
 obtain ⟨t,p,n⟩:=x;obtain ⟨t',p',n'⟩:=y;obtain ⟨h1,h2⟩:=List.append_inj' h rfl;simp only [zY22,Dt.l.injEq,true_and,and_true] at h2;obtain rfl:=zqy t t' h1;obtain rfl:=z3u znr h2.1;obtain rfl:=zjv n n' (by unfold z19;rw [h2.2]);rfl
instance:Enc Node:=⟨z0cj,4,fun _=>rfl,z0gb⟩
end
section
open Go.RowKit
set_option maxRecDepth 100000
set_option maxHeartbeats 4000000
attribute [local irreducible] z00 spD
attribute [local irreducible] den denX z0f z0k
theorem z0p8 (x y:Tx):decide (x=y)=if x.height≠y.height then false else if (x.ins.length:Int)≠y.ins.length then false else (decide (x.ins=y.ins) && decide (x.outs=y.outs)):=by
 obtain ⟨h,i,o⟩:=x;obtain ⟨h',i',o'⟩:=y
 by_cases h1:h=h'
 ·by_cases h2:i=i'
  ·subst h1;subst h2;simp
  ·simp [h1,h2]
 ·simp [h1]
theorem z0p9 (x y:In) (b:Bool) (r s:List In):(decide (x::r=y::s) && b)=if x.p≠y.p then false else if decide (x.key=y.key)=true then (decide (r=s) && b) else false:=by
 obtain ⟨p,k⟩:=x;obtain ⟨p',k'⟩:=y
 by_cases h1:p=p'
 ·by_cases h2:k=k'
  ·subst h1;subst h2;simp
  ·simp [h1,h2]
 ·simp [h1]
theorem z02g {α:Type} [DecidableEq α] (x y:α) (r s:List α):decide (x::r=y::s)=if decide (x=y)=true then decide (r=s) else false:=by
 by_cases h:x=y
 ·simp [h]
 ·simp [h]
theorem z0mr (x y:Block):decide (x=y)=if x.parent=y.parent then (if x.height=y.height then (if x.work=y.work then (if x.nonce=y.nonce then decide (x.txs=y.txs) else false) else false) else false) else false:=by
 obtain ⟨a,b,c,d,e⟩:=x;obtain ⟨a',b',c',d',e'⟩:=y
 by_cases h1:a=a' <;> by_cases h2:b=b' <;> by_cases h3:c=c' <;> by_cases h4:d=d' <;> simp [h1,h2,h3,h4]
noncomputable def z3a:z9:=spD (fun _:Tx × Tx=>True) fun x=>decide (x.1=x.2)
theorem zb4 (x y:Tx):z3a (eTx x++eTx y)=some [.b (decide (x=y))]:=zg (f:=fun x:Tx × Tx=>decide (x.1=x.2)) (x,y) trivial
def z08g:T :=
 .lets [.call 19 [16,20] 0] [] (.lets [.not 21] [] (.ite 22 (.ret [.c (.b false)]) (.lets [.bin .add 12 (zI 1)] [] (.again 0 [11,23]))))
def z08h:T :=
 .lets [.eqs true [(.v 14,.v 17),(.v 15,.v 18)]] [] (.ite 19 (.ret [.c (.b false)]) (.lets [] [.inr 3 4 12] (.lets [.idx 4 12 2] [] z08g)))
def z08i:T :=
 .lets [.idx 1 12 0,.idx 1 12 1,.idx 1 12 2] [] (.lets [] [.inr 3 4 12] (.lets [.idx 4 12 0,.idx 4 12 1] []
 z08h))
def z08j:T :=
 .lets [.call 22 [21,22,23,24] 0] [] (.lets [.not 25] [] (.ite 26 (.ret [.c (.b false)]) (.lets [.bin .add 19 (zI 1)] [] (.again 1 [18,.v
 27]))))
def z08k:T :=
 .lets [] [.inr 2 2 19] (.lets [.idx 2 19 0,.idx 2 19 1] [] (.lets [] [.inr 2 5 19] (.lets [.idx 5 19 0,.idx 5 19 1] []
 z08j)))
def z08l:T :=
 .ite 16 (.ret [.c (.b false)]) (.lets [.len 2] [] (.loop [.c (.b false),zI 0] (.lets [.bin .lss 19 17] [] (.ite 20 z08k (.ret [.c (.b
 true)])))))
def z08m:T :=
 .lets [.bin .lss 12 10] [] (.ite 13 (.lets [] [.inr 3 1 12] z08i) (.lets [.len 2] [] (.lets [.len 5] [] (.lets [.bin .neq 14 15]
 [] z08l))))
def z08n:T :=
 .lets [.len 4] [] (.lets [.bin .neq 7 8] [] (.ite 9 (.ret [.c (.b false)]) (.lets [.len 1] [] (.loop [.c (.b false),zI 0] z08m))))
def zhq:T :=
 .lets [.bin .neq 0 3] [] (.ite 6 (.ret [.c (.b false)]) (.lets [.len 1] [] z08n))
attribute [local irreducible] z3z z49
theorem zhr:Meets Tryz.prog z3a 15 ⟨[.agg 3,.agg 3],[(false,[.scal])],true⟩:=by
 refine z5r (sp:=(z07 [(19,z3z),(22,z49)])) (sigs:=z0i) (cut:=[]) (hints:=[⟨4,[.t 4,.t 24]⟩]) (fns:=[z6s 58 Tryz.f58 [⟨4,[.t 6,.t 17]⟩] []]) (dep:=1) (pool:=400) (fn:=Tryz.f15) (t:=zhq) (by kernel_rfl) (by kernel_rfl) (by kernel_rfl) ?_ ?_ ?_
 ·exact (z1x (fn:=Tryz.f58) (by kernel_rfl) (by kernel_rfl) (by kernel_rfl) (by kernel_rfl) (by kernel_rfl) z6t)
 ·exact (z01 (L:=[(19,z3z),(22,z49)]) ⟨za rfl zir,za rfl zm9,trivial⟩)
 ·rintro ds rs hok h
  obtain ⟨⟨x,y⟩,-,rfl,rfl⟩:=zi h;clear h;have hl1:=zfl (hok (.l 3 (x.ins.map eIn)) (zY0d _ (zY0h ..)));have hl2:=zfl (hok (.l 2 (x.outs.map z17)) (zY0d _ (zY0d _ (zY0h ..))));clear hok;refine ⟨⟨x.ins.length+x.outs.length+1,?_⟩,zy rfl⟩
  show den _ _ zhq [I x.height,.l 3 (x.ins.map eIn),.l 2 (x.outs.map z17),I y.height,.l 3 (y.ins.map eIn),.l 2 (y.outs.map z17)] []=ret (decide (x=y))
  rw [z0p8];obtain ⟨xh,xi,xo⟩:=x;obtain ⟨yh,yi,yo⟩:=y;simp only at hl1 hl2 ⊢;unfold zhq
  repeat' (first|refine dq1 ?_|exact z5 rfl rfl|refine tR (fun h=>?_) fun h=>?_|fail)
  have hlm:xi.length=yi.length:=by omega
  (refine zw (fun (_:Unit) k=>[.b false,I k]) (fun (_:Unit) k (r:List In)=>(decide (r=yi.drop k) && decide (xo=yo))) (fun _ _=>True) () xi ?_ ?_ ?_ ?_ ?_;rfl;exact trivial;omega)
  ·rintro _ k z r hx hd hk - again hag
   have hy:yi[k]? = some (yi[k]'(by omega)):=zY03 (by omega);have hdy:yi.drop k=yi[k]'(by omega)::yi.drop (k+1):=zY14 (by omega);rw [hdy];generalize yi[k]'(by omega)=v at *;rw [z0p9];have hkm:k<yi.length:=by omega
   have hag:=hag () trivial
   repeat' (first|refine dq1 ?_|refine dqc ?_|refine dqm ?_|refine dqk rfl (zac z.key v.key) ?_|exact z6 rfl rfl hag|exact z5 rfl rfl|((first|refine tR ?_ ?_|refine tN ?_ ?_) <;> intro h)|refine dqT ?_|fail)
  ·rintro _ - again
   rw [hlm,zY21,decide_eq_true (rfl:([]:List In)=[]),zY2y,z74]
   repeat' (first|refine dq1 ?_|exact z5 rfl rfl|refine tR (fun h=>?_) fun h=>?_|refine dqF ?_|fail)
   have hlo:xo.length=yo.length:=by omega
   (refine zw (fun (_:Unit) k=>[.b false,I k]) (fun (_:Unit) k (r:List Out)=>decide (r=yo.drop k)) (fun _ _=>True) () xo ?_ ?_ ?_ ?_ ?_;rfl;exact trivial;omega)
   ·rintro _ k z r hx hd hk - again hag
    have hy:yo[k]? = some (yo[k]'(by omega)):=zY03 (by omega);have hdy:yo.drop k=yo[k]'(by omega)::yo.drop (k+1):=zY14 (by omega);rw [hdy];generalize yo[k]'(by omega)=v at *;rw [z02g];have hkm:k<yo.length:=by omega
    have hag:=hag () trivial
    repeat' (first|refine dq1 ?_|refine dqc ?_|refine dqm ?_|refine dqk rfl (zeg z v) ?_|exact z6 rfl rfl hag|exact z5 rfl rfl|refine tN (fun h=>?_) fun h=>?_|refine dqT ?_|fail)
   ·rintro _ - again
    rw [hlo,zY21]
    repeat' (first|refine dq1 ?_|exact z5 rfl rfl|refine dqF ?_|fail)
noncomputable def z6d:z9:=spD (fun _:Block × Block=>True) fun x=>decide (x.1=x.2)
theorem zoz (x y:Block):z6d [I x.parent,I x.height,I x.work,I x.nonce,.l 3 (x.txs.map eTx),I y.parent,I y.height,I y.work,I y.nonce,.l 3 (y.txs.map eTx)]=some [.b (decide (x=y))]:=zg (f:=fun x:Block × Block=>decide (x.1=x.2)) (x,y) trivial
def z02h:T :=
 .lets [.call 72 [21,22,23,24,25,26] 0] [] (.lets [.not 27] [] (.ite 28 (.ret [.c (.b false)]) (.lets [.bin .add 19 (zI 1)] [] (.again
 0 [18,29]))))
def z02i:T :=
 .lets [.idx 4 19 0,.idx 4 19 1,.idx 4 19 2] [] (.lets [] [.inr 3 9 19] (.lets [.idx 9 19 0,.idx 9 19 1,.idx 9
 19 2] [] z02h))
def z02j:T :=
 .loop [.c (.b false),zI 0] (.lets [.bin .lss 19 17] [] (.ite 20 (.lets [] [.inr 3 4 19] z02i) (.ret [.c (.b true)])))
def z02k:T :=
 .lets [.len 4] [] (.lets [.len 9] [] (.lets [.bin .neq 14 15] [] (.ite 16 (.ret [.c (.b false)]) (.lets [.len 4] [] z02j))))
def z02l:T :=
 .ite 11 (.lets [.bin .eql 2 7] [] (.ite 12 (.lets [.bin .eql 3 8] [] (.ite 13 z02k (.ret [.c (.b false)]))) (.ret [.c (.b false)]))) (.ret
 [.c (.b false)])
def zfs:T :=
 .lets [.bin .eql 0 5] [] (.ite 10 (.lets [.bin .eql 1 6] [] z02l) (.ret [.c (.b false)]))
theorem z0ck:Meets Tryz.prog z6d 21 ⟨[.agg 5,.agg 5],[(false,[.scal])],true⟩:=by
 refine z5r (sp:=(z07 [(72,z3a)])) (sigs:=z0i) (cut:=[]) (hints:=[]) (fns:=[z6s 14 Tryz.f14 [⟨4,[.t 6,.t 17]⟩] []]) (dep:=1) (pool:=400) (fn:=Tryz.f21) (t:=zfs) (by kernel_rfl) (by kernel_rfl) (by kernel_rfl) ?_ ?_ ?_
 ·exact (z1x (fn:=Tryz.f14) (by kernel_rfl) (by kernel_rfl) (by kernel_rfl) (by kernel_rfl) (by kernel_rfl) z6t)
 ·exact (z01 (L:=[(72,z3a)]) ⟨za rfl zhr,trivial⟩)
 ·rintro ds rs hok h
  obtain ⟨⟨x,y⟩,-,rfl,rfl⟩:=zi h;clear h;have hl1:=zfl (hok (.l 3 (x.txs.map eTx)) (zY0d _ (zY0d _ (zY0d _ (zY0d _ (zY0h ..))))));clear hok;refine ⟨⟨x.txs.length+1,?_⟩,zy rfl⟩
  show den _ _ zfs [I x.parent,I x.height,I x.work,I x.nonce,.l 3 (x.txs.map eTx),I y.parent,I y.height,I y.work,I y.nonce,.l 3 (y.txs.map eTx)] []=ret (decide (x=y))
  rw [z0mr,z74];obtain ⟨xa,xb,xc,xd,xl⟩:=x;obtain ⟨ya,yb,yc,yd,yl⟩:=y;simp only at hl1 ⊢;unfold zfs
  repeat' (first|refine dq1 ?_|exact z5 rfl rfl|refine tR (fun h=>?_) fun h=>?_|fail)
  have hlm:xl.length=yl.length:=by omega
  (refine zw (fun (_:Unit) k=>[.b false,I k]) (fun (_:Unit) k (r:List Tx)=>decide (r=yl.drop k)) (fun _ _=>True) () xl ?_ ?_ ?_ ?_ ?_;rfl;exact trivial;omega)
  ·rintro _ k z r hx hd hk - again hag
   have hy:yl[k]? = some (yl[k]'(by omega)):=zY03 (by omega);have hdy:yl.drop k=yl[k]'(by omega)::yl.drop (k+1):=zY14 (by omega);rw [hdy];generalize yl[k]'(by omega)=v at *;rw [z02g];have hkm:k<yl.length:=by omega
   have hag:=hag () trivial
   repeat' (first|refine dq1 ?_|refine dqc ?_|refine dqm ?_|refine dqk rfl (zb4 z v) ?_|exact z6 rfl rfl hag|exact z5 rfl rfl|refine tN (fun h=>?_) fun h=>?_|refine dqT ?_|fail)
  ·rintro _ - again
   rw [hlm,zY21]
   repeat' (first|refine dq1 ?_|exact z5 rfl rfl|refine dqF ?_|fail)
end
section
open Go.RowKit
set_option maxRecDepth 100000
set_option maxHeartbeats 4000000
noncomputable def z9a:z9:=spD (fun _:List Op=>True) fun l=>z7 l
theorem zmk (l:List Op):z9a [.l 2 (l.map eOp)]=some [I (z7 l)]:=zg (f:=fun l:List Op=>z7 l) l trivial
theorem z08o:Meets Tryz.prog z9a 67 ⟨[.one],[(false,[.scal])],true⟩ :=
 za5 (e:=fun x:{ x:List Op // True }=>Enc.e x.1) (d:=fun x=>I (z7 x.1)) rfl (z23 (fn:=Tryz.f67) (by kernel_rfl) (by kernel_rfl) (by kernel_rfl)) (fun _=>rfl) fun x W F us hF h=>by
  obtain ⟨v,us,rfl,h1,h⟩:=z1f h;obtain rfl:=z2a h;obtain ⟨A,n,c,rfl,k1⟩:=z3t z7z h1;exact (zfk x.1 A n c W F k1 hF).mono fun e w' h=>⟨_,h.1,h.2,.i _ _ (wrap_i64 (zlq x.1).i64)⟩
noncomputable def z7o:z9:=spD (fun _:Point × Point=>True) fun x=>decide (ltP x.1 x.2)
theorem zg8 (p q:Point):z7o [I p.tx,I p.at_,I q.tx,I q.at_]=some [.b (decide (ltP p q))]:=zg (f:=fun x:Point × Point=>decide (ltP x.1 x.2)) (p,q) trivial
attribute [local irreducible] z00 spD z1e
def zml:T :=
 .lets [.bin .gtr 30 (zI 1000000000)] [] (.ite 31 (.ret [zI 12]) (.lets [.bin .add 6 (zI 1)] [] (.again 0 [30,5,32])))
def zmm:T :=
 .lets [.call 24 [26,27,8,9] 0] [] (.lets [.not 28] [] (.ite 29 (.ret [zI 6]) (.lets [.bin .add 4 10] [] zml)))
def zmn:T :=
 .lets [.bin .gtr 25 (zI 1000000000)] [] (.ite 26 (.ret [zI 12]) (.lets [.bin .add 6 (zI 1)] [] (.again 0 [25,5,27])))
def zmo:T :=
 .ite 24 (.lets [.bin .sub 6 (zI 1)] [] (.lets [] [.inr 6 0 25] (.lets [.idx 0 25 0,.idx 0 25 1] [] zmm))) (.lets [.bin
 .add 4 10] [] zmn)
def zmp:T :=
 .lets [.call 23 [11] 0] [] (.lets [.bin .neq 22 (zI 0)] [] (.ite 23 (.ret [22]) (.lets [.bin .gtr 6 (zI 0)] [] zmo)))
def zmq:T :=
 .lets [.bin .lss 12 (zI 1)] [] (.ite 20 (.ret [zI 3]) (.lets [.bin .gtr 12 (zI 1000)] [] (.ite 21 (.ret [zI 3])
 zmp)))
def zmr:T :=
 .lets [.bin .lss 10 (zI 1)] [] (.ite 18 (.ret [zI 3]) (.lets [.bin .gtr 10 (zI 1000000000)] [] (.ite 19 (.ret [zI 3])
 zmq)))
def zms:T :=
 .lets [.bin .lss 9 (zI 0)] [] (.ite 16 (.ret [zI 3]) (.lets [.bin .gtr 9 (zI 5)] [] (.ite 17 (.ret [zI 3])
 zmr)))
def zmt:T :=
 .lets [.bin .lss 8 (zI 1)] [] (.ite 14 (.ret [zI 3]) (.lets [.bin .gtr 8 (zI 120)] [] (.ite 15 (.ret [zI 3])
 zms)))
def zmu:T :=
 .lets [] [.inr 6 0 6] (.lets [.idx 0 6 0,.idx 0 6 1,.idx 0 6 2,.idx 0 6 3,.idx 0 6 4,.idx 0 6 5] []
 zmt)
def zke:T :=
 .lets [.len 0] [] (.loop [zI 0,zI 0,zI 0] (.lets [.bin .lss 6 3] [] (.ite 7 zmu (.ret [zI 0]))))
def zb5:T :=
 .lets [.len 0] [] (.lets [.bin .gtr 1 (zI 720)] [] (.ite 2 (.ret [zI 2]) zke))
theorem z0ms (p q:Point):(decide (p.tx<q.tx) || (decide (p.tx=q.tx) && decide (p.at_<q.at_)))=decide (ltP p q):=by
 unfold ltP
 by_cases h1:p.tx<q.tx <;> by_cases h2:p.tx=q.tx <;> by_cases h3:p.at_<q.at_ <;> simp [h1,h2,h3]
theorem zrp:Meets Tryz.prog z7o 68 ⟨[.agg 2,.agg 2],[(false,[.scal])],true⟩:=by
 refine zj (sp:=(z07 [])) (sigs:=z0i) (cut:=[]) (hints:=[]) (fn:=Tryz.f68) (t:=zhd) (by kernel_rfl) (by kernel_rfl) (by kernel_rfl) ?_ ?_
 ·exact (z01 (L:=[]) trivial)
 ·rintro ds rs - h
  obtain ⟨⟨p,q⟩,-,rfl,rfl⟩:=zi h;clear h;refine ⟨⟨1,?_⟩,zy rfl⟩
  show den _ _ zhd [I p.tx,I p.at_,I q.tx,I q.at_] []=ret (decide (ltP p q))
  rw [← z0ms];unfold zhd
  repeat' (first|refine dq1 ?_|refine dqc ?_|refine dqm ?_|exact z5 rfl rfl|((first|refine tR ?_ ?_|refine tB ?_ ?_|refine tC ?_ ?_|refine tN ?_ ?_|refine tF ?_ ?_|refine tG ?_ ?_|refine tP ?_ ?_|refine tQ ?_ ?_|refine tA ?_ ?_|refine tO ?_ ?_|refine tU ?_ ?_|refine tV ?_ ?_) <;> intro h)|refine dqT ?_|refine dqF ?_|refine z0h rfl ?_|refine z0m rfl ?_|refine zcg ?_|refine z8d ?_)
def z9v:Point→Int→List Coin→Int
 | _,_,[]=>0
 | pv,s,c::r=>if c.p.tx<1∨120<c.p.tx∨c.p.at_<0∨5<c.p.at_∨c.o.coin<1∨1000000000<c.o.coin∨c.height<1∨1000<c.height then 3
  else if z7 c.o.lock≠0 then z7 c.o.lock else if decide (ltP pv c.p)=true then (if 1000000000<s+c.o.coin then 12 else z9v c.p (s+c.o.coin) r) else 6
theorem zjc:∀ (l:List Coin) (p:Point) (s:Int),z9v p s l=z6a p s l
 | [],p,s=>rfl
 | c::l,p,s=>by
  rw [z9v,z6a,zjc l];have e:5<c.p.at_↔6≤c.p.at_:=by omega
  have ho:=zin p c.p;simp only [e]
  by_cases h:ltP p c.p
  ·have:=ho.2 h
   rw [if_pos (c:=decide (ltP p c.p)=true) (by simpa using h),if_neg (c:=0≤z1e p c.p) (by omega)]
  ·have:¬ z1e p c.p<0:=fun hh=>h (ho.1 hh)
   rw [if_neg (c:=decide (ltP p c.p)=true) (by simpa using h),if_pos (c:=0≤z1e p c.p) (by omega)]
noncomputable def z1h:z9:=spD (fun _:List Coin=>True) fun l=>zb l
theorem z5e (l:List Coin):z1h [.l 6 (l.map zd)]=some [I (zb l)]:=zg (f:=fun l:List Coin=>zb l) l trivial
theorem zb6:Meets Tryz.prog z1h 20 ⟨[.one],[(false,[.scal])],true⟩:=by
 refine zj (sp:=(z07 [(23,z9a),(24,z7o)])) (sigs:=z0i) (cut:=[]) (hints:=[⟨5,[.t 3,.t 2,.t 12]⟩]) (fn:=Tryz.f20) (t:=zb5) (by kernel_rfl) (by kernel_rfl) (by kernel_rfl) ?_ ?_
 ·exact (z01 (L:=[(23,z9a),(24,z7o)]) ⟨za rfl z08o,za rfl zrp,trivial⟩)
 ·rintro ds rs - h
  obtain ⟨l,-,rfl,rfl⟩:=zi h;clear h;refine ⟨⟨l.length+1,?_⟩,zy rfl⟩
  show den _ _ zb5 [.l 6 (l.map zd)] []=ret (zb l)
  unfold zb5 zb
  repeat' (first|refine dq1 ?_|refine dqc ?_|refine dqm ?_|exact z5 rfl rfl|((first|refine tR ?_ ?_|refine tB ?_ ?_|refine tC ?_ ?_|refine tN ?_ ?_|refine tF ?_ ?_|refine tG ?_ ?_|refine tP ?_ ?_|refine tQ ?_ ?_|refine tA ?_ ?_|refine tO ?_ ?_|refine tU ?_ ?_|refine tV ?_ ?_) <;> intro h)|refine dqT ?_|refine dqF ?_|refine z0h rfl ?_|refine z0m rfl ?_|refine zcg ?_|refine z8d ?_)
  rw [← zjc]
  (refine zw (fun (st:Point × Int) k=>[I st.2,I 0,I k]) (fun st k (r:List Coin)=>z9v st.1 st.2 r) (fun st k=>((k=0∧st.1=⟨0,0⟩)∨(0<k∧∃ d,l[((k:Int) - 1).toNat]? = some d∧d.p=st.1))∧0≤st.2∧st.2≤1000000000) (⟨0,0⟩,0) l ?_ ?_ ?_ ?_ ?_;rfl;exact ⟨.inl ⟨rfl,rfl⟩,by decide,by decide⟩;first|exact zY1z _|omega)
  ·rintro ⟨pv,s⟩ k c r hx hd hk ⟨hp,hs0,hs1⟩ again hag
   simp only at hp hs0 hs1 ⊢;rw [z9v]
   repeat' (first|refine dq1 ?_|refine dqc ?_|refine dqm ?_|refine dqK rfl (zmk _) ?_|exact z5 rfl rfl|((first|refine tR ?_ ?_|refine tB ?_ ?_|refine tC ?_ ?_|refine tN ?_ ?_|refine tF ?_ ?_|refine tG ?_ ?_|refine tP ?_ ?_|refine tQ ?_ ?_|refine tA ?_ ?_|refine tO ?_ ?_|refine tU ?_ ?_|refine tV ?_ ?_) <;> intro h)|refine dqT ?_|refine dqF ?_|refine z0h rfl ?_|refine z0m rfl ?_|refine zcg ?_|refine z8d ?_)
   refine z36 rfl (fun h=>?_) (fun h=>?_)
   ·obtain ⟨hk0,-⟩|⟨hk0,d,hd',rfl⟩:=hp
    ·omega
    repeat' (first|refine dq1 ?_|refine dqc ?_|refine dqm ?_|refine dqK rfl (zg8 _ _) ?_|exact z5 rfl rfl|((first|refine tR ?_ ?_|refine tB ?_ ?_|refine tC ?_ ?_|refine tN ?_ ?_|refine tF ?_ ?_|refine tG ?_ ?_|refine tP ?_ ?_|refine tQ ?_ ?_|refine tA ?_ ?_|refine tO ?_ ?_|refine tU ?_ ?_|refine tV ?_ ?_) <;> intro h)|refine dqT ?_|refine dqF ?_|refine z0h rfl ?_|refine z0m rfl ?_|refine zcg ?_|refine z8d ?_)
    exact z6 rfl rfl (hag (c.p,s+c.o.coin) ⟨.inr ⟨by omega,c,by simpa using hx,rfl⟩,by simp only;omega,by simp only;omega⟩)
   ·obtain ⟨rfl,rfl⟩|⟨hk0,-⟩:=hp
    ·have ho:ltP ⟨0,0⟩ c.p:=by
      unfold ltP;simp only;omega
     rw [if_pos (by simpa using ho)]
     repeat' (first|refine dq1 ?_|refine dqc ?_|refine dqm ?_|exact z5 rfl rfl|((first|refine tR ?_ ?_|refine tB ?_ ?_|refine tC ?_ ?_|refine tN ?_ ?_|refine tF ?_ ?_|refine tG ?_ ?_|refine tP ?_ ?_|refine tQ ?_ ?_|refine tA ?_ ?_|refine tO ?_ ?_|refine tU ?_ ?_|refine tV ?_ ?_) <;> intro h)|refine dqT ?_|refine dqF ?_|refine z0h rfl ?_|refine z0m rfl ?_|refine zcg ?_|refine z8d ?_)
     exact z6 rfl rfl (hag (c.p,s+c.o.coin) ⟨.inr ⟨by omega,c,by simpa using hx,rfl⟩,by simp only;omega,by simp only;omega⟩)
    ·omega
  ·intro st hI again
   simp only [z9v]
   repeat' (first|refine dq1 ?_|refine dqc ?_|refine dqm ?_|exact z5 rfl rfl|((first|refine tR ?_ ?_|refine tB ?_ ?_|refine tC ?_ ?_|refine tN ?_ ?_|refine tF ?_ ?_|refine tG ?_ ?_|refine tP ?_ ?_|refine tQ ?_ ?_|refine tA ?_ ?_|refine tO ?_ ?_|refine tU ?_ ?_|refine tV ?_ ?_) <;> intro h)|refine dqT ?_|refine dqF ?_|refine z0h rfl ?_|refine z0m rfl ?_|refine zcg ?_|refine z8d ?_)
end
section
open Go.RowKit
open Go.Lib (itoa atoiAll atoiSat)
set_option maxRecDepth 100000
set_option maxHeartbeats 4000000
def zde:List UInt8:=[45,32,45,32,100,117,112,32,115,119,97,112,32,100,114,111,112,32,97,100,100,32,115,117,98,32,115,97,109,101,32,108,101,115,115,32,110,111,116,32,97,110,100,32,118,101,114,105,102,121,32,104,101,105,103,104,116,32,109,105,120]
def wordsL:List (List UInt8):=[45]::[45]::opNames.drop 2
theorem zcv:Go.Lib.fields zde=wordsL:=by decide +kernel
theorem z08p:∀ b ∈ zde,b.toNat<128:=by decide
theorem z08q:∀ y ∈ wordsL,y.length≤1000000:=by decide
theorem z0jm:z5k [.s zde]=some [.l 1 (wordsL.map z0g)]:=by
 have h:=zlu zde ⟨by decide,z08p,by rw [zcv];decide,by rw [zcv];exact z08q⟩;rw [zcv] at h;exact h
theorem zrq {k:Int} (h0:2≤k) (h1:k≤13):wordsL[k.toNat]? = some ((opNames[k.toNat]?).getD []):=by
 have hk:k=2∨k=3∨k=4∨k=5∨k=6∨k=7∨k=8∨k=9∨k=10∨k=11∨k=12∨k=13:=by omega
 rcases hk with rfl|rfl|rfl|rfl|rfl|rfl|rfl|rfl|rfl|rfl|rfl|rfl <;> rfl
def joinTail (acc:List UInt8) (first:Bool):List (List UInt8)→List UInt8
 | []=>acc
 | x::r=>joinTail (if first then acc++x else acc++[32]++x) false r
theorem zg9:∀ (r:List (List UInt8)) (acc:List UInt8),joinTail acc false r=acc++(match r with | []=>[]|_=>32::z3v 32 r)
 | [],acc=>by simp [joinTail]
 | x::r,acc=>by
  rw [joinTail,zg9 r]
  cases r with
  | nil=>simp [z3v]
  | cons y r=>simp [z3v]
theorem z02m (l:List (List UInt8)):joinTail [] true l=z3v 32 l:=by
 cases l with
 | nil=>rfl
 | cons x r =>
  rw [joinTail,zg9]
  cases r with
  | nil=>simp [z3v]
  | cons y r=>simp [z3v]
noncomputable def z82:z9:=spD (fun l:List Op=>z7 l=0) fun l=>z5i l
theorem zeo (l:List Op) (h:z7 l=0):z82 [.l 2 (l.map eOp)]=some [.s (z5i l)]:=zg (p:=fun l:List Op=>z7 l=0) (f:=fun l:List Op=>z5i l) l h
attribute [local irreducible] z00 spD z1e itoa z7 z1z z3v z3r z010 zck z6g zh0 zh1 joinTail
attribute [local irreducible] den denX z0f z0k
def z02n:T :=
 .lets [] [.inr 1 1 6] (.lets [.idx 1 6 0] [] (.lets [.bin .add 9 11] [] (.lets [.bin .add 4 (zI 1)] [] (.again 0 [12,13]))))
def z02o:T :=
 .ite 10 (.lets [.call 38 [7] 0] [] (.lets [.bin .add 9 11] [] (.lets [.bin .add 4 (zI 1)] [] (.again 0 [12,13])))) z02n
def z02p:T :=
 .lets [] [.inr 1 1 6] (.lets [.idx 1 6 0] [] (.lets [.bin .add 3 10] [] (.lets [.bin .add 4 (zI 1)] [] (.again 0 [11,12]))))
def z02q:T :=
 .ite 9 (.lets [.call 38 [7] 0] [] (.lets [.bin .add 3 10] [] (.lets [.bin .add 4 (zI 1)] [] (.again 0 [11,12])))) z02p
def z02r:T :=
 .ite 8 (.lets [.bin .add 3 (.c (.s [32]))] [] (.lets [.bin .eql 6 (zI 1)] [] z02o)) (.lets [.bin .eql 6 (zI 1)] [] z02q)
def z02s:T :=
 .ite 5 (.lets [] [.inr 2 0 4] (.lets [.idx 0 4 0,.idx 0 4 1] [] (.lets [.bin .gtr 4 (zI 0)] [] z02r))) (.ret [3])
def zft:T :=
 .lets [.call 45 [.c (.s [45,32,45,32,100,117,112,32,115,119,97,112,32,100,114,111,112,32,97,100,100,32,115,117,98,32,115,97,109,101,32,108,101,115,
 115,32,110,111,116,32,97,110,100,32,118,101,114,105,102,121,32,104,101,105,103,104,116,32,109,105,120])] 0] [] (.lets [.len 0] [] (.loop [.c (.s []),
 .c (.i .i64 0)] (.lets [.bin .lss 4 2] [] z02s)))
section
variable {sp:Nat→z9} {N:Nat} {E E':Env} {ks:List (List Dt→Option (List Dt))} {res:Option (List Dt)}
theorem zas {a b:Atom} {x y:List UInt8} (ha:a.val E=some (.s x)) (hb:b.val E=some (.s y)) (h:x.length+y.length≤1000000000):denX sp E (.bin .add a b)=some (.s (x++y)):=by
 have e:denX sp E (.bin .add a b)=(if x.length+y.length≤1000000000 then some (.s (x++y)) else none):=by with_unfolding_all simp only [denX,ha,hb,zY08,zY05];with_unfolding_all rfl
 rw [e,if_pos h]
end
attribute [local irreducible] z5j z5k
theorem z0cl:Meets Tryz.prog z82 105 ⟨[.one],[(false,[.scal])],true⟩:=by
 refine zj (sp:=(z07 [(38,z5j),(45,z5k)])) (sigs:=z0i) (cut:=[]) (hints:=[⟨4,[.t 4,.t 10]⟩]) (fn:=Tryz.f105) (t:=zft) (by kernel_rfl) (by kernel_rfl) (by kernel_rfl) ?_ ?_
 ·exact (z01 (L:=[(38,z5j),(45,z5k)]) ⟨za rfl zy6,za rfl z06j,trivial⟩)
 ·rintro ds rs - h
  obtain ⟨l,hc0,rfl,rfl⟩:=zi h;clear h;refine ⟨⟨l.length+1,?_⟩,zy rfl⟩
  show den _ _ zft [.l 2 (l.map eOp)] []=ret (z5i l)
  obtain ⟨hl16,hall⟩:=zch hc0;have et:z5i l=joinTail [] true (l.map z1p):=by rw [z02m];with_unfolding_all rfl
  rw [et];have a1:=z0jm;unfold zft
  repeat' (first|refine dq1 ?_|refine dqk rfl (a1) ?_|fail)
  (refine zw (fun (a:List UInt8) k=>[.s a,I k]) (fun (a:List UInt8) k (r:List Op)=>joinTail a (decide (k=0)) (r.map z1p)) (fun a k=>a.length≤100 * k) [] l ?_ ?_ ?_ ?_ ?_;rfl;exact Nat.zero_le _;omega)
  ·rintro a k o r hx hd hk ha again hag
   have hbad:=hall o (zY0f hx);have ho:=zk0 hbad;obtain ⟨ho1,ho2,-⟩:=ho;have hto:=zlm hbad;have e1:joinTail a (decide (k=0)) (z1p o::r.map z1p)=joinTail (if decide (k=0)=true then a++z1p o else a++[32]++z1p o) false (r.map z1p):=by with_unfolding_all rfl
   rw [zY1t,e1];have hk1:decide (k+1=0)=false:=rfl
   by_cases hk0:k=0
   ·rw [if_pos (decide_eq_true hk0)]
    have ha':=hag (a++z1p o) (by rw [zY06];omega);rw [hk1] at ha'
    repeat' (first|refine dq1 ?_|refine dqc ?_|refine dqm ?_|refine dqT ?_|refine dqF ?_|fail)
    refine z36 rfl (fun h=>?_) (fun h=>?_)
    ·have ht:z1p o=itoa o.n:=by with_unfolding_all exact if_pos h
     rw [ht] at ha' hto ⊢
     repeat' (first|refine dq1 ?_|refine dqk rfl (z7i _) ?_|refine z4 (zas rfl rfl (by omega)) ?_|fail)
     exact z6 rfl rfl ha'
    ·have hw:=zrq (k:=o.kind) (by omega) ho2
     have ht:z1p o=(opNames[o.kind.toNat]?).getD []:=by with_unfolding_all exact if_neg h
     rw [ht] at ha' hto ⊢;have hwl:wordsL.length=14:=rfl
     repeat' (first|refine dq1 ?_|refine dqc ?_|refine z4 (zas rfl rfl (by omega)) ?_|fail)
     exact z6 rfl rfl ha'
   ·rw [if_neg (by simpa using hk0)]
    have ha':=hag (a++[32]++z1p o) (by simp only [zY06,zY0g,zY13];omega);rw [hk1] at ha'
    repeat' (first|refine dq1 ?_|refine dqc ?_|refine dqm ?_|refine dqT ?_|fail)
    refine z4 (zas rfl rfl (by simp only [zY0g,zY13];omega)) ?_;have hal:(a++[32]).length≤2000:=by simp only [zY06,zY0g,zY13];omega
    generalize a++[32]=a2 at *
    repeat' (first|refine dq1 ?_|fail)
    refine z36 rfl (fun h=>?_) (fun h=>?_)
    ·have ht:z1p o=itoa o.n:=by with_unfolding_all exact if_pos h
     rw [ht] at ha' hto ⊢
     repeat' (first|refine dq1 ?_|refine dqk rfl (z7i _) ?_|refine z4 (zas rfl rfl (by omega)) ?_|fail)
     exact z6 rfl rfl ha'
    ·have hw:=zrq (k:=o.kind) (by omega) ho2
     have ht:z1p o=(opNames[o.kind.toNat]?).getD []:=by with_unfolding_all exact if_neg h
     rw [ht] at ha' hto ⊢;have hwl:wordsL.length=14:=rfl
     repeat' (first|refine dq1 ?_|refine dqc ?_|refine z4 (zas rfl rfl (by omega)) ?_|fail)
     exact z6 rfl rfl ha'
  ·rintro a ha again
   have e0:∀ b:Bool,joinTail a b []=a:=fun b=>by with_unfolding_all rfl
   simp only [zY30,e0]
   repeat' (first|refine dq1 ?_|exact z5 rfl rfl|refine dqF ?_|fail)
def z0pa (w:List UInt8):Int × Bool:=((zck w).1,!(zck w).2.is && decide (itoa (zck w).1=w))
attribute [local irreducible] z0pa zxt
end
section
open Go.RowKit
set_option maxRecDepth 100000
noncomputable def z5d:z9:=spD (fun _:Tx=>True) fun t=>zf t
theorem zep (t:Tx):z5d [I t.height,.l 3 (t.ins.map eIn),.l 2 (t.outs.map z17)]=some [I (zf t)]:=zg (f:=fun t:Tx=>zf t) t trivial
theorem zmv:Meets Tryz.prog z5d 52 ⟨[.agg 3],[(false,[.scal])],true⟩ :=
 z7h rfl (z23 (fn:=Tryz.f52) (by kernel_rfl) (by kernel_rfl) (by kernel_rfl)) fun t _ W F us hF h=>by
  obtain ⟨cs,rfl,hr⟩:=z8c h;have hS:Sep W F [rep t cs shTx] W:=(Sep.start W F hF.1).addRep (S:=shTx) (shTx.more (fun b hb=>⟨.inl hb,by simp⟩) (she_tx.of hr));exact ⟨(zwj t).i64,(z0aa t cs hS At.z).mono fun e w' h=>⟨h.1,h.2.below⟩⟩
end
section
open Go.RowKit
open Go.Lib (itoa)
set_option maxRecDepth 100000
set_option maxHeartbeats 4000000
attribute [local irreducible] z00 spD z1e itoa z7 z1z z3v z3r z010 zck z6g zh0 zh1 zf zll
attribute [local irreducible] den denX z0f z0k
theorem z0cm {x:In} (h:z7 x.key=0):z3i x=[105,110,32]++itoa x.p.tx++[32]++itoa x.p.at_++[58]++z5i x.key++[10]:=by
 unfold z3i z3b;rw [if_neg (fun k=>k h)]
theorem z08r {x:Out} (h:z7 x.lock=0):z2l x=[111,117,116,32]++itoa x.coin++[58]++z5i x.lock++[10]:=by
 unfold z2l z3b;rw [if_neg (fun k=>k h)]
noncomputable def z47:z9:=spD (fun t:Tx=>zf t=0) fun t=>z0d t
theorem zga (t:Tx) (h:zf t=0):z47 [I t.height,.l 3 (t.ins.map eIn),.l 2 (t.outs.map z17)]=some [.s (z0d t)]:=zg (p:=fun t:Tx=>zf t=0) (f:=fun t:Tx=>z0d t) t h
def z08s:T :=
 .lets [.bin .add 18 19] [] (.lets [.bin .add 20 (.c (.s [10]))] [] (.lets [.bin .add 7 21] [] (.lets [.bin .add 8 (zI 1)] [] (.again 0 [.v
 22,23]))))
def z08t:T :=
 .lets [.bin .add 14 (.c (.s [32]))] [] (.lets [.call 38 [11] 0] [] (.lets [.bin .add 15 16] [] (.lets [.bin .add 17 (.c (.s [58]))] [] (.lets [.call 48 [.v
 12] 0] [] z08s))))
def z08u:T :=
 .lets [.idx 1 8 0,.idx 1 8 1,.idx 1 8 2] [] (.lets [.call 38 [10] 0] [] (.lets [.bin .add (.c (.s [105,110,32])) 13] [] z08t))
def z08v:T :=
 .lets [.bin .add 18 19] [] (.lets [.bin .add 20 (.c (.s [10]))] [] (.lets [.bin .add 11 21] [] (.lets [.bin .add 12 (zI 1)] [] (.again 1 [.v
 22,23]))))
def z08w:T :=
 .lets [.call 38 [14] 0] [] (.lets [.bin .add (.c (.s [111,117,116,32])) 16] [] (.lets [.bin .add 17 (.c (.s [58]))] [] (.lets [.call 48 [15] 0] [] z08v)))
def z08x:T :=
 .lets [.bin .lss 12 10] [] (.ite 13 (.lets [] [.inr 2 2 12] (.lets [.idx 2 12 0,.idx 2 12 1] [] z08w)) (.ret [11]))
def z08y:T :=
 .lets [.bin .lss 8 6] [] (.ite 9 (.lets [] [.inr 3 1 8] z08u) (.lets [.len 2] [] (.loop [7,zI 0] z08x)))
def z08z:T :=
 .lets [.bin .add (.c (.s [116,120,32])) 3] [] (.lets [.bin .add 4 (.c (.s [10]))] [] (.lets [.len 1] [] (.loop [5,zI 0] z08y)))
def zhs:T :=
 .lets [.call 38 [0] 0] [] z08z
attribute [local irreducible] z5j z82
theorem zrr:Meets Tryz.prog z47 54 ⟨[.agg 3],[(false,[.scal])],true⟩:=by
 refine zj (sp:=(z07 [(38,z5j),(48,z82)])) (sigs:=z0i) (cut:=[]) (hints:=[⟨3,[.t 3,.t 16]⟩,⟨8,[.t 3,.t 43]⟩]) (fn:=Tryz.f54) (t:=zhs) (by kernel_rfl) (by kernel_rfl) (by kernel_rfl) ?_ ?_
 ·exact (z01 (L:=[(38,z5j),(48,z82)]) ⟨za rfl zy6,za rfl z0cl,trivial⟩)
 ·rintro ds rs - h
  obtain ⟨t,ht,rfl,rfl⟩:=zi h;clear h;refine ⟨⟨20,?_⟩,zy rfl⟩
  show den _ _ zhs [I t.height,.l 3 (t.ins.map eIn),.l 2 (t.outs.map z17)] []=ret (z4c t++t.ins.flatMap z3i++t.outs.flatMap z2l)
  have ok:=z7j ht;have h0:=zg0 ok.head;have lh:=z8m (n:=t.height) (by omega) (by omega);have hn1:=ok.ins;have hn2:=ok.outs;have lhh:(z4c t).length≤24:=by simp only [z4c,zY06,zY0g,zY13];omega
  unfold zhs
  repeat' (first|refine dq1 ?_|refine dqk rfl (z7i _) ?_|refine z4 (zas rfl rfl (by simp only [zY06,zY0g,zY13];omega)) ?_|fail)
  (refine zw (fun (a:List UInt8) k=>[.s a,I k]) (fun (a:List UInt8) _ (r:List In)=>a++r.flatMap z3i++t.outs.flatMap z2l) (fun a k=>a.length≤24+200 * k) (z4c t) t.ins ?_ ?_ ?_ ?_ ?_;rfl;exact (by omega);omega)
  ·rintro a k x r hx hd hk ha again hag
   have hxb:=zk3 ok.insOk x (zY0f hx);obtain ⟨b1,b2,b3,b4,b5⟩:=zy9 hxb;have il:=zre hxb;have l1:=z8m (n:=x.p.tx) (by omega) (by omega);have l2:=z8m (n:=x.p.at_) (by omega) (by omega);have ol:=za8 b5;have a3:=zeo x.key b5;have hag':=hag (a++z3i x) (by rw [zY06];omega);have e:a++(x::r).flatMap z3i=(a++z3i x)++r.flatMap z3i:=by simp
   rw [e];rw [z0cm b5] at hag' ⊢;clear hag e il
   repeat' (first|refine dq1 ?_|refine dqc ?_|refine dqm ?_|refine dqk rfl (z7i _) ?_|refine dqk rfl (a3) ?_|refine z4 (zas rfl rfl (by simp only [zY06,zY0g,zY13];omega)) ?_|refine dqT ?_|fail)
   exact z6 rfl rfl hag'
  ·rintro a ha again
   simp only [zY34,zY23]
   repeat' (first|refine dq1 ?_|refine dqF ?_|fail)
   (refine zw (fun (b:List UInt8) k=>[.s b,I k]) (fun (b:List UInt8) _ (r:List Out)=>b++r.flatMap z2l) (fun b k=>b.length≤a.length+200 * k) a t.outs ?_ ?_ ?_ ?_ ?_;rfl;exact (by omega);omega)
   ·rintro b k x r hx hd hk hb again' hag
    obtain ⟨b1,b2,b5⟩:=ok.good x (zY0f hx);have il:=zlv b1 b2;have l1:=z8m (n:=x.coin) (by omega) (by omega);have ol:=za8 b5;have a3:=zeo x.lock b5;have hag':=hag (b++z2l x) (by rw [zY06];omega);have e:b++(x::r).flatMap z2l=(b++z2l x)++r.flatMap z2l:=by simp
    rw [e];rw [z08r b5] at hag' ⊢;clear hag e il
    repeat' (first|refine dq1 ?_|refine dqc ?_|refine dqm ?_|refine dqk rfl (z7i _) ?_|refine dqk rfl (a3) ?_|refine z4 (zas rfl rfl (by simp only [zY06,zY0g,zY13];omega)) ?_|refine dqT ?_|fail)
    exact z6 rfl rfl hag'
   ·rintro b hb again'
    simp only [zY34,zY23]
    repeat' (first|refine dq1 ?_|exact z5 rfl rfl|refine dqF ?_|fail)
end
section
open Go.RowKit
set_option maxRecDepth 100000
set_option maxHeartbeats 4000000
end
section
open Go.RowKit
open Go.Lib (itoa)
set_option maxRecDepth 100000
set_option maxHeartbeats 4000000
section
variable {sp:Nat→z9} {E:Env}
end
attribute [local irreducible] den denX z0f z0k
attribute [local irreducible] z00 spD z6g zck z0f7 zq z0fk z011 z0bw itoa
end
section
open Go.RowKit
open Go.Lib (itoa)
set_option maxRecDepth 100000
set_option maxHeartbeats 4000000
noncomputable def z4j:z9:=spD (fun _:Block=>True) fun b=>zq b
theorem zmw (b:Block):z4j [I b.parent,I b.height,I b.work,I b.nonce,.l 3 (b.txs.map eTx)]=some [I (zq b)]:=zg (f:=fun b:Block=>zq b) b trivial
theorem z090:Meets Tryz.prog z4j 26 ⟨[.agg 5],[(false,[.scal])],true⟩ :=
 z7h rfl (z23 (fn:=Tryz.f26) (by kernel_rfl) (by kernel_rfl) (by kernel_rfl)) fun b _ W F us hF h=>by
  obtain ⟨cs,rfl,hr⟩:=z8c h;have hS:Sep W F [rep b cs shBlock] W:=(Sep.start W F hF.1).addRep (S:=shBlock) (shBlock.more (fun b hb=>⟨.inl hb,by simp⟩) (she_block.of hr));exact ⟨(z0ez b).i64,(z0jn b cs hS At.z).mono fun e w' h=>⟨h.1,h.2.below⟩⟩
attribute [local irreducible] z00 spD itoa zf zq z0f7 z0d z012 z6g
attribute [local irreducible] den denX z0f z0k
noncomputable def z091:z9:=spD (fun b:Block=>zq b=0) fun b=>z8l b
attribute [local irreducible] z5j z47
end
section
open Go.RowKit
open Go.Lib (itoa)
set_option maxRecDepth 100000
set_option maxHeartbeats 4000000
noncomputable def z2u:z9:=spD (fun _:Book=>True) fun k=>ze k
theorem zkf (k:Book):z2u [.l 1 (k.texts.map z0g)]=some [I (ze k)]:=zg (f:=fun k:Book=>ze k) k trivial
theorem zht:Meets Tryz.prog z2u 19 ⟨[.agg 1],[(false,[.scal])],true⟩ :=
 z7h rfl (z23 (fn:=Tryz.f19) (by kernel_rfl) (by kernel_rfl) (by kernel_rfl)) fun k _ W F us hF h=>by
  obtain ⟨cs,rfl,hr⟩:=z8c h;exact ⟨(zoj k).i64,z07h k cs W F (she_book.of hr) hF.1⟩
theorem z0mt {W W':World} {F:Nat→Prop}:∀ b,Plus F W W' b→F b∨(W.heap.size≤b∧b<W'.heap.size):=fun b h=>h
theorem z0co (t:List (List UInt8)) (s:List UInt8):Er (z1s t s):=z1j (z1a _ rfl) (z01b _ _)
theorem z0cp {t:List (List UInt8)} (s:List UInt8) (ht:t.length≤120):I64 (z10 t s):=by
 unfold z10
 split
 ·exact z5t ⟨by decide,by decide⟩
 ·exact z5t (zxs ht)
noncomputable def z76:z9:=spD (fun x:List (List UInt8) × List UInt8=>x.1.length≤120) fun x=>(z38 x.1 x.2,z10 x.1 x.2,z1s x.1 x.2)
theorem zhu (l:List (List UInt8)) (s:List UInt8) (h:l.length≤120):z76 [.l 1 (l.map z0g),.s s]=some [.l 1 ((z38 l s).map z0g),I (z10 l s),I (z1s l s)]:=zg (p:=fun x:List (List UInt8) × List UInt8=>x.1.length≤120) (f:=fun x:List (List UInt8) × List UInt8=>(z38 x.1 x.2,z10 x.1 x.2,z1s x.1 x.2)) (l,s) h
theorem z02t:Meets Tryz.prog z76 53 ⟨[.one,.one],[(false,[.pure]),(false,[.scal]),(false,[.scal])],false⟩ :=
 z6y rfl (z23 (fn:=Tryz.f53) (by kernel_rfl) (by kernel_rfl) (by kernel_rfl)) fun x hx W F us hF h=>by
  obtain ⟨l,s⟩:=x;obtain ⟨v,us,rfl,h1,h⟩:=z1f (d:=.l 1 (l.map z0g)) h;obtain ⟨v2,us,rfl,h2,h⟩:=z1f h;obtain rfl:=z2a h;obtain ⟨A,n,c,rfl,hl⟩:=z3t zby h1;obtain ⟨rfl,hs⟩:=zbz h2;have hln:=hl.1;simp only at hx;refine (z018 l s A n c W F hl hF.1 (by omega) hs).mono ?_;rintro e w' ⟨A,n,c,rfl,hr,hb⟩;refine ⟨_,rfl,hb,?_⟩;exact resP (us:=[.slice A n c,.int .i64 (z10 l s),.int .i64 (z1s l s)]) (F':=Plus F W w') ⟨[.slice A n c,.int .i64 (z10 l s),.int .i64 (z1s l s)],rfl,.slice A n c,_,[.slice A n c],_,rfl,rfl,⟨rfl,rfl⟩,.int .i64 (z10 l s),_,[.int .i64 (z10 l s)],_,rfl,rfl,⟨rfl,rfl⟩,.int .i64 (z1s l s),[],[.int .i64 (z1s l s)],[],rfl,rfl,⟨rfl,rfl⟩,rfl,rfl⟩ rfl ⟨rfl,rfl,trivial⟩ ⟨z7d zby hr,.i _ _ (wrap_i64 (z0cp s hx)),.i _ _ (wrap_i64 (z0co l s).i64),trivial⟩ rfl z0mt
noncomputable def z02u:z9:=spD (fun x:List (List UInt8) × List (List UInt8)=>x.1.length≤120∧x.2.length≤8796093022207) fun x=>zbi x.2 x.1 []
theorem z02v:(List.range 1000).all (fun k=>decide (z0u ((k:Int)+1)=zd9 ((k:Int)+1)))=true:=by decide +kernel
theorem z02w (n:Int) (h0:1≤n) (h1:n≤1000):zd9 n=z0u n:=by
 have:=zY1g.1 z02v (n - 1).toNat (by simp;omega);have e:(((n - 1).toNat:Nat):Int)=n - 1:=by omega
 rw [decide_eq_true_iff,e] at this;rw [show n - 1+1=n by omega] at this;exact this.symm
noncomputable def z5l:z9:=spD (fun n:Int=>1≤n∧n≤1000) fun n=>z0u n
theorem zmx (n:Int) (h0:1≤n) (h1:n≤1000):z5l [I n]=some [I (z0u n)]:=zg (p:=fun n:Int=>1≤n∧n≤1000) (f:=fun n:Int=>z0u n) n ⟨h0,h1⟩
theorem z092:Meets Tryz.prog z5l 69 ⟨[.one],[(false,[.scal])],true⟩ :=
 z7h rfl (z23 (fn:=Tryz.f69) (by kernel_rfl) (by kernel_rfl) (by kernel_rfl)) fun n hn W F us hF h=>by
  obtain ⟨v,us,rfl,h2,h⟩:=z1f (d:=I n) h;obtain rfl:=z2a h;obtain ⟨rfl,-⟩:=zip h2;obtain ⟨h0,h1⟩:=hn;refine ⟨z5t (zhg n),(zxz n W (by omega) h1).mono ?_⟩;rintro e w' ⟨rfl,rfl⟩;exact ⟨by rw [z02w n h0 h1],Below.refl _ _⟩
def z02x (ts:List (List UInt8)) (b:Block):List (List UInt8) × Int × List Int × Int :=
 if zq b≠0 then ([],0,[],zq b) else
 if (zbi (b.txs.map z0d++[z8l b]) ts []).2.2≠0 then ([],0,[],(zbi (b.txs.map z0d++[z8l b]) ts []).2.2) else
 ((zbi (b.txs.map z0d++[z8l b]) ts []).1,((zbi (b.txs.map z0d++[z8l b]) ts []).2.1).getD b.txs.length 0,((zbi (b.txs.map z0d++[z8l b]) ts []).2.1).take b.txs.length,0)
attribute [local irreducible] z00 spD zbi z0d z8l zq zf
attribute [local irreducible] den denX z0f z0k
noncomputable def z02y:z9:=spD (fun x:List (List UInt8) × Block=>x.1.length≤120) fun x=>z02x x.1 x.2
attribute [local irreducible] z091 z4j z02u z47
end
section
open Go.RowKit
set_option maxRecDepth 100000
set_option maxHeartbeats 4000000
noncomputable def z66:z9:=spD (fun l:List (List Coin)=>total l≤1000000) fun l=>l.flatten
theorem zkg (a b:List Coin) (h:a.length+b.length≤1000000):z66 [.l 1 [[.l 6 (a.map zd)],[.l 6 (b.map zd)]]]=some [.l 6 ((a++b).map zd)]:=by
 have h1:=zg (p:=fun l:List (List Coin)=>total l≤1000000) (f:=fun l:List (List Coin)=>l.flatten) [a,b] (by simpa [total] using h);have h2:[a,b].flatten=a++b:=by simp
 simp only [h2] at h1;exact h1
theorem z02z:Meets Tryz.prog z66 109 ⟨[.one],[(false,[.fresh 101 6])],false⟩ :=
 z5a (e:=fun x:{ l:List (List Coin) // total l≤1000000 }=>Enc.e x.1) (xs:=fun x=>x.1.flatten) she_coin rfl rfl (by decide) (z23 (fn:=Tryz.f109) (by kernel_rfl) (by kernel_rfl) (by kernel_rfl)) fun x W F us hF h=>by
  obtain ⟨v,us,rfl,h1,h⟩:=z1f h;obtain rfl:=z2a h;obtain ⟨A,n,c,rfl,k1⟩:=z3t (z6n she_coin rfl) h1;exact (z07g x.1 A n c W F k1 hF x.2).mono fun r W' h=>⟨_,h⟩
attribute [local irreducible] z00 spD
attribute [local irreducible] den denX z0f z0k
theorem z0cq {P:Program} {spec:z9} {f:Nat} {a:List PK} {r:List (Bool × List CF)} {b b':Bool} (h:Meets P spec f ⟨a,r,b⟩):Meets P spec f ⟨a,r,b'⟩:=by
 refine ⟨fun hm W F ds args rs hF ha hs=>?_,fun e sz ps he=>h.2 e sz ps he⟩;rcases h.1 hm W F ds args rs hF ha hs with ⟨h1,h2⟩|⟨v,W',h1,hb,us,F',hR⟩
 ·exact .inl ⟨h1,h2.mono fun e w' ⟨v,hv,hb,us,F',hR⟩=>⟨v,hv,hb,us,F',⟨hR.val,hR.lrs,hR.lus,hR.cells,hR.own,hR.apart,hR.dj⟩⟩⟩
 ·exact .inr ⟨v,W',h1,hb,us,F',⟨hR.val,hR.lrs,hR.lus,hR.cells,hR.own,hR.apart,hR.dj⟩⟩
def zhv (p:Point):List Coin→Nat→Int
 | [],_ => -1
 | c::r,k=>if c.p=p then k else zhv p r (k+1)
def z0j (l:List Coin) (p:Point):Int:=zhv p l 0
noncomputable def z8p:z9:=spD (fun _:List Coin × Point=>True) fun x=>z0j x.1 x.2
theorem zcw (l:List Coin) (p:Point):z8p [.l 6 (l.map zd),I p.tx,I p.at_]=some [I (z0j l p)]:=zg (f:=fun x:List Coin × Point=>z0j x.1 x.2) (l,p) trivial
def z0cr:T :=
 .lets [.idx 0 5 0,.idx 0 5 1,.idx 0 5 2,.idx 0 5 3,.idx 0 5 4,.idx 0 5 5] [] (.lets [.eqs false [(.v 7,.v 1),(.v
 8,.v 2)]] [] (.ite 13 (.ret [5]) (.lets [.bin .add 5 (zI 1)] [] (.again 0 [4,14]))))
def z0cs:T :=
 .loop [zI 0,zI 0] (.lets [.bin .lss 5 3] [] (.ite 6 (.lets [] [.inr 6 0 5] z0cr) (.ret [.c (.i .i64 (-1))])))
def zkh:T :=
 .lets [.len 0] [] z0cs
theorem z0jo:Meets Tryz.prog z8p 107 ⟨[.one,.agg 2],[(false,[.scal])],true⟩:=by
 refine z5r (sp:=(z07 [])) (sigs:=z0i) (cut:=[]) (hints:=[]) (fns:=[z6s 132 Tryz.f132 [⟨2,[.t 4,.t 8]⟩] [],z6s 133 Tryz.f133 [] []]) (dep:=2) (pool:=200) (fn:=Tryz.f107) (t:=zkh) (by kernel_rfl) (by kernel_rfl) (by kernel_rfl) ?_ ?_ ?_
 ·exact (z1x (fn:=Tryz.f132) (by kernel_rfl) (by kernel_rfl) (by kernel_rfl) (by kernel_rfl) (by kernel_rfl) (z1x (fn:=Tryz.f133) (by kernel_rfl) (by kernel_rfl) (by kernel_rfl) (by kernel_rfl) (by kernel_rfl) z6t))
 ·exact (z01 (L:=[]) trivial)
 ·rintro ds rs hok h
  obtain ⟨⟨l,p⟩,-,rfl,rfl⟩:=zi h;clear h;have hl:=zfl (hok (.l 6 (l.map zd)) (zY0h ..));clear hok;refine ⟨⟨l.length+1,?_⟩,zy rfl⟩
  show den _ _ zkh [.l 6 (l.map zd),I p.tx,I p.at_] []=ret (z0j l p)
  unfold zkh z0j
  repeat' (first|refine dq1 ?_|fail)
  (refine zw (fun (_:Unit) k=>[I 0,I k]) (fun (_:Unit) k (r:List Coin)=>zhv p r k) (fun _ _=>True) () l ?_ ?_ ?_ ?_ ?_;rfl;exact trivial;omega)
  ·rintro _ k c r hx hd hk - again hag
   rw [zhv];have hag:=hag () trivial
   repeat' (first|refine dq1 ?_|refine dqc ?_|refine dqm ?_|exact z6 rfl rfl hag|exact z5 rfl rfl|refine tR (fun h=>?_) fun h=>?_|refine dqT ?_|fail)
  ·rintro _ - again
   rw [zhv]
   repeat' (first|refine dq1 ?_|exact z5 rfl rfl|refine dqF ?_|fail)
end
section
open Go.RowKit Go.Sort
set_option maxRecDepth 100000
set_option maxHeartbeats 4000000
structure Fwd (B:Nat) (W W':World):Prop where
 os:W'.os=W.os
 tape:W'.tape=W.tape
 output:W'.output=W.output
 size:W.heap.size≤W'.heap.size
 same:∀ b,B≤b→b<W.heap.size→W'.heap[b]? = W.heap[b]?
theorem Fwd.refl (B:Nat) (W:World):Fwd B W W:=⟨rfl,rfl,rfl,zY0m _,fun _ _ _=>rfl⟩
theorem Fwd.trans {B:Nat} {W W' W'':World} (h:Fwd B W W') (k:Fwd B W' W''):Fwd B W W'' :=
 ⟨k.os.trans h.os,k.tape.trans h.tape,k.output.trans h.output,Nat.le_trans h.size k.size,fun b h1 h2=>(k.same b h1 (zY1p h2 h.size)).trans (h.same b h1 h2)⟩
theorem Fwd.below {B:Nat} {W W':World} (h:Below W.heap.size W W'):Fwd B W W':=⟨h.os,h.tape,h.output,h.size,fun b _ h2=>h.block b h2⟩
structure Srt {α:Type} [Inhabited α] (lt:α→α→Bool) (n B lf:Nat) (lb:Array Value) (sf:Nat) (sb:Array Value) (St:Array α→World→Prop):Prop where
 big:n<4611686018427387904
 enters:∀ args w,(callFunc lf args).run Tryz.prog w = .ok (.enter lf args) w
 size:∀ {d W},St d W→d.size=n
 base:∀ {d W},St d W→B≤W.heap.size
 keep:∀ {d W W'},St d W→Below B W W'→St d W'
 less:∀ {d W} (i j:Nat),St d W→i<n→j<n→Calls Tryz.prog lf (#[.int .i64 i,.int .i64 j]++lb) W fun e W'=>e = .returned (.bool (lt d[i]! d[j]!))∧St d W'∧Fwd B W W'
 swap:∀ {d W} (i j:Nat),St d W→i<n→j<n→∃ W',(callFunc sf (#[.int .i64 i,.int .i64 j]++sb)).run Tryz.prog W = .ok (.value (.tuple #[])) W'∧St (swp d i j) W'∧Fwd B W W'
theorem z0mu {α:Type} [Inhabited α] (d:Array α) (i j:Nat):(swp d i j).size=d.size:=by simp [swp]
section
variable {α:Type} [Inhabited α] {lt:α→α→Bool} {n B lf sf:Nat} {lb sb:Array Value} {St:Array α→World→Prop}
structure On (B lf:Nat) (lb:Array Value) (sf:Nat) (sb:Array Value) (St:Array α→World→Prop) (w:World) (d:Array α) (W:World):Prop where
 st:St d W
 fwd:Fwd B w W
 bx:W.heap[w.heap.size]? = some (.cells #[.func (.func lf) #[] lb,.func (.func sf) #[] sb] 236 (0,0))
theorem z9w (w:World) (o:Obj):(w.alloc o).heap[w.heap.size]? = some o:=Array.getElem?_push_size
theorem z9x (w:World) (o:Obj) {b:Nat} (h:b<w.heap.size):(w.alloc o).heap[b]? = w.heap[b]?:=by
 show (w.heap.push o)[b]? = w.heap[b]?
 rw [zY3n,if_neg (by omega)]
theorem z4k (w:World) (o:Obj):(w.alloc o).heap.size=w.heap.size+1:=Array.size_push ..
omit [Inhabited α] in
theorem On.start [Inhabited α] {lt:α→α→Bool} (S:Srt lt n B lf lb sf sb St) {w:World} {d:Array α} (h:St d w):On B lf lb sf sb St w d (w.alloc (.cells #[.func (.func lf) #[] lb,.func (.func sf) #[] sb] 236)):=by
 have hb:=S.base h;refine ⟨S.keep h ((Below.refl _ _).alloc hb _),⟨rfl,rfl,rfl,by rw [z4k];omega,fun b _ hb'=>z9x _ _ hb'⟩,z9w _ _⟩
omit [Inhabited α] in
theorem On.is_lt {w W:World} {d:Array α} (h:On B lf lb sf sb St w d W):w.heap.size<W.heap.size:=by
 have:=h.bx;rw [zY17] at this;exact this.1
omit [Inhabited α] in
theorem On.call {w W W':World} {d d':Array α} (hw:B≤w.heap.size) (h:On B lf lb sf sb St w d W) (hs:St d' W'∧Fwd B W W'):On B lf lb sf sb St w d' W' :=
 ⟨hs.1,h.fwd.trans hs.2,(hs.2.same _ hw h.is_lt).trans h.bx⟩
omit [Inhabited α] in
theorem On.c0 {w W:World} {d:Array α} (h:On B lf lb sf sb St w d W):W.cell? ⟨w.heap.size,0,none⟩=some (.func (.func lf) #[] lb):=by
 unfold World.cell?;rw [h.bx];rfl
omit [Inhabited α] in
theorem On.c1 {w W:World} {d:Array α} (h:On B lf lb sf sb St w d W):W.cell? ⟨w.heap.size,1,none⟩=some (.func (.func sf) #[] sb):=by
 unfold World.cell?;rw [h.bx];rfl
theorem On.less {lt:α→α→Bool} (S:Srt lt n B lf lb sf sb St) {w W:World} {d:Array α} (h:On B lf lb sf sb St w d W) (hw:B≤w.heap.size) {i j:Nat} {x y:Int} {r:Bool} (hi:i<n) (hj:j<n) (hx:(i:Int)=x) (hy:(j:Int)=y) (hr:lt d[i]! d[j]! = r) :
  Calls Tryz.prog lf (#[.int .i64 x,.int .i64 y]++lb) W fun e W'=>e = .returned (.bool r)∧On B lf lb sf sb St w d W':=by
 subst hx;subst hy;subst hr;exact (S.less i j h.st hi hj).mono fun e W' ⟨he,hs⟩=>⟨he,h.call hw hs⟩
theorem On.swap {lt:α→α→Bool} (S:Srt lt n B lf lb sf sb St) {w W:World} {d:Array α} (h:On B lf lb sf sb St w d W) (hw:B≤w.heap.size) {i j:Nat} {x y:Int} (hi:i<n) (hj:j<n) (hx:(i:Int)=x) (hy:(j:Int)=y) :
  ∃ W',(callFunc sf (#[.int .i64 x,.int .i64 y]++sb)).run Tryz.prog W = .ok (.value (.tuple #[])) W'∧On B lf lb sf sb St w (swp d i j) W':=by
 subst hx;subst hy;obtain ⟨W',h1,h2⟩:=S.swap i j h.st hi hj;exact ⟨W',h1,h.call hw h2⟩
theorem z093 (lt:α→α→Bool) (a j:Nat) (d:Array α) (h:a<j) (hl:lt d[j]! d[j - 1]! = true):insInner lt a j d=insInner lt a (j - 1) (swp d j (j - 1)):=by
 obtain ⟨k,rfl⟩:∃ k,j=k+1:=⟨j - 1,by omega⟩
 simp only [zY2s] at hl;rw [insInner,hl,if_pos (by simp;omega)];rfl
theorem zhw (lt:α→α→Bool) (a j:Nat) (d:Array α) (h:j≤a∨lt d[j]! d[j - 1]! = false):insInner lt a j d=d:=by
 cases j with
 | zero=>rfl
 | succ k =>
  rw [insInner];rcases h with h|h
  ·rw [if_neg (by simp;omega)]
  ·simp only [zY2s] at h
   rw [h,if_neg (by simp)]
theorem zjd (lt:α→α→Bool) (a b i:Nat) (d:Array α) (h:i<b):insOuter lt a b i d=insOuter lt a b (i+1) (insInner lt a i d):=by rw [insOuter,if_pos h]
theorem z030 (lt:α→α→Bool) (a b i:Nat) (d:Array α) (h:¬ i<b):insOuter lt a b i d=d:=by rw [insOuter,if_neg h]
theorem z0ge {lt:α→α→Bool} (S:Srt lt n B lf lb sf sb St) {w:World} {d:Array α} (h:St d w) {a b:Nat} (hab:a≤b) (hb:b≤n) :
  Calls Tryz.prog 183 #[.agg #[.func (.func lf) #[] lb,.func (.func sf) #[] sb],.int .i64 a,.int .i64 b] w fun e w'=>e = .returned (.tuple #[])∧St (insertionSort lt d a b) w'∧Fwd B w w':=by
 have hw:=S.base h;have hO:=On.start S h;have hbig:=S.big;have eg:=S.enters;go_enter Tryz.func183,Tryz.ntmps183;go_wp2;go_loopg [6] (b+1 - a) (fun kx vi wr=>∃ (i:Nat) (dk:Array α),vi = .int .i64 i∧a<i∧i≤b+1∧b+1 - i<kx∧On B lf lb sf sb St w dk wr∧Hid (insOuter lt a b i dk=insOuter lt a b (a+1) d))
 case atStart=>exact ⟨a+1,d,by go_num,by omega,by omega,by omega,hO,rfl⟩
 case round =>
  obtain ⟨i,dk,rfl,hai,hib,hkx,hW,HO⟩:=hrel;clear hO
  by_cases hlt:i<b
  ·have hltz:(i:Int)<(b:Int):=by omega
   repeat' (first|go_step|fail)
   go_loopg [7] (i+1) (fun ky vj wr2=>∃ (j:Nat) (dj:Array α),vj = .int .i64 j∧a≤j∧j≤i∧j<ky∧On B lf lb sf sb St w dj wr2∧Hid (insInner lt a j dj=insInner lt a i dk))
   case atStart=>exact ⟨i,dk,rfl,by omega,zY0m _,by omega,hW,rfl⟩
   case round =>
    obtain ⟨j,dj,rfl,haj,hji,hky,hW2,HI⟩:=hrel;clear hW;have c0:=hW2.c0
    by_cases hja:a<j
    ·have hjz:(a:Int)<(j:Int):=by omega
     cases hl:lt dj[j]! dj[j - 1]! with
     | true =>
      have hc:=hW2.less S hw (i:=j) (j:=j - 1) (x:=j) (y:=(j:Int) - 1) (by omega) (by omega) rfl (by omega) hl;have HL:=Lib.hid hl;clear hl
      repeat' (first|(refine hc.mono ?_;rintro e w1 ⟨rfl,hW3⟩;simp only [];have c1:=hW3.c1;obtain ⟨w2,hs,hW4⟩:=hW3.swap S hw (i:=j) (j:=j - 1) (x:=j) (y:=(j:Int) - 1) (by omega) (by omega) rfl (by omega);have HS:=Lib.hid hs;clear hs)|(rw [HS.out,Oper.upon_value])|go_guarded|go_step|fail)
      go_roundg j
      case measure=>omega
      case rel=>exact ⟨j - 1,_,by go_num,by omega,by omega,by omega,hW4,by show Hid _;rw [← HI.out,z093 lt a j dj hja HL.out];exact rfl⟩
     | false =>
      have hc:=hW2.less S hw (i:=j) (j:=j - 1) (x:=j) (y:=(j:Int) - 1) (by omega) (by omega) rfl (by omega) hl;have HL:=Lib.hid hl;clear hl
      repeat' (first|(refine hc.mono ?_;rintro e w1 ⟨rfl,hW3⟩;simp only [])|go_guarded|go_step|fail)
      go_roundg (b+1 - i)
      case measure=>omega
      case rel=>exact ⟨i+1,dj,by go_num,by omega,by omega,by omega,hW3,by show Hid _;rw [← HO.out,zjd lt a b i dk hlt,← HI.out,zhw lt a j dj (Or.inr HL.out)];exact rfl⟩
    ·have hjz:¬ (a:Int)<(j:Int):=by omega
     repeat' (first|go_guarded|go_step|fail)
     go_roundg (b+1 - i)
     case measure=>omega
     case rel=>exact ⟨i+1,dj,by go_num,by omega,by omega,by omega,hW2,by show Hid _;rw [← HO.out,zjd lt a b i dk hlt,← HI.out,zhw lt a j dj (Or.inl (by omega))];exact rfl⟩
  ·have hltz:¬ (i:Int)<(b:Int):=by omega
   repeat' (first|go_step|fail)
   go_end0;exact ⟨rfl,by unfold insertionSort;rw [← HO.out,z030 lt a b i dk hlt];exact hW.st,hW.fwd⟩
end
end
section
open Go.RowKit Go.Sort
set_option maxRecDepth 100000
set_option maxHeartbeats 4000000
section
variable {α:Type} [Inhabited α] {lt:α→α→Bool} {n B lf sf:Nat} {lb sb:Array Value} {St:Array α→World→Prop}
theorem z0ct (i j:Nat) (d:Array α) (h:i<j):reverseLoop i j d=reverseLoop (i+1) (j - 1) (swp d i j):=by rw [reverseLoop,if_pos h]
theorem z094 (i j:Nat) (d:Array α) (h:¬ i<j):reverseLoop i j d=d:=by rw [reverseLoop,if_neg h]
def kid (lt:α→α→Bool) (hi F r:Nat) (d:Array α):Nat:=if (decide (2 * r+2<hi) && lt d[F+(2 * r+1)]! d[F+(2 * r+2)]!)=true then 2 * r+2 else 2 * r+1
theorem z0jp {hi F r:Nat} (d:Array α) (h:hi≤2 * r+1):siftDown lt hi F r d=d:=by rw [siftDown,dif_pos h]
theorem z031 {hi F r c:Nat} (d:Array α) (h:¬ hi≤2 * r+1) (hc:kid lt hi F r d=c):siftDown lt hi F r d=if lt d[F+r]! d[F+c]! then siftDown lt hi F c (swp d (F+r) (F+c)) else d:=by
 subst hc;unfold kid;rw [siftDown,dif_neg h,show F+(2 * r+1)+1=F+(2 * r+2) by omega]
 by_cases hb:(decide (2 * r+2<hi) && lt d[F+(2 * r+1)]! d[F+(2 * r+2)]!)=true
 ·have hb':(decide (2 * r+1+1<hi) && lt d[F+(2 * r+1)]! d[F+(2 * r+2)]!)=true:=hb
  rw [if_pos hb',if_pos hb];have:2 * r+2<hi:=by (rw [zY0a] at hb;exact of_decide_eq_true hb.1)
  cases hl:lt d[F+r]! d[F+(2 * r+2)]! with
  | true=>simp only [zY3c,zY0r,if_false,if_true];rw [dif_pos this]
  | false=>simp only [Bool.not_false,zY0r,if_false,if_true]
 ·have hb':¬ (decide (2 * r+1+1<hi) && lt d[F+(2 * r+1)]! d[F+(2 * r+2)]!)=true:=hb
  rw [if_neg hb',if_neg hb]
  cases hl:lt d[F+r]! d[F+(2 * r+1)]! with
  | true=>simp only [zY3c,zY0r,if_false,if_true]
  | false=>simp only [Bool.not_false,zY0r,if_false,if_true]
theorem z0gf {hi F r c:Nat} (d:Array α) (h:¬ hi≤2 * r+1) (hc:kid lt hi F r d=c):c<hi∧r<c:=by
 subst hc;unfold kid
 split
 ·rename_i hb
  have:2 * r+2<hi:=by (rw [zY0a] at hb;exact of_decide_eq_true hb.1)
  omega
 ·omega
theorem z0cu (S:Srt lt n B lf lb sf sb St) {w:World} {d:Array α} (h:St d w) {a b:Nat} (hab:a<b) (hb:b≤n) :
  Calls Tryz.prog 187 #[.agg #[.func (.func lf) #[] lb,.func (.func sf) #[] sb],.int .i64 a,.int .i64 b] w fun e w'=>e = .returned (.tuple #[])∧St (reverseRange d a b) w'∧Fwd B w w':=by
 have hw:=S.base h;have hO:=On.start S h;have hbig:=S.big;go_enter Tryz.func187,Tryz.ntmps187;go_wp2;go_loopg [6,7] b (fun kx vi vj wr=>∃ (i j:Nat) (dk:Array α),vi = .int .i64 i∧vj = .int .i64 j∧a≤i∧j<b∧j<kx∧On B lf lb sf sb St w dk wr∧Hid (reverseLoop i j dk=reverseLoop a (b - 1) d))
 case atStart=>exact ⟨a,b - 1,d,rfl,by go_num,by omega,by omega,by omega,hO,rfl⟩
 case round =>
  obtain ⟨i,j,dk,rfl,rfl,hai,hjb,hkx,hW,HO⟩:=hrel;clear hO
  by_cases hij:i<j
  ·have hz:(i:Int)<(j:Int):=by omega
   have c1:=hW.c1;obtain ⟨w2,hs,hW4⟩:=hW.swap S hw (i:=i) (j:=j) (by omega) (by omega) rfl rfl;have HS:=Lib.hid hs;clear hs
   repeat' (first|(rw [HS.out,Oper.upon_value])|go_step|fail)
   go_roundg j
   case measure=>omega
   case rel=>exact ⟨i+1,j - 1,_,by go_num,by go_num,by omega,by omega,by omega,hW4,by show Hid _;rw [← HO.out,z0ct i j dk hij];exact rfl⟩
  ·have hz:¬ (i:Int)<(j:Int):=by omega
   repeat' (first|go_step|fail)
   go_end0;exact ⟨rfl,by unfold reverseRange;rw [← HO.out,z094 i j dk hij];exact hW.st,hW.fwd⟩
theorem z0gg (S:Srt lt n B lf lb sf sb St) {w:World} {d:Array α} (h:St d w) {lo hi first:Nat} (hlo:lo≤hi) (hb:first+hi≤n) :
  Calls Tryz.prog 200 #[.agg #[.func (.func lf) #[] lb,.func (.func sf) #[] sb],.int .i64 lo,.int .i64 hi,.int .i64 first] w fun e w'=>e = .returned (.tuple #[])∧St (siftDown lt hi first lo d) w'∧Fwd B w w':=by
 have hw:=S.base h;have hO:=On.start S h;have hbig:=S.big;have eg:=S.enters;go_enter Tryz.func200,Tryz.ntmps200;go_wp2;go_loopg [8] (hi - lo+1) (fun kx s8 wr=>∃ (root:Nat) (dk:Array α),s8 = .int .i64 root∧root≤hi∧hi - root<kx∧On B lf lb sf sb St w dk wr∧Hid (siftDown lt hi first root dk=siftDown lt hi first lo d))
 case atStart=>exact ⟨lo,d,rfl,hlo,by omega,hO,rfl⟩
 case round =>
  obtain ⟨root,dk,rfl,hr,hkx,hW,HO⟩:=hrel;clear hO;have c0:=hW.c0;have c1:=hW.c1
  by_cases h0:hi≤2 * root+1
  ·have h0z:(hi:Int)≤2 * (root:Int)+1:=by omega
   repeat' (first|go_step|fail)
   go_end0;exact ⟨rfl,by rw [← HO.out,z0jp dk h0];exact hW.st,hW.fwd⟩
  have h0z:¬ ((hi:Int)≤2 * (root:Int)+1):=by omega
  go_upto_region 4 with fail
  go_cut [32] (fun c wx=>c = .bool (decide (2 * root+2<hi) && lt dk[first+(2 * root+1)]! dk[first+(2 * root+2)]!)∧On B lf lb sf sb St w dk wx)
  case first =>
   by_cases h1:2 * root+2<hi
   ·have h1z:2 * (root:Int)+1+1<(hi:Int):=by omega
    cases hL:lt dk[first+(2 * root+1)]! dk[first+(2 * root+2)]! with
    | true =>
     have hc:=hW.less S hw (i:=first+(2 * root+1)) (j:=first+(2 * root+2)) (x:=(first:Int)+(2 * (root:Int)+1)) (y:=(first:Int)+(2 * (root:Int)+1)+1) (by omega) (by omega) (by omega) (by omega) hL;have HL:=Lib.hid hL;clear hL;go_wp2_with (refine hc.mono ?_;rintro e w1 ⟨rfl,hU⟩;simp only [];clear hc);go_meet;exact ⟨by rw [decide_eq_true h1,HL.out];rfl,hU⟩
    | false =>
     have hc:=hW.less S hw (i:=first+(2 * root+1)) (j:=first+(2 * root+2)) (x:=(first:Int)+(2 * (root:Int)+1)) (y:=(first:Int)+(2 * (root:Int)+1)+1) (by omega) (by omega) (by omega) (by omega) hL;have HL:=Lib.hid hL;clear hL;go_wp2_with (refine hc.mono ?_;rintro e w1 ⟨rfl,hU⟩;simp only [];clear hc);go_meet;exact ⟨by rw [decide_eq_true h1,HL.out];rfl,hU⟩
   ·have h1z:¬ (2 * (root:Int)+1+1<(hi:Int)):=by omega
    go_wp2_with fail;go_meet;exact ⟨by rw [decide_eq_false h1];rfl,hW⟩
  case rest =>
   obtain ⟨rfl,hX⟩:=hcut;clear hW c0 c1;have c0:=hX.c0;have HK:∀ b,(decide (2 * root+2<hi) && lt dk[first+(2 * root+1)]! dk[first+(2 * root+2)]!)=b→kid lt hi first root dk=if b=true then 2 * root+2 else 2 * root+1:=fun b hb=>by unfold kid;rw [hb]
   cases hb:(decide (2 * root+2<hi) && lt dk[first+(2 * root+1)]! dk[first+(2 * root+2)]!) with
   | true =>
    have hk:kid lt hi first root dk=2 * root+2:=HK _ hb
    have hk1:=z0gf dk h0 hk;have hk2:=Lib.hid (z031 dk h0 hk);clear hb HK hk
    cases hG:lt dk[first+root]! dk[first+(2 * root+2)]! with
    | true =>
     have hd:=hX.less S hw (i:=first+root) (j:=first+(2 * root+2)) (x:=(first:Int)+(root:Int)) (y:=(first:Int)+(2 * (root:Int)+1+1)) (by omega) (by omega) (by omega) (by omega) hG;have HG:=Lib.hid hG;clear hG;go_wp2_with (first|(refine hd.mono ?_;rintro e w2 ⟨rfl,hW2⟩;simp only [];clear hd;have c1:=hW2.c1;obtain ⟨w3,hs,hW3⟩:=hW2.swap S hw (i:=first+root) (j:=first+(2 * root+2)) (x:=(first:Int)+(root:Int)) (y:=(first:Int)+(2 * (root:Int)+1+1)) (by omega) (by omega) (by omega) (by omega);have HS:=Lib.hid hs;clear hs)|(rw [HS.out,Oper.upon_value]));go_roundg (hi - root)
     case measure=>omega
     case rel=>exact ⟨2 * root+2,_,by go_num,by omega,by omega,hW3,by show Hid _;rw [← HO.out,hk2.out,HG.out,if_pos rfl];exact rfl⟩
    | false =>
     have hd:=hX.less S hw (i:=first+root) (j:=first+(2 * root+2)) (x:=(first:Int)+(root:Int)) (y:=(first:Int)+(2 * (root:Int)+1+1)) (by omega) (by omega) (by omega) (by omega) hG;have HG:=Lib.hid hG;clear hG;go_wp2_with (refine hd.mono ?_;rintro e w2 ⟨rfl,hW2⟩;simp only [];clear hd)
     ((try simp only [Exit.inBlock,Exit.then]);refine bodyPost_ret (results_none rfl _ _ _) rfl ?_)
     exact ⟨rfl,by rw [← HO.out,hk2.out,HG.out,if_neg zY3h];exact hW2.st,hW2.fwd⟩
   | false =>
    have hk:kid lt hi first root dk=2 * root+1:=HK _ hb
    have hk1:=z0gf dk h0 hk;have hk2:=Lib.hid (z031 dk h0 hk);clear hb HK hk
    cases hG:lt dk[first+root]! dk[first+(2 * root+1)]! with
    | true =>
     have hd:=hX.less S hw (i:=first+root) (j:=first+(2 * root+1)) (x:=(first:Int)+(root:Int)) (y:=(first:Int)+(2 * (root:Int)+1)) (by omega) (by omega) (by omega) (by omega) hG;have HG:=Lib.hid hG;clear hG;go_wp2_with (first|(refine hd.mono ?_;rintro e w2 ⟨rfl,hW2⟩;simp only [];clear hd;have c1:=hW2.c1;obtain ⟨w3,hs,hW3⟩:=hW2.swap S hw (i:=first+root) (j:=first+(2 * root+1)) (x:=(first:Int)+(root:Int)) (y:=(first:Int)+(2 * (root:Int)+1)) (by omega) (by omega) (by omega) (by omega);have HS:=Lib.hid hs;clear hs)|(rw [HS.out,Oper.upon_value]));go_roundg (hi - root)
     case measure=>omega
     case rel=>exact ⟨2 * root+1,_,by go_num,by omega,by omega,hW3,by show Hid _;rw [← HO.out,hk2.out,HG.out,if_pos rfl];exact rfl⟩
    | false =>
     have hd:=hX.less S hw (i:=first+root) (j:=first+(2 * root+1)) (x:=(first:Int)+(root:Int)) (y:=(first:Int)+(2 * (root:Int)+1)) (by omega) (by omega) (by omega) (by omega) hG;have HG:=Lib.hid hG;clear hG;go_wp2_with (refine hd.mono ?_;rintro e w2 ⟨rfl,hW2⟩;simp only [];clear hd)
     ((try simp only [Exit.inBlock,Exit.then]);refine bodyPost_ret (results_none rfl _ _ _) rfl ?_)
     exact ⟨rfl,by rw [← HO.out,hk2.out,HG.out,if_neg zY3h];exact hW2.st,hW2.fwd⟩
theorem z0jq (lt:α→α→Bool) (hi F k:Nat) (d:Array α) (h:k≠0):heapBuild lt hi F k d=heapBuild lt hi F (k - 1) (siftDown lt hi F (k - 1) d):=by
 obtain ⟨j,rfl⟩:∃ j,k=j+1:=⟨k - 1,by omega⟩
 rfl
theorem z0pb (lt:α→α→Bool) (F k:Nat) (d:Array α) (h:k≠0):heapPop lt F k d=heapPop lt F (k - 1) (siftDown lt (k - 1) F 0 (swp d F (F+(k - 1)))):=by
 obtain ⟨j,rfl⟩:∃ j,k=j+1:=⟨k - 1,by omega⟩
 rfl
theorem z0pc (S:Srt lt n B lf lb sf sb St) {w:World} {d:Array α} (h:St d w) {a b:Nat} (hab:a<b) (hb:b≤n) :
  Calls Tryz.prog 184 #[.agg #[.func (.func lf) #[] lb,.func (.func sf) #[] sb],.int .i64 a,.int .i64 b] w fun e w'=>e = .returned (.tuple #[])∧St (heapSort lt d a b) w'∧Fwd B w w':=by
 have hw:=S.base h;have hO:=On.start S h;have hbig:=S.big;obtain ⟨m,hm⟩:∃ m,m=(b - a - 1) / 2+1:=⟨_,rfl⟩
 have hmz:((b:Int) - (a:Int) - 1) / 2=(m:Int) - 1:=by omega
 have hsz:((b - a:Nat):Int)=(b:Int) - (a:Int):=by omega
 have H0:heapSort lt d a b=heapPop lt a (b - a) (heapBuild lt (b - a) a m d):=by rw [hm];rfl
 rw [H0];clear H0;have hml:m≤b - a:=by omega
 clear hm;go_enter Tryz.func184,Tryz.ntmps184;go_wp2;go_loopg [9] (m+1) (fun kx v wr=>∃ (k:Nat) (dk:Array α),v = .int .i64 ((k:Int) - 1)∧k≤m∧k<kx∧On B lf lb sf sb St w dk wr∧Hid (heapBuild lt (b - a) a k dk=heapBuild lt (b - a) a m d))
 case atStart=>exact ⟨m,d,by go_num,zY0m _,zY1z _,hO,rfl⟩
 case round =>
  obtain ⟨k,dk,rfl,hkm,hkx,hW,HO⟩:=hrel;clear hO;have c0:=hW.c0;have c1:=hW.c1
  by_cases h0:k=0
  ·have hz:¬ (0:Int)≤(k:Int) - 1:=by omega
   have hD:Hid (heapBuild lt (b - a) a m d=dk):=by (show _=_;rw [← HO.out,h0];rfl)
   clear HO c0 c1;go_wp2;go_loopg [10] (b - a+1) (fun kx v wr=>∃ (k:Nat) (dj:Array α),v = .int .i64 ((k:Int) - 1)∧k≤b - a∧k<kx∧On B lf lb sf sb St w dj wr∧Hid (heapPop lt a k dj=heapPop lt a (b - a) dk))
   case atStart=>exact ⟨b - a,dk,by go_num,zY0m _,zY1z _,hW,rfl⟩
   case round =>
    obtain ⟨j,dj,rfl,hjm,hjx,hW2,HP⟩:=hrel;clear hW;have c1:=hW2.c1
    by_cases h1:j=0
    ·have hz1:¬ (0:Int)≤(j:Int) - 1:=by omega
     go_wp2;go_end0;exact ⟨rfl,by rw [hD.out,← HP.out,h1];exact hW2.st,hW2.fwd⟩
    ·have hz1:(0:Int)≤(j:Int) - 1:=by omega
     obtain ⟨w2,hs,hV⟩:=hW2.swap S hw (i:=a) (j:=a+(j - 1)) (x:=a) (y:=(a:Int)+((j:Int) - 1)) (by omega) (by omega) rfl (by omega);have HS:=Lib.hid hs;clear hs;have hc:=z0gg S hV.st (lo:=0) (hi:=j - 1) (first:=a) (by omega) (by omega);rw [show ((j - 1:Nat):Int)=(j:Int) - 1 by omega,show ((0:Nat):Int)=0 from rfl] at hc;have d0:=hV.c0;have d1:=hV.c1;go_wp2_with (first|(rw [HS.out,Oper.upon_value])|(refine hc.mono ?_;rintro e w3 ⟨rfl,hU⟩;simp only [];have hU:=hV.call hw hU;clear hc d0 d1));go_roundg j
     case measure=>omega
     case rel=>exact ⟨j - 1,_,by go_num,by omega,by omega,hU,by show Hid _;rw [← HP.out,z0pb lt a j dj h1];exact rfl⟩
  ·have hz:(0:Int)≤(k:Int) - 1:=by omega
   have hc:=z0gg S hW.st (lo:=k - 1) (hi:=b - a) (first:=a) (by omega) (by omega);rw [show ((k - 1:Nat):Int)=(k:Int) - 1 by omega,hsz] at hc;go_wp2_with (refine hc.mono ?_;rintro e w3 ⟨rfl,hU⟩;simp only [];have hU:=hW.call hw hU;clear hc);go_roundg k
   case measure=>omega
   case rel=>exact ⟨k - 1,_,by go_num,by omega,by omega,hU,by show Hid _;rw [← HO.out,z0jq lt (b - a) a k dk h0];exact rfl⟩
end
end
section
open Go.RowKit Go.Sort
set_option maxRecDepth 100000
set_option maxHeartbeats 4000000
section
variable {α:Type} {n B lf sf:Nat} {lb sb:Array Value} {St:Array α→World→Prop}
structure Cnt (B cb:Nat) (St:Array α→World→Prop) (d:Array α) (s:Nat) (w W:World):Prop where
 st:St d W
 os:W.os=w.os
 tape:W.tape=w.tape
 output:W.output=w.output
 size:w.heap.size≤W.heap.size
 same:∀ b,B≤b→b<w.heap.size→b≠cb→W.heap[b]? = w.heap[b]?
 cn:W.heap[cb]? = some (.cells #[.int .i64 s] 3 (0,0))
theorem Cnt.cc {cb s:Nat} {d:Array α} {w W:World} (h:Cnt B cb St d s w W):W.cell? ⟨cb,0,none⟩=some (.int .i64 s):=by
 unfold World.cell?;rw [h.cn];rfl
theorem Cnt.cf {cb s:Nat} {d:Array α} {w W:World} (h:Cnt B cb St d s w W):W.frozen? ⟨cb,0,none⟩=false:=by
 unfold World.frozen?;rw [h.cn];rfl
theorem Cnt.trans {cb s s':Nat} {d d':Array α} {w W W':World} (h:Cnt B cb St d s w W) (k:Cnt B cb St d' s' W W'):Cnt B cb St d' s' w W' :=
 ⟨k.st,k.os.trans h.os,k.tape.trans h.tape,k.output.trans h.output,Nat.le_trans h.size k.size,fun b h1 h2 h3=>(k.same b h1 (zY1p h2 h.size) h3).trans (h.same b h1 h2 h3),k.cn⟩
theorem Cnt.is_lt {cb s:Nat} {d:Array α} {w W:World} (h:Cnt B cb St d s w W):cb<W.heap.size:=by
 have:=h.cn;rw [zY17] at this;exact this.1
def Bxx (lf:Nat) (lb:Array Value) (sf:Nat) (sb:Array Value) (g:Nat) (W:World):Prop:=W.heap[g]? = some (.cells #[.func (.func lf) #[] lb,.func (.func sf) #[] sb] 236 (0,0))
theorem Bxx.c0 {g:Nat} {W:World} (h:Bxx lf lb sf sb g W):W.cell? ⟨g,0,none⟩=some (.func (.func lf) #[] lb):=by
 unfold World.cell?;rw [show W.heap[g]? = _ from h];rfl
theorem Bxx.c1 {g:Nat} {W:World} (h:Bxx lf lb sf sb g W):W.cell? ⟨g,1,none⟩=some (.func (.func sf) #[] sb):=by
 unfold World.cell?;rw [show W.heap[g]? = _ from h];rfl
theorem Bxx.is_lt {g:Nat} {W:World} (h:Bxx lf lb sf sb g W):g<W.heap.size:=by
 have:W.heap[g]? = _:=h;rw [zY17] at this;exact this.1
theorem Bxx.to {g cb s:Nat} {d:Array α} {W W':World} (h:Bxx lf lb sf sb g W) (k:Cnt B cb St d s W W') (hg:B≤g) (hne:g≠cb):Bxx lf lb sf sb g W':=(k.same g hg h.is_lt hne).trans h
theorem Cnt.fwd {cb s:Nat} {d:Array α} {w W W':World} (h:Cnt B cb St d s w W) (hcB:B≤cb) (hs:St d W'∧Fwd B W W'):Cnt B cb St d s w W' :=
 ⟨hs.1,hs.2.os.trans h.os,hs.2.tape.trans h.tape,hs.2.output.trans h.output,Nat.le_trans h.size hs.2.size,fun b h1 h2 h3=>(hs.2.same b h1 (zY1p h2 h.size)).trans (h.same b h1 h2 h3),(hs.2.same _ hcB h.is_lt).trans h.cn⟩
end
section
variable {α:Type} [Inhabited α] {lt:α→α→Bool} {n B lf sf:Nat} {lb sb:Array Value} {St:Array α→World→Prop}
theorem Cnt.add (S:Srt lt n B lf lb sf sb St) {cb s:Nat} {d:Array α} {w W:World} (h:Cnt B cb St d s w W) (hcB:B≤cb) {s':Nat} {z:Int} (hz:z=(s':Int)):Cnt B cb St d s' w (W.setCell ⟨cb,0,none⟩ (.int .i64 z)):=by
 subst hz;have hl:=h.is_lt;have hsz:(W.setCell ⟨cb,0,none⟩ (.int .i64 (s':Int))).heap.size=W.heap.size:=by simp [World.setCell]
 refine ⟨S.keep h.st ((Below.refl _ _).setCell hcB _),h.os,h.tape,h.output,by rw [hsz];exact h.size,fun b h1 h2 h3=>(heap_setCell_other W _ b _ h3).trans (h.same b h1 h2 h3),?_⟩;have:=heap_setCell_same W cb 0 _ _ (.int .i64 (s':Int)) h.cn;simpa using this
theorem Cnt.start (S:Srt lt n B lf lb sf sb St) {cb s:Nat} {d:Array α} {w:World} (h:St d w) (hc:w.heap[cb]? = some (.cells #[.int .i64 s] 3 (0,0))) (o:Obj):Cnt B cb St d s w (w.alloc o):=by
 have hb:=S.base h;have hl:cb<w.heap.size:=by rw [zY17] at hc;exact hc.1
 exact ⟨S.keep h ((Below.refl _ _).alloc hb _),rfl,rfl,rfl,by rw [z4k];omega,fun b _ h2 _=>z9x _ _ h2,(z9x _ _ hl).trans hc⟩
theorem zki (S:Srt lt n B lf lb sf sb St) {w:World} {d:Array α} (h:St d w) {cb s:Nat} (hcB:B≤cb) (hc:w.heap[cb]? = some (.cells #[.int .i64 s] 3 (0,0))) (hs:s+1<4611686018427387904) {a b:Nat} (ha:a<n) (hb:b<n) :
  Calls Tryz.prog 221 #[.agg #[.func (.func lf) #[] lb,.func (.func sf) #[] sb],.int .i64 a,.int .i64 b,.pointer (some ⟨cb,0,none⟩)] w fun e w'=>e = .returned (.tuple #[.int .i64 ((order2 lt d a b s).1:Nat),.int .i64 ((order2 lt d a b s).2.1:Nat)])∧Cnt B cb St d (order2 lt d a b s).2.2 w w':=by
 have hw:=S.base h;have hl:cb<w.heap.size:=by rw [zY17] at hc;exact hc.1
 have hC:=Cnt.start S h hc (.cells #[.func (.func lf) #[] lb,.func (.func sf) #[] sb] 236);have hO:=On.start S h;have hbig:=S.big;have eg:=S.enters;have c0:=hO.c0
 cases hl:lt d[b]! d[a]! with
 | true =>
  have hd:=S.less b a hO.st hb ha;rw [hl] at hd;have hv:order2 lt d a b s=(b,a,s+1):=by unfold order2;rw [hl];rfl
  rw [hv];clear hc hv hl hO;go_enter Tryz.func221,Tryz.ntmps221;go_wp2_with (refine hd.mono ?_;rintro e w1 ⟨rfl,hW1⟩;have hC1:=hC.fwd hcB hW1;have cc:=hC1.cc;have cf:=hC1.cf;simp only []);go_ret2;exact ⟨rfl,hC1.add S hcB (by omega)⟩
 | false =>
  have hd:=S.less b a hO.st hb ha;rw [hl] at hd;have hv:order2 lt d a b s=(a,b,s):=by unfold order2;rw [hl];rfl
  rw [hv];clear hc hv hl hO;go_enter Tryz.func221,Tryz.ntmps221;go_wp2_with (refine hd.mono ?_;rintro e w1 ⟨rfl,hW1⟩;have hC1:=hC.fwd hcB hW1;have cc:=hC1.cc;have cf:=hC1.cf;simp only []);go_ret2;exact ⟨rfl,hC1⟩
theorem z9b (lt:α→α→Bool) (d:Array α) {a b s n:Nat} (ha:a<n) (hb:b<n):(order2 lt d a b s).1<n∧(order2 lt d a b s).2.1<n∧(order2 lt d a b s).2.2≤s+1:=by
 unfold order2
 split
 ·exact ⟨hb,ha,zY0m _⟩
 ·exact ⟨ha,hb,by show s≤s+1;omega⟩
theorem zfu (lt:α→α→Bool) (d:Array α) {a b c s n:Nat} (ha:a<n) (hb:b<n) (hc:c<n):(median lt d a b c s).1<n∧(median lt d a b c s).2≤s+3:=by
 unfold median;have h1:=z9b lt d (s:=s) ha hb;have h2:=z9b lt d (s:=(order2 lt d a b s).2.2) h1.2.1 hc;have h3:=z9b lt d (s:=(order2 lt d (order2 lt d a b s).2.1 c (order2 lt d a b s).2.2).2.2) h1.1 h2.1;exact ⟨h3.2.1,by dsimp only;omega⟩
theorem zkj (S:Srt lt n B lf lb sf sb St) {w:World} {d:Array α} (h:St d w) {cb s:Nat} (hcB:B≤cb) (hc:w.heap[cb]? = some (.cells #[.int .i64 s] 3 (0,0))) (hs:s+3<4611686018427387904) {a b c:Nat} (ha:a<n) (hb:b<n) (hcn:c<n) :
  Calls Tryz.prog 204 #[.agg #[.func (.func lf) #[] lb,.func (.func sf) #[] sb],.int .i64 a,.int .i64 b,.int .i64 c,.pointer (some ⟨cb,0,none⟩)] w fun e w'=>e = .returned (.int .i64 ((median lt d a b c s).1:Nat))∧Cnt B cb St d (median lt d a b c s).2 w w':=by
 have hw:=S.base h;have hl:cb<w.heap.size:=by rw [zY17] at hc;exact hc.1
 have hC:=Cnt.start S h hc (.cells #[.func (.func lf) #[] lb,.func (.func sf) #[] sb] 236);have hX:Bxx lf lb sf sb w.heap.size (w.alloc (.cells #[.func (.func lf) #[] lb,.func (.func sf) #[] sb] 236)):=z9w _ _;have m1:=z9b lt d (s:=s) ha hb;obtain ⟨a1,b1,s1,e1⟩:∃ a1 b1 s1,order2 lt d a b s=(a1,b1,s1):=⟨_,_,_,rfl⟩
 rw [e1] at m1;obtain ⟨ha1,hb1,hs1⟩:=m1;simp only at ha1 hb1 hs1;have m2:=z9b lt d (s:=s1) hb1 hcn;obtain ⟨b2,c2,s2,e2⟩:∃ a1 c1 s1',order2 lt d b1 c s1=(a1,c1,s1'):=⟨_,_,_,rfl⟩
 rw [e2] at m2;obtain ⟨hb2,hc2,hs2⟩:=m2;simp only at hb2 hc2 hs2;obtain ⟨a3,b3,s3,e3⟩:∃ a3 b3 s3,order2 lt d a1 b2 s2=(a3,b3,s3):=⟨_,_,_,rfl⟩
 have hv:median lt d a b c s=(b3,s3):=by unfold median;simp only [e1,e2,e3]
 rw [hv];have hd1:=zki S hC.st hcB hC.cn (s:=s) (by omega) ha hb;have hd2:=fun W (hC:Cnt B cb St d s1 w W)=>zki S hC.st hcB hC.cn (s:=s1) (by omega) hb1 hcn
 have hd3:=fun W (hC:Cnt B cb St d s2 w W)=>zki S hC.st hcB hC.cn (s:=s2) (by omega) ha1 hb2
 rw [e1] at hd1;simp only [e2,e3] at hd1 hd2 hd3;have H2:=Lib.hid hd2;have H3:=Lib.hid hd3;have c0:=hX.c0;have c1:=hX.c1;clear hd2 hd3 e1 e2 e3 hv hc;go_enter Tryz.func204,Tryz.ntmps204;go_wp2_with (first|(refine hd1.mono ?_;rintro e w1 ⟨rfl,hK⟩;clear hd1;have hX1:=hX.to hK hw (by omega);have hC1:=hC.trans hK;have c0:=hX1.c0;have c1:=hX1.c1;have hd2:=H2.out _ hC1;simp only [])|(refine hd2.mono ?_;rintro e w2 ⟨rfl,hK2⟩;clear hd2;have hX2:=hX1.to hK2 hw (by omega);have hC2:=hC1.trans hK2;have c0:=hX2.c0;have c1:=hX2.c1;have hd3:=H3.out _ hC2;simp only [])|(refine hd3.mono ?_;rintro e w3 ⟨rfl,hK3⟩;have hC3:=hC2.trans hK3;simp only []));go_ret;exact ⟨rfl,hC3⟩
theorem zkk (S:Srt lt n B lf lb sf sb St) {w:World} {d:Array α} (h:St d w) {cb s:Nat} (hcB:B≤cb) (hc:w.heap[cb]? = some (.cells #[.int .i64 s] 3 (0,0))) (hs:s+3<4611686018427387904) {a:Nat} (ha:1≤a) (ha1:a+1<n) :
  Calls Tryz.prog 203 #[.agg #[.func (.func lf) #[] lb,.func (.func sf) #[] sb],.int .i64 a,.pointer (some ⟨cb,0,none⟩)] w fun e w'=>e = .returned (.int .i64 ((medianAdjacent lt d a s).1:Nat))∧Cnt B cb St d (medianAdjacent lt d a s).2 w w':=by
 have hw:=S.base h;have hl:cb<w.heap.size:=by rw [zY17] at hc;exact hc.1
 have hC:=Cnt.start S h hc (.cells #[.func (.func lf) #[] lb,.func (.func sf) #[] sb] 236);have hX:Bxx lf lb sf sb w.heap.size (w.alloc (.cells #[.func (.func lf) #[] lb,.func (.func sf) #[] sb] 236)):=z9w _ _;have hd1:=zkj S hC.st hcB hC.cn (s:=s) (a:=a - 1) (b:=a) (c:=a+1) (by omega) (by omega) (by omega) (by omega);rw [show ((a - 1:Nat):Int)=(a:Int) - 1 by omega,show ((a+1:Nat):Int)=(a:Int)+1 by omega] at hd1;have hbig:=S.big;unfold medianAdjacent;generalize median lt d (a - 1) a (a+1) s=r at *;have c0:=hX.c0;have c1:=hX.c1;clear hc;go_enter Tryz.func203,Tryz.ntmps203;go_wp2_with (refine hd1.mono ?_;rintro e w1 ⟨rfl,hK⟩;clear hd1;have hC1:=hC.trans hK;simp only []);go_ret;exact ⟨rfl,hC1⟩
def z7p:Go.Sort.Hint→Int
 | .unknown=>0
 | .increasing=>1
 | .decreasing=>2
theorem z0gh (lt:α→α→Bool) (d:Array α) (a b:Nat) {p s:Nat} (h:(if b - a ≥ 8 then (if b - a ≥ 50 then
  median lt d (medianAdjacent lt d (a+(b - a) / 4 * 1) 0).1 (medianAdjacent lt d (a+(b - a) / 4 * 2) (medianAdjacent lt d (a+(b - a) / 4 * 1) 0).2).1 (medianAdjacent lt d (a+(b - a) / 4 * 3) (medianAdjacent lt d (a+(b - a) / 4 * 2) (medianAdjacent lt d (a+(b - a) / 4 * 1) 0).2).2).1 (medianAdjacent lt d (a+(b - a) / 4 * 3) (medianAdjacent lt d (a+(b - a) / 4 * 2) (medianAdjacent lt d (a+(b - a) / 4 * 1) 0).2).2).2
  else median lt d (a+(b - a) / 4 * 1) (a+(b - a) / 4 * 2) (a+(b - a) / 4 * 3) 0) else (a+(b - a) / 4 * 2,0))=(p,s)) :
  choosePivot lt d a b=(p,if s=0 then .increasing else if s=12 then .decreasing else .unknown):=by
 unfold choosePivot;simp only [h]
theorem z0gi {s:Nat} (h:s=0):z7p (if s=0 then Go.Sort.Hint.increasing else if s=12 then .decreasing else .unknown)=1:=by rw [if_pos h];rfl
theorem z0ag {s:Nat} (h:s≠0) (h':s=12):z7p (if s=0 then Go.Sort.Hint.increasing else if s=12 then .decreasing else .unknown)=2:=by rw [if_neg h,if_pos h'];rfl
theorem z0gj {s:Nat} (h:s≠0) (h':s≠12):z7p (if s=0 then Go.Sort.Hint.increasing else if s=12 then .decreasing else .unknown)=0:=by rw [if_neg h,if_neg h'];rfl
theorem Cnt.new (S:Srt lt n B lf lb sf sb St) {w:World} {d:Array α} (h:St d w) (o:Obj):Cnt B (w.heap.size+1) St d 0 ((w.alloc o).alloc (.cells #[.int .i64 0] 3)) ((w.alloc o).alloc (.cells #[.int .i64 0] 3)):=by
 have hb:=S.base h;refine ⟨S.keep h (((Below.refl _ _).alloc hb _).alloc (by rw [z4k];omega) _),rfl,rfl,rfl,zY0m _,fun _ _ _ _=>rfl,?_⟩;have:=z9w (w.alloc o) (.cells #[.int .i64 0] 3);rw [z4k] at this;exact this
theorem Cnt.done (S:Srt lt n B lf lb sf sb St) {w:World} {s:Nat} {d:Array α} {W:World} {o o':Obj} (hw:B≤w.heap.size) (h:Cnt B (w.heap.size+1) St d s ((w.alloc o).alloc o') W):St d W∧Fwd B w W:=by
 have h1:=h.size;rw [z4k,z4k] at h1;refine ⟨h.st,h.os,h.tape,h.output,by omega,fun b h2 h3=>(h.same b h2 (by rw [z4k,z4k];omega) (by omega)).trans ?_⟩;rw [z9x _ _ (by rw [z4k];omega),z9x _ _ h3]
theorem z0jr (S:Srt lt n B lf lb sf sb St) {w:World} {d:Array α} (h:St d w) {a b:Nat} (hab:a<b) (hb:b≤n) :
  Calls Tryz.prog 186 #[.agg #[.func (.func lf) #[] lb,.func (.func sf) #[] sb],.int .i64 a,.int .i64 b] w fun e w'=>e = .returned (.tuple #[.int .i64 ((choosePivot lt d a b).1:Nat),.int .i64 (z7p (choosePivot lt d a b).2)])∧St d w'∧Fwd B w w':=by
 have hw:=S.base h;have hC0:=Cnt.new S h (.cells #[.func (.func lf) #[] lb,.func (.func sf) #[] sb] 236);have hX0:Bxx lf lb sf sb w.heap.size ((w.alloc (.cells #[.func (.func lf) #[] lb,.func (.func sf) #[] sb] 236)).alloc (.cells #[.int .i64 0] 3)):=(z9x _ _ (by rw [z4k];omega)).trans (z9w _ _);have hbig:=S.big;have hcB:B≤w.heap.size+1:=by omega
 have hg:w.heap.size≠w.heap.size+1:=by omega
 have he:=fun p s=>@z0gh α _ lt d a b p s
 obtain ⟨I,hI⟩:∃ I:Nat,I=a+(b - a) / 4 * 1:=⟨_,rfl⟩
 obtain ⟨J,hJ⟩:∃ J:Nat,J=a+(b - a) / 4 * 2:=⟨_,rfl⟩
 obtain ⟨K,hK⟩:∃ K:Nat,K=a+(b - a) / 4 * 3:=⟨_,rfl⟩
 rw [← hI,← hJ,← hK] at he;have eI:((a:Int)+((b:Int) - (a:Int)) / 4)=(I:Int):=by omega
 have eJ:((a:Int)+((b:Int) - (a:Int)) / 4 * 2)=(J:Int):=by omega
 have eK:((a:Int)+((b:Int) - (a:Int)) / 4 * 3)=(K:Int):=by omega
 by_cases h8:b - a ≥ 8
 rotate_left
 ·have hr:=he J 0 (by rw [if_neg h8])
  rw [hr,show z7p (if 0=0 then Go.Sort.Hint.increasing else if 0=12 then .decreasing else .unknown)=1 from rfl];have z8:¬ (8:Int)≤(b:Int) - (a:Int):=by omega
  clear he hr hI hJ hK;go_enter Tryz.func186,Tryz.ntmps186;go_wp2;go_ret2;exact ⟨rfl,hC0.done S hw⟩
 have z8:(8:Int)≤(b:Int) - (a:Int):=by omega
 have hIn:I+1<n:=by omega
 have hJn:J+1<n:=by omega
 have hKn:K+1<n:=by omega
 have hI1:1≤I:=by omega
 have hJ1:1≤J:=by omega
 have hK1:1≤K:=by omega
 by_cases h50:b - a ≥ 50
 ·have z50:(50:Int)≤(b:Int) - (a:Int):=by omega
  obtain ⟨i1,s1,e1⟩:∃ i1 s1,medianAdjacent lt d I 0=(i1,s1):=⟨_,_,rfl⟩
  obtain ⟨j1,s2,e2⟩:∃ j1 s2,medianAdjacent lt d J s1=(j1,s2):=⟨_,_,rfl⟩
  obtain ⟨k1,s3,e3⟩:∃ k1 s3,medianAdjacent lt d K s2=(k1,s3):=⟨_,_,rfl⟩
  obtain ⟨p,s,e4⟩:∃ p s,median lt d i1 j1 k1 s3=(p,s):=⟨_,_,rfl⟩
  have m1:=zfu lt d (a:=I - 1) (b:=I) (c:=I+1) (s:=0) (n:=n) (by omega) (by omega) (by omega);rw [show median lt d (I - 1) I (I+1) 0=(i1,s1) from e1] at m1;have m2:=zfu lt d (a:=J - 1) (b:=J) (c:=J+1) (s:=s1) (n:=n) (by omega) (by omega) (by omega);rw [show median lt d (J - 1) J (J+1) s1=(j1,s2) from e2] at m2;have m3:=zfu lt d (a:=K - 1) (b:=K) (c:=K+1) (s:=s2) (n:=n) (by omega) (by omega) (by omega);rw [show median lt d (K - 1) K (K+1) s2=(k1,s3) from e3] at m3;simp only at m1 m2 m3;have hr:=he p s (by rw [if_pos h8,if_pos h50,e1,e2,e3];exact e4);rw [hr];clear he hr;obtain ⟨Hc,hHc⟩:∃ Hc:Int,Hc=z7p (if s=0 then Go.Sort.Hint.increasing else if s=12 then .decreasing else .unknown):=⟨_,rfl⟩
  have hh0:s=0→Hc=1:=fun h=>by rw [hHc,z0gi h]
  have hh12:s=12→Hc=2:=fun h=>by rw [hHc,z0ag (by omega) h]
  have hhx:s≠0→s≠12→Hc=0:=fun h1 h2=>by rw [hHc,z0gj h1 h2]
  show Calls _ _ _ _ fun e w'=>e = .returned (.tuple #[.int .i64 (p:Nat),.int .i64 (z7p (if s=0 then Go.Sort.Hint.increasing else if s=12 then .decreasing else .unknown))])∧_
  rw [← hHc];clear hHc;have hd1:=zkk S hC0.st hcB hC0.cn (s:=0) (a:=I) (by omega) hI1 hIn;have hd2:=fun W (hC:Cnt B (w.heap.size+1) St d s1 _ W)=>zkk S (Cnt.st (w:=(w.alloc (.cells #[.func (.func lf) #[] lb,.func (.func sf) #[] sb] 236)).alloc (.cells #[.int .i64 0] 3)) hC) hcB hC.cn (s:=s1) (a:=J) (by omega) hJ1 hJn
  have hd3:=fun W (hC:Cnt B (w.heap.size+1) St d s2 _ W)=>zkk S (Cnt.st (w:=(w.alloc (.cells #[.func (.func lf) #[] lb,.func (.func sf) #[] sb] 236)).alloc (.cells #[.int .i64 0] 3)) hC) hcB hC.cn (s:=s2) (a:=K) (by omega) hK1 hKn
  have hd4:=fun W (hC:Cnt B (w.heap.size+1) St d s3 _ W)=>zkj S (Cnt.st (w:=(w.alloc (.cells #[.func (.func lf) #[] lb,.func (.func sf) #[] sb] 236)).alloc (.cells #[.int .i64 0] 3)) hC) hcB hC.cn (s:=s3) (a:=i1) (b:=j1) (c:=k1) (by omega) m1.1 m2.1 m3.1
  simp only [e1,e2,e3,e4] at hd1 hd2 hd3 hd4;have H2:=Lib.hid hd2;have H3:=Lib.hid hd3;have H4:=Lib.hid hd4;clear hd2 hd3 hd4 e1 e2 e3 e4 hI hJ hK m1 m2 m3;have c0:=hX0.c0;have c1:=hX0.c1;go_enter Tryz.func186,Tryz.ntmps186;go_wp2_with (first|(refine hd1.mono ?_;rintro e w1 ⟨rfl,hQ1⟩;clear hd1 c0 c1;have hX1:=hX0.to hQ1 hw hg;have hC1:=hC0.trans hQ1;have c0:=hX1.c0;have c1:=hX1.c1;have hd2:=H2.out _ hC1;simp only [])|(refine hd2.mono ?_;rintro e w2 ⟨rfl,hQ2⟩;clear hd2 c0 c1;have hX2:=hX1.to hQ2 hw hg;have hC2:=hC1.trans hQ2;have c0:=hX2.c0;have c1:=hX2.c1;have hd3:=H3.out _ hC2;simp only [])|(refine hd3.mono ?_;rintro e w3 ⟨rfl,hQ3⟩;clear hd3 c0 c1;have hX3:=hX2.to hQ3 hw hg;have hC3:=hC2.trans hQ3;have c0:=hX3.c0;have c1:=hX3.c1;have hd4:=H4.out _ hC3;simp only [])|(refine hd4.mono ?_;rintro e w4 ⟨rfl,hQ4⟩;clear hd4 c0 c1;have hC4:=hC3.trans hQ4;have cc:=hC4.cc;simp only []))
  all_goals
   go_ret2;refine ⟨?_,hC4.done S hw⟩
   first|(rw [hh0 (by (have y:=‹((s:Int) == 0)=true›;simp at y;omega))];rfl)|(rw [hh12 (by (have y:=‹((s:Int) == 12)=true›;simp at y;omega))];rfl)|(rw [hhx (by (have y:=‹((s:Int) == 0)=false›;simp at y;omega)) (by (have y:=‹((s:Int) == 12)=false›;simp at y;omega))];rfl)
 ·have z50:¬ (50:Int)≤(b:Int) - (a:Int):=by omega
  obtain ⟨p,s,e4⟩:∃ p s,median lt d I J K 0=(p,s):=⟨_,_,rfl⟩
  have hr:=he p s (by rw [if_pos h8,if_neg h50];exact e4);rw [hr];clear he hr;obtain ⟨Hc,hHc⟩:∃ Hc:Int,Hc=z7p (if s=0 then Go.Sort.Hint.increasing else if s=12 then .decreasing else .unknown):=⟨_,rfl⟩
  have hh0:s=0→Hc=1:=fun h=>by rw [hHc,z0gi h]
  have hh12:s=12→Hc=2:=fun h=>by rw [hHc,z0ag (by omega) h]
  have hhx:s≠0→s≠12→Hc=0:=fun h1 h2=>by rw [hHc,z0gj h1 h2]
  show Calls _ _ _ _ fun e w'=>e = .returned (.tuple #[.int .i64 (p:Nat),.int .i64 (z7p (if s=0 then Go.Sort.Hint.increasing else if s=12 then .decreasing else .unknown))])∧_
  rw [← hHc];clear hHc;have hd4:=zkj S hC0.st hcB hC0.cn (s:=0) (a:=I) (b:=J) (c:=K) (by omega) (by omega) (by omega) (by omega);rw [e4] at hd4;clear e4 hI hJ hK;have c0:=hX0.c0;have c1:=hX0.c1;go_enter Tryz.func186,Tryz.ntmps186;go_wp2_with (refine hd4.mono ?_;rintro e w4 ⟨rfl,hQ4⟩;clear hd4 c0 c1;have hC4:=hC0.trans hQ4;have cc:=hC4.cc;simp only [])
  all_goals
   go_ret2;refine ⟨?_,hC4.done S hw⟩
   first|(rw [hh0 (by (have y:=‹((s:Int) == 0)=true›;simp at y;omega))];rfl)|(rw [hh12 (by (have y:=‹((s:Int) == 12)=true›;simp at y;omega))];rfl)|(rw [hhx (by (have y:=‹((s:Int) == 0)=false›;simp at y;omega)) (by (have y:=‹((s:Int) == 12)=false›;simp at y;omega))];rfl)
end
end
end Go.Proofs.YtaddehddalnliaaGreatDoor
