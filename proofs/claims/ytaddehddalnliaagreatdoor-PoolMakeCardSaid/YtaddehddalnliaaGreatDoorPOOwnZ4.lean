/- Own texts, put together by wip/bundle.py: VQ4, VQ5, VQ6, VQ7, VQ8, VQ9, VQ10, VUB, VUD, VUE, VE2, VL5, VL5a, VL5b, VL5c, VL6, VUC, VE3, VE5, VE6, VE7, VC7, VTxR, VW26. -/
import Derived.Deep.DeepCutAuto
import Derived.Deep.Light
import Derived.Sort.AssemblyPlain
import Derived.Shelf.SlSortFuncK.BreakPatternsK
import Derived.Shelf.GgSortFunc.SmallK
import Derived.Shelf.GgSortFunc.Slice
import Derived.Shelf.GgSortFunc.Tiny
import Derived.Test.YtaddehddalnliaaGreatDoorShelf4
import Derived.Test.YtaddehddalnliaaGreatDoorPOOwnB
import Derived.Test.YtaddehddalnliaaGreatDoorPOOwnC
import Derived.Test.YtaddehddalnliaaGreatDoorPOOwnR
import Derived.Test.YtaddehddalnliaaGreatDoorPOOwnS
import Derived.Test.YtaddehddalnliaaGreatDoorPOOwnV2
import Derived.Test.YtaddehddalnliaaGreatDoorPOOwnZ2
import Derived.Test.YtaddehddalnliaaGreatDoorPOOwnZ3
set_option linter.unusedVariables false
set_option linter.unusedSimpArgs false
namespace Go.Proofs.YtaddehddalnliaaGreatDoor
section
open Go.RowKit
set_option maxRecDepth 100000
set_option maxHeartbeats 8000000
attribute [local irreducible] z00 spD z1e z91 z18
theorem z4n {sp:Nat→z9} {E:Env} {vs l:Nat} {a ka:Atom} {ats:List Atom} {rows r:List (List Dt)} {n:Int} {ds:List Dt} (ha:a.val E=some (.l l rows)) (hk:ka.val E=some (I n)) (hv:vals E ats=some ds) (h:ds.length=vs∧l=1+vs) (hr:zbb n ds rows=r):denX sp E (.mput vs a ka ats)=some (.l (1+vs) r):=by
 simp only [denX,ha,hk,asI,hv];rw [if_pos h,hr]
attribute [local irreducible] den denX z0f z0k
attribute [local irreducible] z62
theorem z0gz:Meets Tryz.prog zbt 134 ⟨[.one,.one,.one],[(false,[.fresh 3 1]),(false,[.scal])],false⟩:=by
 refine z5r (sp:=(z07 [(42,z62)])) (sigs:=z0i) (cut:=[65]) (hints:=[⟨5,[.r 6 3 1,.t 7,.r 1 3 1,.t 26,.z 21]⟩,⟨49,[.r 6 3 1,.t 7,.r 1 3 1,.t 147,.z 65,.z 34,.z 40,.z 41,.z 44,.z 48,.z 49,.z 52,.z 54,.z 55,.z 58,.z 60,.z 61]⟩,⟨44,[.t 16,.t 135]⟩]) (fns:=[z6s 154 Tryz.f154 [] []]) (dep:=2) (pool:=300) (fn:=Tryz.f134) (t:=z0c) (by kernel_rfl) (by kernel_rfl) (by kernel_rfl) ?_ ?_ ?_
 ·exact (z1x (fn:=Tryz.f154) (by kernel_rfl) (by kernel_rfl) (by kernel_rfl) (by kernel_rfl) (by kernel_rfl) z6t)
 ·exact (z01 (L:=[(42,z62)]) ⟨za rfl z0mz,trivial⟩)
 ·rintro ds rs - h
  obtain ⟨⟨l,s0,ht⟩,⟨hc0,hs0⟩,rfl,rfl⟩:=zi h;clear h;simp only at hc0 hs0;refine ⟨⟨l.length+6,?_⟩,?_⟩
  ·show den _ _ z0c [.l 2 (l.map eOp),.l 1 (s0.map z19),I ht] []=ret (zdt (z2q ht s0 l))
   obtain ⟨hl16,hall⟩:=z0pg hc0;have hs0l:=hs0.1;unfold z0c;refine z4 (z28 (r:=[]) rfl rfl (by simp)) ?_;refine z4 (zam (l:=([]:List Int)) (l':=s0) (f:=z19) rfl rfl (by simp;omega)) ?_;refine z4 (d:=.l 2 [[I 2,I 1]]) (z4n rfl rfl rfl ⟨rfl,rfl⟩ rfl) ?_;refine z4 (d:=.l 2 [[I 2,I 1],[I 3,I 2]]) (z4n rfl rfl rfl ⟨rfl,rfl⟩ rfl) ?_;refine z4 (d:=.l 2 [[I 2,I 1],[I 3,I 2],[I 4,I 1]]) (z4n rfl rfl rfl ⟨rfl,rfl⟩ rfl) ?_;refine z4 (d:=.l 2 [[I 2,I 1],[I 3,I 2],[I 4,I 1],[I 5,I 2]]) (z4n rfl rfl rfl ⟨rfl,rfl⟩ rfl) ?_;refine z4 (d:=.l 2 [[I 2,I 1],[I 3,I 2],[I 4,I 1],[I 5,I 2],[I 6,I 2]]) (z4n rfl rfl rfl ⟨rfl,rfl⟩ rfl) ?_;refine z4 (d:=.l 2 [[I 2,I 1],[I 3,I 2],[I 4,I 1],[I 5,I 2],[I 6,I 2],[I 7,I 2]]) (z4n rfl rfl rfl ⟨rfl,rfl⟩ rfl) ?_;refine z4 (d:=.l 2 [[I 2,I 1],[I 3,I 2],[I 4,I 1],[I 5,I 2],[I 6,I 2],[I 7,I 2],[I 8,I 2]]) (z4n rfl rfl rfl ⟨rfl,rfl⟩ rfl) ?_;refine z4 (d:=.l 2 [[I 2,I 1],[I 3,I 2],[I 4,I 1],[I 5,I 2],[I 6,I 2],[I 7,I 2],[I 8,I 2],[I 9,I 1]]) (z4n rfl rfl rfl ⟨rfl,rfl⟩ rfl) ?_;refine z4 (d:=.l 2 [[I 2,I 1],[I 3,I 2],[I 4,I 1],[I 5,I 2],[I 6,I 2],[I 7,I 2],[I 8,I 2],[I 9,I 1],[I 10,I 2]]) (z4n rfl rfl rfl ⟨rfl,rfl⟩ rfl) ?_;refine z4 (d:=.l 2 [[I 2,I 1],[I 3,I 2],[I 4,I 1],[I 5,I 2],[I 6,I 2],[I 7,I 2],[I 8,I 2],[I 9,I 1],[I 10,I 2],[I 11,I 1]]) (z4n rfl rfl rfl ⟨rfl,rfl⟩ rfl) ?_;refine z4 (d:=.l 2 [[I 2,I 1],[I 3,I 2],[I 4,I 1],[I 5,I 2],[I 6,I 2],[I 7,I 2],[I 8,I 2],[I 9,I 1],[I 10,I 2],[I 11,I 1],[I 13,I 1]]) (z4n rfl rfl rfl ⟨rfl,rfl⟩ rfl) ?_
   repeat' (first|refine dq1 ?_|fail)
   (refine zw (fun (s:List Int) k=>[.l 1 (([]:List Int).map z19),.b false,.l 1 (s.map z19),I k]) (fun (s:List Int) _ (r:List Op)=>zdt (z2q ht s r)) (fun s _=>z1g s) s0 l ?_ ?_ ?_ ?_ ?_;rfl;exact hs0;omega)
   ·rintro s k ⟨kd,nn⟩ r hx hd hk hs again' hag
    have hob:=z0gy (hall _ (zY0f hx));simp only at hob;have hF:z2s ht s ⟨kd,nn⟩=none→zdt (z2q ht s (⟨kd,nn⟩::r))=([],false):=fun e=>by rw [z2q,e];rfl
    have hO:∀ s',z2s ht s ⟨kd,nn⟩=some s'→again' [.l 1 (([]:List Int).map z19),.b false,.l 1 (s'.map z19),I ((k:Int)+1)]=ret (zdt (z2q ht s (⟨kd,nn⟩::r))):=fun s' e=>by rw [z2q,e];exact hag s' (zfi hs e)
    have key:∀ kd,1≤kd→kd≤13→z6i kd:=fun kd h0 h1=>by
     have hk13:kd=1∨kd=2∨kd=3∨kd=4∨kd=5∨kd=6∨kd=7∨kd=8∨kd=9∨kd=10∨kd=11∨kd=12∨kd=13:=by omega
     rcases hk13 with rfl|rfl|rfl|rfl|rfl|rfl|rfl|rfl|rfl|rfl|rfl|rfl|rfl
     all_goals first|exact z0n0|exact z0n1|exact z0n2|exact z0n3|exact z0n4|exact z0n5|exact z0n6|exact z0n7|exact z0n8|exact z0k3|exact z0k4|exact z0k5|exact z0k6
    exact key kd hob.1 hob.2 l s0 s ht nn k _ again' hl16 hs.1 hs hk hx hF hO
   ·rintro s hs again'
    repeat' (first|refine dq1 ?_|exact z5 rfl rfl|refine dqF ?_|fail)
  ·intro i d hi hd
   match i,hi,hd with
   | 0,hi,_=>simp [zn] at hi
   | 1,_,hd=>simp only [Enc.e,z19,zf2,zY1j,zY11,zY04,zY2a,zY00] at hd;subst hd;rfl
   | i+2,hi,hd=>simp [zn] at hi
noncomputable def z9h:z9:=spD (fun x:List Op × List Op × Int=>z7 x.1=0∧z7 x.2.1=0∧0≤x.2.2∧x.2.2≤1000) fun x=>(z1z x.1 x.2.1 x.2.2).1
theorem zv8 (l k:List Op) (h:Int) (hl:z7 l=0) (hk:z7 k=0) (h0:0≤h∧h≤1000):z9h [.l 2 (l.map eOp),.l 2 (k.map eOp),I h]=some [.b (z1z l k h).1]:=zg (p:=fun x:List Op × List Op × Int=>z7 x.1=0∧z7 x.2.1=0∧0≤x.2.2∧x.2.2≤1000) (f:=fun x:List Op × List Op × Int=>(z1z x.1 x.2.1 x.2.2).1) (l,k,h) ⟨hl,hk,h0⟩
attribute [local irreducible] z2q z1z
theorem z0h0:Meets Tryz.prog z9h 108 ⟨[.one,.one,.one],[(false,[.scal])],true⟩:=by
 refine zj (sp:=(z07 [(43,zbt)])) (sigs:=z0i) (cut:=[]) (hints:=[]) (fn:=Tryz.f108) (t:=zi8) (by kernel_rfl) (by kernel_rfl) (by kernel_rfl) ?_ ?_
 ·exact (z01 (L:=[(43,zbt)]) ⟨za rfl z0gz,trivial⟩)
 ·rintro ds rs - h
  obtain ⟨⟨l,k,ht⟩,⟨hl,hk,h0,h1⟩,rfl,rfl⟩:=zi h;clear h;simp only at hl hk h0 h1;refine ⟨⟨1,?_⟩,zy rfl⟩
  show den _ _ zi8 [.l 2 (l.map eOp),.l 2 (k.map eOp),I ht] []=ret (z1z l k ht).1
  rw [z0bn hl hk h0 h1];have a1:=zgd k [] ht hk zab;have hsk:∀ s,z2q ht [] k=some s→z1g s:=fun s h=>zk4 zab h
  unfold zi8;generalize z2q ht [] k=r at *
  cases r with
  | none =>
   simp only [zdt,zY09,zlz] at a1 ⊢
   repeat' (first|refine dqK rfl (a1) ?_|exact z5 rfl rfl|refine z0m rfl ?_|fail)
  | some s =>
   have hs:=hsk s rfl;have a2:=zgd l s ht hl hs;simp only [zY05];generalize z2q ht s l=q at *;rcases q with _|⟨_|⟨x,_|⟨y,t⟩⟩⟩
   all_goals
    simp only [zdt,zlz] at a1 a2 ⊢
    try have hl0:¬ (((([]:List Int).length:Nat):Int)=1):=by simp
    try have hl1:((([x]:List Int).length:Nat):Int)=1:=rfl
    try have hl2:¬ ((((x::y::t).length:Nat):Int)=1):=by simp only [zY0g];omega
    try have hx0:([x]:List Int)[(0:Int).toNat]? = some x:=rfl
    repeat' (first|refine dq1 ?_|refine dqc ?_|refine dqK rfl (a1) ?_|refine dqK rfl (a2) ?_|exact z5 rfl rfl|refine dqT ?_|refine dqF ?_|refine z0h rfl ?_|refine z0m rfl ?_|fail)
end
end Go.Proofs.YtaddehddalnliaaGreatDoor
