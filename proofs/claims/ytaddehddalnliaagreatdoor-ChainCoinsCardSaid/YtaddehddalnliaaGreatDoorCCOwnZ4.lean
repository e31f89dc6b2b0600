/- Own texts, put together by wip/bundle.py: VL6. -/
import Derived.Test.YtaddehddalnliaaGreatDoorCCOwnB
import Derived.Test.YtaddehddalnliaaGreatDoorCCOwnC
import Derived.Test.YtaddehddalnliaaGreatDoorCCOwnR
import Derived.Test.YtaddehddalnliaaGreatDoorCCOwnS
import Derived.Test.YtaddehddalnliaaGreatDoorCCOwnT
import Derived.Test.YtaddehddalnliaaGreatDoorCCOwnV2
import Derived.Test.YtaddehddalnliaaGreatDoorCCOwnZ3
set_option linter.unusedVariables false
set_option linter.unusedSimpArgs false
namespace Go.Proofs.YtaddehddalnliaaGreatDoor
section
open Go.RowKit
set_option maxRecDepth 100000
set_option maxHeartbeats 8000000
attribute [local irreducible] z01 spD z1h za1 z1f
theorem z3u {sp:Nat→za} {E:Env} {vs l:Nat} {a ka:Atom} {ats:List Atom} {rows r:List (List Dt)} {n:Int} {ds:List Dt} (ha:a.val E=some (.l l rows)) (hk:ka.val E=some (I n)) (hv:vals E ats=some ds) (h:ds.length=vs∧l=1+vs) (hr:z9h n ds rows=r):denX sp E (.mput vs a ka ats)=some (.l (1+vs) r):=by
 simp only [denX,ha,hk,asI,hv];rw [if_pos h,hr]
attribute [local irreducible] den denX z0g z0o
attribute [local irreducible] z6t
theorem z0n3:Meets Tryz.prog zct 134 ⟨[.one,.one,.one],[(false,[.fresh 3 1]),(false,[.scal])],false⟩:=by
 refine z6i (sp:=(zy [(42,z6t)])) (sigs:=z05) (cut:=[65]) (hints:=[⟨5,[.r 6 3 1,.t 7,.r 1 3 1,.t 26,.z 21]⟩,⟨49,[.r 6 3 1,.t 7,.r 1 3 1,.t 147,.z 65,.z 34,.z 40,.z 41,.z 44,.z 48,.z 49,.z 52,.z 54,.z 55,.z 58,.z 60,.z 61]⟩,⟨44,[.t 16,.t 135]⟩]) (fns:=[z8x 154 Tryz.f154 [] []]) (dep:=2) (pool:=300) (fn:=Tryz.f134) (t:=z0f) (by kernel_rfl) (by kernel_rfl) (by kernel_rfl) ?_ ?_ ?_
 ·exact (z2h (fn:=Tryz.f154) (by kernel_rfl) (by kernel_rfl) (by kernel_rfl) (by kernel_rfl) (by kernel_rfl) z7k)
 ·exact (zr (L:=[(42,z6t)]) ⟨z7 rfl z0sn,trivial⟩)
 ·rintro ds rs - h
  obtain ⟨⟨l,s0,ht⟩,⟨hc0,hs0⟩,rfl,rfl⟩:=zg h;clear h;simp only at hc0 hs0;refine ⟨⟨l.length+6,?_⟩,?_⟩
  ·show den _ _ z0f [.l 2 (l.map eOp),.l 1 (s0.map zk),I ht] []=ret (zfe (z2y ht s0 l))
   obtain ⟨hl16,hall⟩:=z0uu hc0;have hs0l:=hs0.1;unfold z0f;refine z4 (z1m (r:=[]) rfl rfl (by simp)) ?_;refine z4 (zir (l:=([]:List Int)) (l':=s0) (f:=zk) rfl rfl (by simp;omega)) ?_;refine z4 (d:=.l 2 [[I 2,I 1]]) (z3u rfl rfl rfl ⟨rfl,rfl⟩ rfl) ?_;refine z4 (d:=.l 2 [[I 2,I 1],[I 3,I 2]]) (z3u rfl rfl rfl ⟨rfl,rfl⟩ rfl) ?_;refine z4 (d:=.l 2 [[I 2,I 1],[I 3,I 2],[I 4,I 1]]) (z3u rfl rfl rfl ⟨rfl,rfl⟩ rfl) ?_;refine z4 (d:=.l 2 [[I 2,I 1],[I 3,I 2],[I 4,I 1],[I 5,I 2]]) (z3u rfl rfl rfl ⟨rfl,rfl⟩ rfl) ?_;refine z4 (d:=.l 2 [[I 2,I 1],[I 3,I 2],[I 4,I 1],[I 5,I 2],[I 6,I 2]]) (z3u rfl rfl rfl ⟨rfl,rfl⟩ rfl) ?_;refine z4 (d:=.l 2 [[I 2,I 1],[I 3,I 2],[I 4,I 1],[I 5,I 2],[I 6,I 2],[I 7,I 2]]) (z3u rfl rfl rfl ⟨rfl,rfl⟩ rfl) ?_;refine z4 (d:=.l 2 [[I 2,I 1],[I 3,I 2],[I 4,I 1],[I 5,I 2],[I 6,I 2],[I 7,I 2],[I 8,I 2]]) (z3u rfl rfl rfl ⟨rfl,rfl⟩ rfl) ?_;refine z4 (d:=.l 2 [[I 2,I 1],[I 3,I 2],[I 4,I 1],[I 5,I 2],[I 6,I 2],[I 7,I 2],[I 8,I 2],[I 9,I 1]]) (z3u rfl rfl rfl ⟨rfl,rfl⟩ rfl) ?_;refine z4 (d:=.l 2 [[I 2,I 1],[I 3,I 2],[I 4,I 1],[I 5,I 2],[I 6,I 2],[I 7,I 2],[I 8,I 2],[I 9,I 1],[I 10,I 2]]) (z3u rfl rfl rfl ⟨rfl,rfl⟩ rfl) ?_;refine z4 (d:=.l 2 [[I 2,I 1],[I 3,I 2],[I 4,I 1],[I 5,I 2],[I 6,I 2],[I 7,I 2],[I 8,I 2],[I 9,I 1],[I 10,I 2],[I 11,I 1]]) (z3u rfl rfl rfl ⟨rfl,rfl⟩ rfl) ?_;refine z4 (d:=.l 2 [[I 2,I 1],[I 3,I 2],[I 4,I 1],[I 5,I 2],[I 6,I 2],[I 7,I 2],[I 8,I 2],[I 9,I 1],[I 10,I 2],[I 11,I 1],[I 13,I 1]]) (z3u rfl rfl rfl ⟨rfl,rfl⟩ rfl) ?_
   repeat' (first|refine dq1 ?_|fail)
   (refine zn (fun (s:List Int) k=>[.l 1 (([]:List Int).map zk),.b false,.l 1 (s.map zk),I k]) (fun (s:List Int) _ (r:List Op)=>zfe (z2y ht s r)) (fun s _=>z1k s) s0 l ?_ ?_ ?_ ?_ ?_;rfl;exact hs0;omega)
   ·rintro s k ⟨kd,nn⟩ r hx hd hk hs again' hag
    have hob:=z0n2 (hall _ (zY07 hx));simp only at hob;have hF:z30 ht s ⟨kd,nn⟩=none→zfe (z2y ht s (⟨kd,nn⟩::r))=([],false):=fun e=>by rw [z2y,e];rfl
    have hO:∀ s',z30 ht s ⟨kd,nn⟩=some s'→again' [.l 1 (([]:List Int).map zk),.b false,.l 1 (s'.map zk),I ((k:Int)+1)]=ret (zfe (z2y ht s (⟨kd,nn⟩::r))):=fun s' e=>by rw [z2y,e];exact hag s' (zgx hs e)
    have key:∀ kd,1≤kd→kd≤13→z7e kd:=fun kd h0 h1=>by
     have hk13:kd=1∨kd=2∨kd=3∨kd=4∨kd=5∨kd=6∨kd=7∨kd=8∨kd=9∨kd=10∨kd=11∨kd=12∨kd=13:=by omega
     rcases hk13 with rfl|rfl|rfl|rfl|rfl|rfl|rfl|rfl|rfl|rfl|rfl|rfl|rfl
     all_goals first|exact z0so|exact z0sp|exact z0sq|exact z0sr|exact z0ss|exact z0st|exact z0su|exact z0sv|exact z0sw|exact z0pv|exact z0pw|exact z0px|exact z0py
    exact key kd hob.1 hob.2 l s0 s ht nn k _ again' hl16 hs.1 hs hk hx hF hO
   ·rintro s hs again'
    repeat' (first|refine dq1 ?_|exact z5 rfl rfl|refine dqF ?_|fail)
  ·intro i d hi hd
   match i,hi,hd with
   | 0,hi,_=>simp [zu] at hi
   | 1,_,hd=>simp only [Enc.e,zk,zgp,zY1h,zY17,zY05,zY2k,zY00] at hd;subst hd;rfl
   | i+2,hi,hd=>simp [zu] at hi
noncomputable def zah:za:=spD (fun x:List Op × List Op × Int=>z9 x.1=0∧z9 x.2.1=0∧0≤x.2.2∧x.2.2≤1000) fun x=>(z22 x.1 x.2.1 x.2.2).1
theorem z00c (l k:List Op) (h:Int) (hl:z9 l=0) (hk:z9 k=0) (h0:0≤h∧h≤1000):zah [.l 2 (l.map eOp),.l 2 (k.map eOp),I h]=some [.b (z22 l k h).1]:=ze (p:=fun x:List Op × List Op × Int=>z9 x.1=0∧z9 x.2.1=0∧0≤x.2.2∧x.2.2≤1000) (f:=fun x:List Op × List Op × Int=>(z22 x.1 x.2.1 x.2.2).1) (l,k,h) ⟨hl,hk,h0⟩
attribute [local irreducible] z2y z22
theorem z0n4:Meets Tryz.prog zah 108 ⟨[.one,.one,.one],[(false,[.scal])],true⟩:=by
 refine zf (sp:=(zy [(43,zct)])) (sigs:=z05) (cut:=[]) (hints:=[]) (fn:=Tryz.f108) (t:=zk0) (by kernel_rfl) (by kernel_rfl) (by kernel_rfl) ?_ ?_
 ·exact (zr (L:=[(43,zct)]) ⟨z7 rfl z0n3,trivial⟩)
 ·rintro ds rs - h
  obtain ⟨⟨l,k,ht⟩,⟨hl,hk,h0,h1⟩,rfl,rfl⟩:=zg h;clear h;simp only at hl hk h0 h1;refine ⟨⟨1,?_⟩,z04 rfl⟩
  show den _ _ zk0 [.l 2 (l.map eOp),.l 2 (k.map eOp),I ht] []=ret (z22 l k ht).1
  rw [z0hf hl hk h0 h1];have a1:=zi4 k [] ht hk zbf;have hsk:∀ s,z2y ht [] k=some s→z1k s:=fun s h=>zm8 zbf h
  unfold zk0;generalize z2y ht [] k=r at *
  cases r with
  | none =>
   simp only [zfe,zY0b,zpg] at a1 ⊢
   repeat' (first|refine dqK rfl (a1) ?_|exact z5 rfl rfl|refine z0l rfl ?_|fail)
  | some s =>
   have hs:=hsk s rfl;have a2:=zi4 l s ht hl hs;simp only [zY06];generalize z2y ht s l=q at *;rcases q with _|⟨_|⟨x,_|⟨y,t⟩⟩⟩
   all_goals
    simp only [zfe,zpg] at a1 a2 ⊢
    try have hl0:¬ (((([]:List Int).length:Nat):Int)=1):=by simp
    try have hl1:((([x]:List Int).length:Nat):Int)=1:=rfl
    try have hl2:¬ ((((x::y::t).length:Nat):Int)=1):=by simp only [zY0a];omega
    try have hx0:([x]:List Int)[(0:Int).toNat]? = some x:=rfl
    repeat' (first|refine dq1 ?_|refine dqc ?_|refine dqK rfl (a1) ?_|refine dqK rfl (a2) ?_|exact z5 rfl rfl|refine dqT ?_|refine dqF ?_|refine z0a rfl ?_|refine z0l rfl ?_|fail)
end
end Go.Proofs.YtaddehddalnliaaGreatDoor
