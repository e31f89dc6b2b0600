/- Own texts, put together by wip/bundle.py: VQ5, VQ6, VQ7, VQ8, VQ9, VQ10, VUB, VUD, VUE, VE2, VL5, VL5a, VL5b, VL5c, VL6, VUC, VE3, VC7, VW24. -/
import Derived.Deep.DeepCutAuto
import Derived.Deep.Light
import Derived.Sort.AssemblyPlain
import Derived.Shelf.SlSortFuncK.BreakPatternsK
import Derived.Shelf.GgSortFunc.SmallK
import Derived.Shelf.GgSortFunc.Slice
import Derived.Shelf.GgSortFunc.Tiny
import Derived.Test.YtaddehddalnliaaGreatDoorShelf4
import Derived.Test.YtaddehddalnliaaGreatDoorBCOwnB
import Derived.Test.YtaddehddalnliaaGreatDoorBCOwnC
import Derived.Test.YtaddehddalnliaaGreatDoorBCOwnR
import Derived.Test.YtaddehddalnliaaGreatDoorBCOwnS
import Derived.Test.YtaddehddalnliaaGreatDoorBCOwnV2
import Derived.Test.YtaddehddalnliaaGreatDoorBCOwnZ2
import Derived.Test.YtaddehddalnliaaGreatDoorBCOwnZ3
set_option linter.unusedVariables false
set_option linter.unusedSimpArgs false
namespace Go.Proofs.YtaddehddalnliaaGreatDoor
section
open Go.RowKit
set_option maxRecDepth 100000
set_option maxHeartbeats 8000000
attribute [local irreducible] z00 spD z1h z8z z19
theorem z4o {sp:Nat→zd} {E:Env} {vs l:Nat} {a ka:Atom} {ats:List Atom} {rows r:List (List Dt)} {n:Int} {ds:List Dt} (ha:a.val E=some (.l l rows)) (hk:ka.val E=some (I n)) (hv:vals E ats=some ds) (h:ds.length=vs∧l=1+vs) (hr:zb7 n ds rows=r):denX sp E (.mput vs a ka ats)=some (.l (1+vs) r):=by
 simp only [denX,ha,hk,asI,hv];rw [if_pos h,hr]
attribute [local irreducible] den denX z0i z0q
attribute [local irreducible] z60
theorem z0gy:Meets Tryz.prog zbq 134 ⟨[.one,.one,.one],[(false,[.fresh 3 1]),(false,[.scal])],false⟩:=by
 refine zai (sp:=(z0g [(42,z60)])) (sigs:=z0p) (cut:=[65]) (hints:=[⟨5,[.r 6 3 1,.t 7,.r 1 3 1,.t 26,.z 21]⟩,⟨49,[.r 6 3 1,.t 7,.r 1 3 1,.t 147,.z 65,.z 34,.z 40,.z 41,.z 44,.z 48,.z 49,.z 52,.z 54,.z 55,.z 58,.z 60,.z 61]⟩,⟨44,[.t 16,.t 135]⟩]) (fns:=[zau 154 Tryz.f154 [] []]) (dep:=2) (pool:=300) (fn:=Tryz.f134) (t:=z0a) (by kernel_rfl) (by kernel_rfl) (by kernel_rfl) ?_ ?_ ?_
 ·exact (z3b (fn:=Tryz.f154) (by kernel_rfl) (by kernel_rfl) (by kernel_rfl) (by kernel_rfl) (by kernel_rfl) zcb)
 ·exact (z05 (L:=[(42,z60)]) ⟨ze rfl z0me,trivial⟩)
 ·rintro ds rs - h
  obtain ⟨⟨l,s0,ht⟩,⟨hc0,hs0⟩,rfl,rfl⟩:=zp h;clear h;simp only at hc0 hs0;refine ⟨⟨l.length+6,?_⟩,?_⟩
  ·show den _ _ z0a [.l 2 (l.map eOp),.l 1 (s0.map z0r),I ht] []=ret (ze5 (z2p ht s0 l))
   obtain ⟨hl16,hall⟩:=z0ot hc0;have hs0l:=hs0.1;unfold z0a;refine z5 (z24 (r:=[]) rfl rfl (by simp)) ?_;refine z5 (zh4 (l:=([]:List Int)) (l':=s0) (f:=z0r) rfl rfl (by simp;omega)) ?_;refine z5 (d:=.l 2 [[I 2,I 1]]) (z4o rfl rfl rfl ⟨rfl,rfl⟩ rfl) ?_;refine z5 (d:=.l 2 [[I 2,I 1],[I 3,I 2]]) (z4o rfl rfl rfl ⟨rfl,rfl⟩ rfl) ?_;refine z5 (d:=.l 2 [[I 2,I 1],[I 3,I 2],[I 4,I 1]]) (z4o rfl rfl rfl ⟨rfl,rfl⟩ rfl) ?_;refine z5 (d:=.l 2 [[I 2,I 1],[I 3,I 2],[I 4,I 1],[I 5,I 2]]) (z4o rfl rfl rfl ⟨rfl,rfl⟩ rfl) ?_;refine z5 (d:=.l 2 [[I 2,I 1],[I 3,I 2],[I 4,I 1],[I 5,I 2],[I 6,I 2]]) (z4o rfl rfl rfl ⟨rfl,rfl⟩ rfl) ?_;refine z5 (d:=.l 2 [[I 2,I 1],[I 3,I 2],[I 4,I 1],[I 5,I 2],[I 6,I 2],[I 7,I 2]]) (z4o rfl rfl rfl ⟨rfl,rfl⟩ rfl) ?_;refine z5 (d:=.l 2 [[I 2,I 1],[I 3,I 2],[I 4,I 1],[I 5,I 2],[I 6,I 2],[I 7,I 2],[I 8,I 2]]) (z4o rfl rfl rfl ⟨rfl,rfl⟩ rfl) ?_;refine z5 (d:=.l 2 [[I 2,I 1],[I 3,I 2],[I 4,I 1],[I 5,I 2],[I 6,I 2],[I 7,I 2],[I 8,I 2],[I 9,I 1]]) (z4o rfl rfl rfl ⟨rfl,rfl⟩ rfl) ?_;refine z5 (d:=.l 2 [[I 2,I 1],[I 3,I 2],[I 4,I 1],[I 5,I 2],[I 6,I 2],[I 7,I 2],[I 8,I 2],[I 9,I 1],[I 10,I 2]]) (z4o rfl rfl rfl ⟨rfl,rfl⟩ rfl) ?_;refine z5 (d:=.l 2 [[I 2,I 1],[I 3,I 2],[I 4,I 1],[I 5,I 2],[I 6,I 2],[I 7,I 2],[I 8,I 2],[I 9,I 1],[I 10,I 2],[I 11,I 1]]) (z4o rfl rfl rfl ⟨rfl,rfl⟩ rfl) ?_;refine z5 (d:=.l 2 [[I 2,I 1],[I 3,I 2],[I 4,I 1],[I 5,I 2],[I 6,I 2],[I 7,I 2],[I 8,I 2],[I 9,I 1],[I 10,I 2],[I 11,I 1],[I 13,I 1]]) (z4o rfl rfl rfl ⟨rfl,rfl⟩ rfl) ?_
   repeat' (first|refine dq1 ?_|fail)
   (refine zr (fun (s:List Int) k=>[.l 1 (([]:List Int).map z0r),.b false,.l 1 (s.map z0r),I k]) (fun (s:List Int) _ (r:List Op)=>ze5 (z2p ht s r)) (fun s _=>z1k s) s0 l ?_ ?_ ?_ ?_ ?_;rfl;exact hs0;omega)
   ·rintro s k ⟨kd,nn⟩ r hx hd hk hs again' hag
    have hob:=z0gx (hall _ (zY0a hx));simp only at hob;have hF:z2v ht s ⟨kd,nn⟩=none→ze5 (z2p ht s (⟨kd,nn⟩::r))=([],false):=fun e=>by rw [z2p,e];rfl
    have hO:∀ s',z2v ht s ⟨kd,nn⟩=some s'→again' [.l 1 (([]:List Int).map z0r),.b false,.l 1 (s'.map z0r),I ((k:Int)+1)]=ret (ze5 (z2p ht s (⟨kd,nn⟩::r))):=fun s' e=>by rw [z2p,e];exact hag s' (zfl hs e)
    have key:∀ kd,1≤kd→kd≤13→z6l kd:=fun kd h0 h1=>by
     have hk13:kd=1∨kd=2∨kd=3∨kd=4∨kd=5∨kd=6∨kd=7∨kd=8∨kd=9∨kd=10∨kd=11∨kd=12∨kd=13:=by omega
     rcases hk13 with rfl|rfl|rfl|rfl|rfl|rfl|rfl|rfl|rfl|rfl|rfl|rfl|rfl
     all_goals first|exact z0mf|exact z0mg|exact z0mh|exact z0mi|exact z0mj|exact z0mk|exact z0ml|exact z0mm|exact z0mn|exact z0jn|exact z0jo|exact z0jp|exact z0jq
    exact key kd hob.1 hob.2 l s0 s ht nn k _ again' hl16 hs.1 hs hk hx hF hO
   ·rintro s hs again'
    repeat' (first|refine dq1 ?_|exact z6 rfl rfl|refine dqF ?_|fail)
  ·intro i d hi hd
   match i,hi,hd with
   | 0,hi,_=>simp [zq] at hi
   | 1,_,hd=>simp only [Enc.e,z0r,zf6,zY1l,zY18,zY05,zY24,zY00] at hd;subst hd;rfl
   | i+2,hi,hd=>simp [zq] at hi
noncomputable def z9f:zd:=spD (fun x:List Op × List Op × Int=>za x.1=0∧za x.2.1=0∧0≤x.2.2∧x.2.2≤1000) fun x=>(z20 x.1 x.2.1 x.2.2).1
theorem zwc (l k:List Op) (h:Int) (hl:za l=0) (hk:za k=0) (h0:0≤h∧h≤1000):z9f [.l 2 (l.map eOp),.l 2 (k.map eOp),I h]=some [.b (z20 l k h).1]:=zm (p:=fun x:List Op × List Op × Int=>za x.1=0∧za x.2.1=0∧0≤x.2.2∧x.2.2≤1000) (f:=fun x:List Op × List Op × Int=>(z20 x.1 x.2.1 x.2.2).1) (l,k,h) ⟨hl,hk,h0⟩
attribute [local irreducible] z2p z20
theorem z0gz:Meets Tryz.prog z9f 108 ⟨[.one,.one,.one],[(false,[.scal])],true⟩:=by
 refine zl (sp:=(z0g [(43,zbq)])) (sigs:=z0p) (cut:=[]) (hints:=[]) (fn:=Tryz.f108) (t:=zid) (by kernel_rfl) (by kernel_rfl) (by kernel_rfl) ?_ ?_
 ·exact (z05 (L:=[(43,zbq)]) ⟨ze rfl z0gy,trivial⟩)
 ·rintro ds rs - h
  obtain ⟨⟨l,k,ht⟩,⟨hl,hk,h0,h1⟩,rfl,rfl⟩:=zp h;clear h;simp only at hl hk h0 h1;refine ⟨⟨1,?_⟩,z04 rfl⟩
  show den _ _ zid [.l 2 (l.map eOp),.l 2 (k.map eOp),I ht] []=ret (z20 l k ht).1
  rw [z0bx hl hk h0 h1];have a1:=zgh k [] ht hk zaa;have hsk:∀ s,z2p ht [] k=some s→z1k s:=fun s h=>zkm zaa h
  unfold zid;generalize z2p ht [] k=r at *
  cases r with
  | none =>
   simp only [ze5,zY0b,zng] at a1 ⊢
   repeat' (first|refine dqK rfl (a1) ?_|exact z6 rfl rfl|refine z0o rfl ?_|fail)
  | some s =>
   have hs:=hsk s rfl;have a2:=zgh l s ht hl hs;simp only [zY06];generalize z2p ht s l=q at *;rcases q with _|⟨_|⟨x,_|⟨y,t⟩⟩⟩
   all_goals
    simp only [ze5,zng] at a1 a2 ⊢
    try have hl0:¬ (((([]:List Int).length:Nat):Int)=1):=by simp
    try have hl1:((([x]:List Int).length:Nat):Int)=1:=rfl
    try have hl2:¬ ((((x::y::t).length:Nat):Int)=1):=by simp only [zY0c];omega
    try have hx0:([x]:List Int)[(0:Int).toNat]? = some x:=rfl
    repeat' (first|refine dq1 ?_|refine dqc ?_|refine dqK rfl (a1) ?_|refine dqK rfl (a2) ?_|exact z6 rfl rfl|refine dqT ?_|refine dqF ?_|refine z0j rfl ?_|refine z0o rfl ?_|fail)
end
end Go.Proofs.YtaddehddalnliaaGreatDoor
