/- Own texts, put together by wip/bundle.py: VB8, VE1, VUA, VQ1, VQ2, VQ3, VQ4, VQ5, VQ6, VQ7, VQ8, VQ9, VQ10, VUB, VUD, VUE, VE2, VL5, VL5a, VL5b, VL5c. -/
import Derived.Test.YtaddehddalnliaaGreatDoorProg
import Derived.Sort.Defs
import Derived.Deep.DeepCutAuto
import Derived.Deep.Light
import Derived.Sort.AssemblyPlain
import Derived.Shelf.SlSortFuncK.BreakPatternsK
import Derived.Shelf.GgSortFunc.SmallK
import Derived.Shelf.GgSortFunc.Slice
import Derived.Shelf.GgSortFunc.Tiny
import Derived.Test.YtaddehddalnliaaGreatDoorShelf4
import Derived.Test.YtaddehddalnliaaGreatDoorCCOwnB
import Derived.Test.YtaddehddalnliaaGreatDoorCCOwnC
import Derived.Test.YtaddehddalnliaaGreatDoorCCOwnR
import Derived.Test.YtaddehddalnliaaGreatDoorCCOwnS
import Derived.Test.YtaddehddalnliaaGreatDoorCCOwnT
import Derived.Test.YtaddehddalnliaaGreatDoorCCOwnV2
import Derived.Test.YtaddehddalnliaaGreatDoorCCOwnZ2
set_option linter.unusedVariables false
set_option linter.unusedSimpArgs false
namespace Go.Proofs.YtaddehddalnliaaGreatDoor
section
open Go.RowKit
open Go.Lib (itoa)
set_option maxRecDepth 100000
set_option maxHeartbeats 4000000
noncomputable def z45:za:=spD (fun _:Block=>True) fun b=>zb b
theorem zet (b:Block):z45 [I b.parent,I b.height,I b.work,I b.nonce,.l 3 (b.txs.map eTx)]=some [I (zb b)]:=ze (f:=fun b:Block=>zb b) b trivial
def zy2:T :=
 .ite 32 (.ite 28 (.ret [zI 4]) (.W [.B .add 20 (zI 1)] [] (.again 0 [19,33]))) (.W [.B .add 20 (zI 1)] [] (.again
 0 [19,33]))
def zy3:T :=
 .ite 30 (.ret [zI 4]) (.W [.B .neq 22 1] [] (.ite 31 (.ret [zI 4]) (.W [.B .gtr 20 (zI 0)] [] zy2)))
def zy4:T :=
 .ite 30 (.ite 28 (.ret [zI 4]) (.W [.B .add 20 (zI 1)] [] (.again 0 [19,31]))) (.W [.B .add 20 (zI 1)] [] (.again
 0 [19,31]))
def zy5:T :=
 .W [.B .eql 20 (zI 0)] [] (.ite 29 (.W [.not 28] [] zy3) (.W [.B .gtr 20 (zI 0)] [] zy4))
def zy6:T :=
 .W [.B .neq 25 (zI 0)] [] (.ite 26 (.ret [25]) (.W [.len 23] [] (.W [.B .eql 27 (zI 0)] [] zy5)))
def zy7:T :=
 .W [] [.inr 3 4 20] (.W [.idx 4 20 0,.idx 4 20 1,.idx 4 20 2] [] (.W [.call 53 [22,23,24] 0] [] zy6))
def zy8:T :=
 .ite 17 (.ret [zI 4]) (.W [.len 4] [] (.loop [zI 0,zI 0] (.W [.B .lss 20 18] [] (.ite 21 zy7 (.ret [.c (.i
 .i64 0)])))))
def zy9:T :=
 .W [.B .gtr 14 (zI 4)] [] (.ite 15 (.ret [zI 2]) (.W [.len 4] [] (.W [.B .eql 16 (zI 0)] [] zy8)))
def zya:T :=
 .ite 11 (.W [.B .leq 3 (zI 1000000000)] [] (.W [.not 12] [] (.ite 13 (.ret [zI 3]) (.W [.len 4] [] zy9)))) (.ret
 [zI 3])
def zyb:T :=
 .ite 9 (.ret [zI 3]) (.W [.B .gtr 2 (zI 1000)] [] (.ite 10 (.ret [zI 3]) (.W [.B .geq 3 (zI 0)] []
 zya)))
def zsp:T :=
 .ite 7 (.ret [zI 3]) (.W [.B .gtr 1 (zI 1000)] [] (.ite 8 (.ret [zI 3]) (.W [.B .lss 2 (zI 1)] []
 zyb)))
def zsq:T :=
 .ite 5 (.ret [zI 3]) (.W [.B .gtr 0 (zI 120)] [] (.ite 6 (.ret [zI 3]) (.W [.B .lss 1 (zI 1)] []
 zsp)))
def zfb:T :=
 .W [.B .lss 0 (zI 0)] [] zsq
theorem zlb:Meets Tryz.prog z45 26 ⟨[.agg 5],[(false,[.scal])],true⟩:=by
 refine z6i (sp:=(zy [(53,zbh)])) (sigs:=z05) (cut:=[]) (hints:=[⟨8,[.t 2,.t 52]⟩]) (fns:=[z8x 76 Tryz.f76 [] []]) (dep:=1) (pool:=100) (fn:=Tryz.f26) (t:=zfb) (by kernel_rfl) (by kernel_rfl) (by kernel_rfl) ?_ ?_ ?_
 ·exact (z2h (fn:=Tryz.f76) (by kernel_rfl) (by kernel_rfl) (by kernel_rfl) (by kernel_rfl) (by kernel_rfl) z7k)
 ·exact (zr (L:=[(53,zbh)]) ⟨z7 rfl z0il,trivial⟩)
 ·rintro ds rs - h
  obtain ⟨⟨bp,bh,bw,bn,txs⟩,-,rfl,rfl⟩:=zg h;clear h;refine ⟨⟨20,?_⟩,z04 rfl⟩
  show den _ _ zfb [I bp,I bh,I bw,I bn,.l 3 (txs.map eTx)] []=ret (zb ⟨bp,bh,bw,bn,txs⟩)
  unfold zfb
  by_cases hr:z2q ⟨bp,bh,bw,bn,txs⟩
  ·have e:zb ⟨bp,bh,bw,bn,txs⟩=3:=by unfold zb z5h;rw [if_pos hr];rfl
   rw [e];clear e;unfold z2q at hr;simp only at hr
   repeat' (first|refine dq1 ?_|exact z5 rfl rfl|refine zau ?_|refine tZ (fun h=>?_) fun h=>?_|fail)
   all_goals (exfalso;omega)
  ·have e:zb ⟨bp,bh,bw,bn,txs⟩=if 4<txs.length then 2 else if txs.length=0 then 4 else z6n bh txs 0:=by
    unfold zb z5h;rw [if_neg hr];simp only
    split
    ·rfl
    split
    ·rfl
    ·rfl
   rw [e];clear e;unfold z2q at hr;simp only at hr
   by_cases h4:4<txs.length
   ·rw [if_pos h4]
    repeat' (first|refine dq1 ?_|exact z5 rfl rfl|refine dqT ?_|refine dqF ?_|refine z64 ?_|fail)
   rw [if_neg h4]
   by_cases h0:txs.length=0
   ·rw [if_pos h0]
    repeat' (first|refine dq1 ?_|exact z5 rfl rfl|refine dqT ?_|refine dqF ?_|refine z64 ?_|fail)
   rw [if_neg h0]
   repeat' (first|refine dq1 ?_|refine dqT ?_|refine dqF ?_|refine z64 ?_|fail)
   (refine zn (fun (_:Unit) k=>[I 0,I k]) (fun (_:Unit) k (r:List Tx)=>z6n bh r k) (fun _ _=>True) () txs ?_ ?_ ?_ ?_ ?_;rfl;exact trivial;omega)
   ·rintro _ k x r hx hd hk - again hag
    have b1:=zso x;have hag:=hag () trivial;rw [z6n]
    by_cases hc:zm x=0
    rotate_left
    ·rw [if_pos hc]
     generalize zm x=e at *
     repeat' (first|refine dq1 ?_|refine dqc ?_|refine dqm ?_|refine dqk rfl (b1) ?_|exact z5 rfl rfl|refine dqT ?_|fail)
    rw [if_neg (fun z=>z hc)];rw [hc] at b1
    by_cases ho:z9w bh x k
    ·rw [if_pos ho]
     unfold z9w at ho
     repeat' (first|refine dq1 ?_|refine dqc ?_|refine dqm ?_|refine dqk rfl (b1) ?_|exact z5 rfl rfl|refine dqT ?_|refine dqF ?_|refine tZ (fun h=>?_) fun h=>?_|refine tZn (fun h=>?_) fun h=>?_|fail)
     all_goals (exfalso;omega)
    ·rw [if_neg ho]
     unfold z9w at ho
     repeat' (first|refine dq1 ?_|refine dqc ?_|refine dqm ?_|refine dqk rfl (b1) ?_|exact z6 rfl rfl hag|refine dqT ?_|refine dqF ?_|refine z64 ?_|refine tZ (fun h=>?_) fun h=>?_|fail)
     all_goals (exfalso;omega)
   ·rintro _ - again
    rw [z6n]
    repeat' (first|refine dq1 ?_|exact z5 rfl rfl|refine dqF ?_|fail)
attribute [local irreducible] z01 spD itoa zm zb z0l8 z0m z05q z7b
attribute [local irreducible] den denX z0g z0o
theorem z082 (b:Block):z54 b=tBlk++[b.parent,b.height,b.work,b.nonce].flatMap (fun n=>32::itoa n)++[10]:=by simp [z54,tBlk]
noncomputable def z8m:za:=spD (fun b:Block=>zb b=0) fun b=>z1e b
theorem zsr (b:Block) (h:zb b=0):z8m [I b.parent,I b.height,I b.work,I b.nonce,.l 3 (b.txs.map eTx)]=some [.s (z1e b)]:=ze (p:=fun b:Block=>zb b=0) (f:=fun b:Block=>z1e b) b h
def z083:T :=
 .W [.call 38 [10] 0] [] (.W [.B .add (.c (.s [32])) 11] [] (.W [.B .add 7 12] [] (.W [.B .add 8 (zI 1)] [] (.again 0 [13,.v
 14]))))
def z084:T :=
 .W [.idx 4 13 0,.idx 4 13 1,.idx 4 13 2] [] (.W [.call 71 [15,16,17] 0] [] (.W [.B .add 12 18] [] (.W [.B .add
 13 (zI 1)] [] (.again 1 [19,20]))))
def z085:T :=
 .W [.len 4] [] (.loop [10,zI 0] (.W [.B .lss 13 11] [] (.ite 14 (.W [] [.inr 3 4 13] z084) (.ret [12]))))
def z086:T :=
 .W [.B .lss 8 6] [] (.ite 9 (.W [] [.inr 1 5 8] (.W [.idx 5 8 0] [] z083)) (.W [.B .add 7 (.c (.s [10]))] []
 z085))
def zhc:T :=
 .W [.mk 1 [[0],[1],[2],[3]]] [] (.W [.len 5] [] (.loop [.c (.s [98,108,111,99,107]),zI 0] z086))
attribute [local irreducible] z4x z5w
theorem z0in:Meets Tryz.prog z8m 77 ⟨[.agg 5],[(false,[.scal])],true⟩:=by
 refine zf (sp:=(zy [(38,z4x),(71,z5w)])) (sigs:=z05) (cut:=[]) (hints:=[⟨3,[.t 3,.t 18]⟩,⟨9,[.t 3,.t 33]⟩]) (fn:=Tryz.f77) (t:=zhc) (by kernel_rfl) (by kernel_rfl) (by kernel_rfl) ?_ ?_
 ·exact (zr (L:=[(38,z4x),(71,z5w)]) ⟨z7 rfl zp8,z7 rfl zv6,trivial⟩)
 ·rintro ds rs - h
  obtain ⟨b,hb,rfl,rfl⟩:=zg h;clear h;refine ⟨⟨20,?_⟩,z04 rfl⟩
  show den _ _ zhc [I b.parent,I b.height,I b.work,I b.nonce,.l 3 (b.txs.map eTx)] []=ret (z54 b++b.txs.flatMap z0m)
  have ok:=z1p hb;have hn:=ok.len;have hr:=ok.range;unfold z2q at hr;have htb:tBlk.length=5:=rfl;rw [z082];unfold zhc
  repeat' (first|refine z4 (z1m rfl rfl (by simp)) ?_|fail)
  change den _ _ _ [I b.parent,I b.height,I b.work,I b.nonce,.l 3 (b.txs.map eTx),.l 1 (([b.parent,b.height,b.work,b.nonce]:List Int).map zk)] []=_
  repeat' (first|refine dq1 ?_|fail)
  (refine zn (fun (a:List UInt8) k=>[.s a,I k]) (fun (a:List UInt8) _ (r:List Int)=>a++r.flatMap (fun n=>32::itoa n)++[10]++b.txs.flatMap z0m) (fun a k=>a.length≤5+30 * k) tBlk [b.parent,b.height,b.work,b.nonce] ?_ ?_ ?_ ?_ ?_;rfl;exact (by omega);simp)
  ·rintro a k x r hx hd hk ha again hag
   have hxm:x ∈ [b.parent,b.height,b.work,b.nonce]:=zY07 hx;have hxb:0≤x∧x≤1000000000:=by
    simp only [zY0g,zY1g,or_false] at hxm;omega
   have l1:=z4z (n:=x) (by omega) (by omega);have hk4:k<4:=hk;have e:a++(x::r).flatMap (fun n=>32::itoa n)++[10]++b.txs.flatMap z0m=(a++32::itoa x)++r.flatMap (fun n=>32::itoa n)++[10]++b.txs.flatMap z0m:=by simp
   rw [e];have hag':=hag (a++32::itoa x) (by simp only [zY04,zY0a,zY0q];omega);clear hag e
   repeat' (first|refine dq1 ?_|refine dqc ?_|refine dqk rfl (z6p _) ?_|refine z4 (z7u rfl rfl (by simp only [zY04,zY0a,zY0q];omega)) ?_|refine dqT ?_|fail)
   exact z6 rfl rfl hag'
  ·rintro a ha again
   simp only [zY2o,zY1e];have ha4:a.length≤200:=by simp only [zY0a,zY0q] at ha;omega
   repeat' (first|refine dq1 ?_|refine z4 (z7u rfl rfl (by simp only [zY04,zY0a,zY0q];omega)) ?_|refine dqF ?_|fail)
   (refine zn (fun (c:List UInt8) k=>[.s c,I k]) (fun (c:List UInt8) _ (r:List Tx)=>c++r.flatMap z0m) (fun c k=>c.length≤300+3000 * k) (a++[10]) b.txs ?_ ?_ ?_ ?_ ?_;rfl;exact (by simp only [zY04,zY0a,zY0q];omega);omega)
   ·rintro c k x r hx hd hk hc again' hag
    have hxc:=ok.each x (zY07 hx);have a3:=zi1 x hxc;have tl:=ziy hxc;have e:c++(x::r).flatMap z0m=(c++z0m x)++r.flatMap z0m:=by simp
    rw [e];have hag':=hag (c++z0m x) (by rw [zY04];omega);clear hag e
    repeat' (first|refine dq1 ?_|refine dqc ?_|refine dqm ?_|refine dqk rfl (a3) ?_|refine z4 (z7u rfl rfl (by omega)) ?_|refine dqT ?_|fail)
    exact z6 rfl rfl hag'
   ·rintro c hc again'
    simp only [zY2o,zY1e]
    repeat' (first|refine dq1 ?_|exact z5 rfl rfl|refine dqF ?_|fail)
end
section
open Go.RowKit
open Go.Lib (itoa)
set_option maxRecDepth 100000
set_option maxHeartbeats 4000000
theorem z0mg (l:List (List UInt8)) (s:List UInt8):(z8z l s,z90 l s,z91 l s)=if 4000<s.length then ([],0,2) else (z68 l s,z7c l s,z5o l s):=by
 unfold z8z z90 z91
 by_cases h:4000<s.length
 ·rw [if_pos h,if_pos h,if_pos h,if_pos h]
 ·rw [if_neg h,if_neg h,if_neg h,if_neg h]
def namD (l:List (List UInt8)) (s:List UInt8) (j:Int):List (List UInt8) × Int × Int:=if 0≤j then (l,j+1,0) else if l.length=120 then ([],0,12) else (l++[s],(l.length:Int)+1,0)
theorem zlc:∀ (l a b:List (List UInt8)),(∀ x,x ∈ a↔x ∈ b)→z41 l a=z41 l b
 | [],_,_,_=>rfl
 | s::l,a,b,h=>by
  rw [z41,z41];have e:(s ∈ a)=(s ∈ b):=propext (h s);simp only [e];rw [zlc l (s::a) (s::b) fun x=>by rw [zY0g,zY0g,h x]]
noncomputable def z7v:za:=spD (fun l:List (List (List UInt8))=>total l≤1000000) fun l=>l.flatten
theorem zqg (a b:List (List UInt8)) (h:a.length+b.length≤1000000):z7v [.l 1 [[.l 1 (a.map z0c)],[.l 1 (b.map z0c)]]]=some [.l 1 ((a++b).map z0c)]:=by
 have h1:=ze (p:=fun l:List (List (List UInt8))=>total l≤1000000) (f:=fun l:List (List (List UInt8))=>l.flatten) [a,b] (by simpa [total] using h);have h2:[a,b].flatten=a++b:=by simp
 simp only [h2] at h1;exact h1
theorem z0er:Meets Tryz.prog z7v 103 ⟨[.one],[(false,[.fresh 9 1])],false⟩ :=
 z39 (e:=fun x:{ l:List (List (List UInt8)) // total l≤1000000 }=>Enc.e x.1) (xs:=fun x=>x.1.flatten) zcz rfl rfl (by decide) (z1x (fn:=Tryz.f103) (by kernel_rfl) (by kernel_rfl) (by kernel_rfl)) fun x W F us hF h=>by
  obtain ⟨v,us,rfl,h1,h⟩:=z1a h;obtain rfl:=z1s h;obtain ⟨A,n,c,rfl,k1⟩:=z2r (z4s zcz rfl) h1;exact (z0hu x.1 A n c W F k1 hF x.2).mono fun r W' h=>⟨_,h⟩
section
attribute [local irreducible] z01 spD z68 z7c z5o idx
attribute [local irreducible] den denX z0g z0o
noncomputable def z6x:za:=spD (fun _:Book=>True) fun k=>zj k
theorem zml (k:Book):z6x [.l 1 (k.texts.map z0c)]=some [I (zj k)]:=ze (f:=fun k:Book=>zj k) k trivial
def zss:T :=
 .W [.call 47 [0,7] 0] [] (.W [.B .lss 10 5] [] (.ite 11 (.ret [zI 6]) (.W [.B .add 5 (zI 1)] [] (.again 0 [4,.v
 12]))))
def zst:T :=
 .W [] [.inr 1 0 5] (.W [.idx 0 5 0] [] (.W [.slen 7] [] (.W [.B .gtr 8 (zI 4000)] [] (.ite 9 (.ret [zI 2])
 zss))))
def zsu:T :=
 .ite 2 (.ret [zI 2]) (.W [.len 0] [] (.loop [zI 0,zI 0] (.W [.B .lss 5 3] [] (.ite 6 zst (.ret [.c (.i
 .i64 0)])))))
def zds:T :=
 .W [.len 0] [] (.W [.B .gtr 1 (zI 120)] [] zsu)
attribute [local irreducible] z6k
theorem z087:Meets Tryz.prog z6x 19 ⟨[.agg 1],[(false,[.scal])],true⟩:=by
 refine zf (sp:=(zy [(47,z6k)])) (sigs:=z05) (cut:=[]) (hints:=[⟨4,[.t 2,.t 12]⟩]) (fn:=Tryz.f19) (t:=zds) (by kernel_rfl) (by kernel_rfl) (by kernel_rfl) ?_ ?_
 ·exact (zr (L:=[(47,z6k)]) ⟨z7 rfl z05o,trivial⟩)
 ·rintro ds rs - h
  obtain ⟨⟨l⟩,-,rfl,rfl⟩:=zg h;clear h;refine ⟨⟨130,?_⟩,z04 rfl⟩
  show den _ _ zds [.l 1 (l.map z0c)] []=ret (zj ⟨l⟩)
  unfold zds zj;simp only
  by_cases h1:120<l.length
  ·rw [if_pos h1]
   repeat' (first|refine dq1 ?_|exact z5 rfl rfl|refine dqT ?_|fail)
  rw [if_neg h1]
  repeat' (first|refine dq1 ?_|refine dqF ?_|fail)
  (refine zn (fun (_:Unit) k=>[I 0,I k]) (fun (_:Unit) k (r:List (List UInt8))=>z41 r (l.take k)) (fun _ _=>True) () l ?_ ?_ ?_ ?_ ?_;rfl;exact trivial;omega)
  ·rintro _ k s r hx hd hk - again hag
   have hag:=hag () trivial;have a1:=zj6 l s;have hm:idx l s<k↔s ∈ l.take k:=by
    have h:=z0oy s l k 0 hk hx
    with_unfolding_all simpa [idx] using h
   have e:z41 r (s::l.take k)=z41 r (l.take (k+1)):=zlc _ _ _ fun x=>by
    rw [List.take_succ_eq_append_getElem hk,(zY02.1 hx).2,zY0g,zY12,zY13];exact Or.comm
   rw [z41,e];generalize idx l s=j at *
   by_cases h2:4000<s.length
   ·rw [if_pos h2]
    repeat' (first|refine dq1 ?_|refine dqc ?_|exact z5 rfl rfl|refine dqT ?_|fail)
   rw [if_neg h2]
   by_cases h3:j<(k:Int)
   ·rw [if_pos (hm.1 h3)]
    repeat' (first|refine dq1 ?_|refine dqc ?_|refine dqk rfl (a1) ?_|exact z5 rfl rfl|refine dqT ?_|refine dqF ?_|fail)
   ·rw [if_neg fun z=>h3 (hm.2 z)]
    repeat' (first|refine dq1 ?_|refine dqc ?_|refine dqk rfl (a1) ?_|exact z6 rfl rfl hag|refine dqT ?_|refine dqF ?_|fail)
  ·rintro _ - again
   rw [z41]
   repeat' (first|refine dq1 ?_|exact z5 rfl rfl|refine dqF ?_|fail)
noncomputable def zeu:za:=spD (fun x:List (List UInt8) × List UInt8=>x.1.length≤120) fun x=>(z8z x.1 x.2,z90 x.1 x.2,z91 x.1 x.2)
theorem z088 (l:List (List UInt8)) (s:List UInt8) (h:l.length≤120):zeu [.l 1 (l.map z0c),.s s]=some [.l 1 ((z8z l s).map z0c),I (z90 l s),I (z91 l s)]:=ze (p:=fun x:List (List UInt8) × List UInt8=>x.1.length≤120) (f:=fun x:List (List UInt8) × List UInt8=>(z8z x.1 x.2,z90 x.1 x.2,z91 x.1 x.2)) (l,s) h
def z0ip:T :=
 .ite 11 (.W [.B .add 8 (zI 1)] [] (.ret [0,12,zI 0])) (.W [.B .add 8 (zI 1)] [] (.again 0 [5,6,7,12]))
def z0iq:T :=
 .W [.mk 1 [[0],[12]]] [] (.W [.call 136 [13] 0] [] (.W [.len 0] [] (.W [.B .add 15 (zI 1)] [] (.ret [14,16,zI 0]))))
def z0ir:T :=
 .W [.len 0] [] (.W [.B .geq 10 (zI 120)] [] (.ite 11 (.ret [.c (.nil 1),zI 0,zI 12]) (.W [.mk 1 [[1]]] [] z0iq)))
def z0is:T :=
 .W [.B .lss 8 4] [] (.ite 9 (.W [] [.inr 1 0 8] (.W [.idx 0 8 0] [] (.W [.B .eql 10 1] [] z0ip))) z0ir)
def z0it:T :=
 .ite 3 (.ret [.c (.nil 1),zI 0,zI 2]) (.W [.len 0] [] (.loop [.c (.nil 1),zI 0,zI 0,zI 0] z0is))
def zmm:T :=
 .W [.slen 1] [] (.W [.B .gtr 2 (zI 4000)] [] z0it)
attribute [local irreducible] z7v
theorem z0pf:Meets Tryz.prog zeu 53 ⟨[.one,.one],[(false,[.pure]),(false,[.scal]),(false,[.scal])],false⟩:=by
 refine zf (sp:=(zy [(136,z7v)])) (sigs:=z05) (cut:=[]) (hints:=[⟨4,[.r 4 9 1,.t 5,.t 6,.t 14]⟩]) (fn:=Tryz.f53) (t:=zmm) (by kernel_rfl) (by kernel_rfl) (by kernel_rfl) ?_ ?_
 ·exact (zr (L:=[(136,z7v)]) ⟨z7 rfl z0er,trivial⟩)
 ·rintro ds rs - h
  obtain ⟨⟨l,s⟩,hl,rfl,rfl⟩:=zg h;clear h;simp only at hl;refine ⟨⟨130,?_⟩,z1d ⟨rfl,rfl,trivial⟩⟩
  show den _ _ zmm [.l 1 (l.map z0c),.s s] []=ret (z8z l s,z90 l s,z91 l s)
  rw [z0mg,z0lr];unfold zmm
  by_cases h1:4000<s.length
  ·rw [if_pos h1]
   repeat' (first|refine dq1 ?_|exact z5 rfl rfl|refine dqT ?_|fail)
  rw [if_neg h1];have e:(if 0≤idx l s then (l,idx l s+1,0) else if l.length=120 then ([],0,12) else (l++[s],(l.length:Int)+1,0))=namD l s (z13 s l 0):=by with_unfolding_all rfl
  rw [e];clear e
  repeat' (first|refine dq1 ?_|refine dqF ?_|fail)
  (refine zn (fun (_:Unit) k=>[.l 1 [],I 0,I 0,I k]) (fun (_:Unit) k (r:List (List UInt8))=>namD l s (z13 s r k)) (fun _ _=>True) () l ?_ ?_ ?_ ?_ ?_;rfl;exact trivial;omega)
  ·rintro _ k x r hx hd hk - again hag
   have hag:=hag () trivial;rw [z13]
   by_cases h2:s=x
   ·subst h2
    rw [if_pos rfl];unfold namD;rw [if_pos (show 0≤(k:Int) by omega)]
    repeat' (first|refine dq1 ?_|refine dqc ?_|exact z5 rfl rfl|refine dqT ?_|refine z0a rfl ?_|fail)
   ·rw [if_neg h2]
    have h3:¬ x=s:=fun e=>h2 e.symm
    repeat' (first|refine dq1 ?_|refine dqc ?_|exact z6 rfl rfl hag|refine dqT ?_|refine dqF ?_|fail)
  ·rintro _ - again
   rw [z13];unfold namD;rw [if_neg (show ¬ (0:Int) ≤ -1 by decide)];have a1:=zqg l [s] (by simp;omega)
   by_cases h2:l.length=120
   ·rw [if_pos h2]
    repeat' (first|refine dq1 ?_|exact z5 rfl rfl|refine dqT ?_|refine dqF ?_|fail)
   ·rw [if_neg h2]
    repeat' (first|refine dq1 ?_|refine dqk rfl (a1) ?_|refine z4 (z1m (r:=([s].map z0c)) rfl rfl (by simp)) ?_|refine z4 (z1m (r:=[[.l 1 (l.map z0c)],[.l 1 ([s].map z0c)]]) rfl rfl (by simp)) ?_|exact z5 rfl rfl|refine dqF ?_|fail)
noncomputable def z7w:za:=spD (fun x:List (List UInt8) × List (List UInt8)=>x.1.length≤120∧x.2.length≤999999) fun x=>z27 x.2 x.1 []
theorem zqh (t l:List (List UInt8)) (h:t.length≤120) (hl:l.length≤999999):z7w [.l 1 (t.map z0c),.l 1 (l.map z0c)]=some [.l 1 ((z27 l t []).1.map z0c),.l 1 ((z27 l t []).2.1.map zk),I (z27 l t []).2.2]:=ze (p:=fun x:List (List UInt8) × List (List UInt8)=>x.1.length≤120∧x.2.length≤999999) (f:=fun x:List (List UInt8) × List (List UInt8)=>z27 x.2 x.1 []) (t,l) ⟨h,hl⟩
def zyc:T :=
 .ite 14 (.ret [.c (.nil 1),.c (.nil 1),13]) (.W [.mk 1 [[12]]] [] (.W [.app 1 7 15] [] (.W [.B .add 8 (zI 1)] [] (.again 0 [3,.v
 4,5,11,16,17]))))
def zyd:T :=
 .W [.idx 1 8 0] [] (.W [.call 112 [6,10] 0,.call 112 [6,10] 1,.call 112 [6,10] 2] [] (.W [.B .neq 13 (zI 0)] []
 zyc))
def zye:T :=
 .loop [.c (.nil 1),.c (.nil 1),zI 0,0,.c (.nil 1),zI 0] (.W [.B .lss 8 2] [] (.ite 9 (.W [] [.inr 1 1 8] zyd)
 (.ret [6,7,zI 0])))
def zfc:T :=
 .W [.len 1] [] zye
theorem z0es:Meets Tryz.prog z7w 78 ⟨[.one,.one],[(false,[.pure]),(false,[.pure]),(false,[.scal])],false⟩:=by
 refine zf (sp:=(zy [(112,zeu)])) (sigs:=z05) (cut:=[]) (hints:=[⟨3,[.r 4 9 1,.r 5 3 1,.t 6,.t 0,.r 7 3 1,.t 15]⟩]) (fn:=Tryz.f78) (t:=zfc) (by kernel_rfl) (by kernel_rfl) (by kernel_rfl) ?_ ?_
 ·exact (zr (L:=[(112,zeu)]) ⟨z7 rfl z0pf,trivial⟩)
 ·rintro ds rs - h
  obtain ⟨⟨t,l⟩,⟨ht,hll⟩,rfl,rfl⟩:=zg h;clear h;simp only at ht hll;refine ⟨⟨l.length+1,?_⟩,z1d ⟨rfl,trivial⟩⟩
  show den _ _ zfc [.l 1 (t.map z0c),.l 1 (l.map z0c)] []=ret (z27 l t [])
  unfold zfc
  repeat' (first|refine dq1 ?_|fail)
  (refine zn (fun (a:List (List UInt8) × List Int) k=>[.l 1 [],.l 1 [],I 0,.l 1 (a.1.map z0c),.l 1 (a.2.map zk),I k]) (fun (a:List (List UInt8) × List Int) _ (r:List (List UInt8))=>z27 r a.1 a.2) (fun a k=>a.1.length≤120∧a.2.length=k) (t,[]) l ?_ ?_ ?_ ?_ ?_;rfl;exact ⟨ht,rfl⟩;omega)
  ·rintro ⟨t,o⟩ i s r hx hd hk ⟨ht,ho⟩ again hag
   simp only at ht ho;have b1:=z088 t s ht;have hnl:=zuk (t:=t) (s:=s) ht;unfold z8z z90 z91 at b1;rw [z27];simp only
   by_cases h2:4000<s.length
   ·rw [if_pos h2,if_pos h2,if_pos h2] at b1
    rw [if_pos h2]
    repeat' (first|refine dq1 ?_|refine dqc ?_|refine dqK rfl (b1) ?_|exact z5 rfl rfl|refine dqT ?_|fail)
   rw [if_neg h2,if_neg h2,if_neg h2] at b1;rw [if_neg h2];generalize z68 t s=p at *;generalize z7c t s=q at *;generalize z5o t s=e at *
   by_cases h3:e=0
   ·have hag:=hag (p,o++[q]) ⟨hnl h3,by simp;omega⟩
    rw [if_neg (fun z=>z h3)];simp only at hag
    repeat' (first|refine dq1 ?_|refine dqc ?_|refine dqK rfl (b1) ?_|exact z6 rfl rfl hag|refine dqT ?_|refine dqF ?_|fail)
   ·rw [if_pos h3]
    repeat' (first|refine dq1 ?_|refine dqc ?_|refine dqK rfl (b1) ?_|exact z5 rfl rfl|refine dqT ?_|fail)
  ·rintro ⟨t,o⟩ ⟨ht,ho⟩ again
   rw [z27];simp only
   repeat' (first|refine dq1 ?_|exact z5 rfl rfl|refine dqF ?_|fail)
end
theorem z089:(List.range 1000).all (fun k=>decide (z0i ((k:Int)+1)=zei ((k:Int)+1)))=true:=by decide +kernel
theorem z08a (n:Int) (h0:1≤n) (h1:n≤1000):zei n=z0i n:=by
 have:=zY1f.1 z089 (n - 1).toNat (by simp;omega);have e:(((n - 1).toNat:Nat):Int)=n - 1:=by omega
 rw [decide_eq_true_iff,e] at this;rw [show n - 1+1=n by omega] at this;exact this.symm
noncomputable def z7x:za:=spD (fun n:Int=>1≤n∧n≤1000) fun n=>z0i n
theorem zqi (n:Int) (h0:1≤n) (h1:n≤1000):z7x [I n]=some [I (z0i n)]:=ze (p:=fun n:Int=>1≤n∧n≤1000) (f:=fun n:Int=>z0i n) n ⟨h0,h1⟩
theorem z0et:Meets Tryz.prog z7x 69 ⟨[.one],[(false,[.scal])],true⟩ :=
 za0 rfl (z1x (fn:=Tryz.f69) (by kernel_rfl) (by kernel_rfl) (by kernel_rfl)) fun n hn W F us hF h=>by
  obtain ⟨v,us,rfl,h2,h⟩:=z1a (d:=I n) h;obtain rfl:=z1s h;obtain ⟨rfl,-⟩:=zd0 h2;obtain ⟨h0,h1⟩:=hn;refine ⟨zja (zep n),(z02n n W (by omega) h1).mono ?_⟩;rintro e w' ⟨rfl,rfl⟩;exact ⟨by rw [z08a n h0 h1],Below.refl _ _⟩
def z2b (ts:List (List UInt8)) (b:Block):List (List UInt8) × Int × List Int × Int :=
 if zb b≠0 then ([],0,[],zb b) else
 if (z27 (b.txs.map z0m++[z1e b]) ts []).2.2≠0 then ([],0,[],(z27 (b.txs.map z0m++[z1e b]) ts []).2.2) else
 ((z27 (b.txs.map z0m++[z1e b]) ts []).1,((z27 (b.txs.map z0m++[z1e b]) ts []).2.1).getD b.txs.length 0,((z27 (b.txs.map z0m++[z1e b]) ts []).2.1).take b.txs.length,0)
theorem z0iu {k:Book} {b:Block} (h:zj k=0):z2b k.texts b=z08 k b:=by
 unfold z2b z08
 by_cases hb:zb b=0
 ·have ok:=z1p hb
  have e1:zg7 b=b.txs.map z0m:=List.map_congr_left fun t ht=>by rw [zpc (ok.each t ht)]
  rw [if_neg (fun k=>k hb),z0cd hb,if_neg (show ¬ ((z1e b,(0:Int)).2≠0) from fun k=>k rfl),e1];unfold zdm z2m;rw [if_neg (show ¬ zj k≠0 from fun x=>x h),zY0y]
 ·have e:z0v b=([],zb b):=by unfold z0v;rw [if_pos hb]
  rw [if_pos hb,e,if_pos hb]
theorem z08b {ts:List (List UInt8)} {b:Block} (h:(z2b ts b).2.2.2=0):zb b=0∧(z2b ts b).2.2.1.length=b.txs.length:=by
 unfold z2b at h ⊢
 by_cases hb:zb b=0
 ·rw [if_neg (fun k=>k hb)] at h ⊢
  refine ⟨hb,?_⟩
  by_cases ha:(z27 (b.txs.map z0m++[z1e b]) ts []).2.2=0
  ·rw [if_neg (fun k=>k ha)]
   have:=zeq _ ts [] ha
   show (List.take _ _).length=_
   rw [zY0f,this];simp
  ·rw [if_pos ha] at h;exact absurd h ha
 ·rw [if_pos hb] at h;exact absurd h hb
attribute [local irreducible] z01 spD z27 z0m z1e zb zm
attribute [local irreducible] den denX z0g z0o
noncomputable def z7y:za:=spD (fun x:List (List UInt8) × Block=>x.1.length≤120) fun x=>z2b x.1 x.2
theorem zqj (ts:List (List UInt8)) (b:Block) (h:ts.length≤120):z7y [.l 1 (ts.map z0c),I b.parent,I b.height,I b.work,I b.nonce,.l 3 (b.txs.map eTx)]=some [.l 1 ((z2b ts b).1.map z0c),I (z2b ts b).2.1,.l 1 ((z2b ts b).2.2.1.map zk),I (z2b ts b).2.2.2]:=ze (p:=fun x:List (List UInt8) × Block=>x.1.length≤120) (f:=fun x:List (List UInt8) × Block=>z2b x.1 x.2) (ts,b) h
def zyf:T :=
 .W [.call 71 [12,13,14] 0] [] (.W [.mk 1 [[15]]] [] (.W [.app 1 9 16] [] (.W [.B .add 10 (zI 1)] [] (.again 0 [17,18]))))
def zyg:T :=
 .W [.len 16] [] (.W [.B .sub 22 (zI 1)] [] (.W [.sub 1 16 none (some 23)] [] (.ret [15,21,24,zI 0])))
def zyh:T :=
 .ite 18 (.ret [.c (.nil 1),zI 0,.c (.nil 1),17]) (.W [.len 16] [] (.W [.B .sub 19 (zI 1)] [] (.W [] [.inr 1 16 20]
 (.W [.idx 16 20 0] [] zyg))))
def zyi:T :=
 .W [.app 1 9 13] [] (.W [.call 113 [0,14] 0,.call 113 [0,14] 1,.call 113 [0,14] 2] [] (.W [.B .neq 17 (zI 0)] []
 zyh))
def zyj:T :=
 .ite 11 (.W [] [.inr 3 5 10] (.W [.idx 5 10 0,.idx 5 10 1,.idx 5 10 2] [] zyf)) (.W [.call 98 [1,2,3,.v
 4,5] 0] [] (.W [.mk 1 [[12]]] [] zyi))
def zyk:T :=
 .ite 7 (.ret [.c (.nil 1),zI 0,.c (.nil 1),6]) (.W [.len 5] [] (.loop [.c (.nil 1),zI 0] (.W [.B .lss 10 8] []
 zyj)))
def zfd:T :=
 .W [.call 96 [1,2,3,4,5] 0] [] (.W [.B .neq 6 (zI 0)] [] zyk)
attribute [local irreducible] z8m z45 z7w z5w
theorem z0eu:Meets Tryz.prog z7y 28 ⟨[.one,.agg 5],[(false,[.pure]),(false,[.scal]),(false,[.pure]),(false,[.scal])],false⟩:=by
 refine zf (sp:=(zy [(71,z5w),(96,z45),(98,z8m),(113,z7w)])) (sigs:=z05) (cut:=[]) (hints:=[⟨6,[.r 9 9 1,.t 21]⟩]) (fn:=Tryz.f28) (t:=zfd) (by kernel_rfl) (by kernel_rfl) (by kernel_rfl) ?_ ?_
 ·exact (zr (L:=[(71,z5w),(96,z45),(98,z8m),(113,z7w)]) ⟨z7 rfl zv6,z7 rfl zlb,z7 rfl z0in,z7 rfl z0es,trivial⟩)
 ·rintro ds rs hok h
  obtain ⟨⟨ts,b⟩,hts,rfl,rfl⟩:=zg h;clear h;simp only at hts;refine ⟨⟨100,?_⟩,z1d ⟨rfl,rfl,trivial⟩⟩
  show den _ _ zfd [.l 1 (ts.map z0c),I b.parent,I b.height,I b.work,I b.nonce,.l 3 (b.txs.map eTx)] []=ret (z2b ts b)
  have a1:=zet b;unfold zfd z2b
  by_cases hb:zb b=0
  rotate_left
  ·repeat' (first|refine dq1 ?_|refine dqk rfl (a1) ?_|exact z5 rfl rfl|refine tR (fun h=>?_) fun h=>?_|fail)
   all_goals (exfalso;omega)
  have ok:=z1p hb;have hlen:=ok.len;rw [hb] at a1;rw [if_neg (fun k=>k hb)]
  repeat' (first|refine dq1 ?_|refine dqk rfl (a1) ?_|refine dqF ?_|fail)
  (refine zn (fun (a:List (List UInt8)) k=>[.l 1 (a.map z0c),I k]) (fun (a:List (List UInt8)) _ (r:List Tx)=>if (z27 (a++r.map z0m++[z1e b]) ts []).2.2≠0 then ([],0,[],(z27 (a++r.map z0m++[z1e b]) ts []).2.2) else ((z27 (a++r.map z0m++[z1e b]) ts []).1,((z27 (a++r.map z0m++[z1e b]) ts []).2.1).getD b.txs.length 0,((z27 (a++r.map z0m++[z1e b]) ts []).2.1).take b.txs.length,(0:Int))) (fun a k=>a.length=k) [] b.txs ?_ ?_ ?_ ?_ ?_;rfl;exact rfl;omega)
  ·rintro a i x r hx hd hk ha again hag
   have a2:=zi1 x (ok.each x (zY07 hx));have e:a++((x::r).map z0m)=(a++[z0m x])++r.map z0m:=by simp
   rw [e];have hag':=hag (a++[z0m x]) (by simp;omega);generalize z0m x=z at *
   repeat' (first|refine dq1 ?_|refine dqc ?_|refine dqm ?_|refine dqk rfl (a2) ?_|refine z4 (z1m rfl rfl (by simp)) ?_|refine dqT ?_|fail)
   exact z6 rfl rfl hag'
  ·rintro a ha again
   simp only [zY2u,zY1e];have a3:=zsr b hb;have a4:=zqh ts (a++[z1e b]) hts (by simp;omega);have hl:=fun h=>zeq (a++[z1e b]) ts [] h
   generalize z1e b=s at *;generalize z27 (a++[s]) ts []=q at *;obtain ⟨tx,ns,e2⟩:=q;simp only at *
   repeat' (first|refine dq1 ?_|refine dqk rfl (a3) ?_|refine dqK rfl (a4) ?_|refine z4 (z1m rfl rfl (by simp)) ?_|exact z5 rfl rfl|refine tR (fun h=>?_) fun h=>?_|refine dqF ?_|fail)
   have hl:=hl (by omega);simp only [zY04,zY0a,zY0q] at hl;have hg:ns[((ns.length:Int) - 1).toNat]? = some (ns.getD b.txs.length 0):=by
    rw [show ((ns.length:Int) - 1).toNat=b.txs.length by omega,zY0w,zY03 (by omega)];rfl
   have hn:(ns.length:Int) - 1=b.txs.length:=by omega
   generalize ns.getD b.txs.length 0=y at *
   repeat' (first|refine dq1 ?_|refine dqc ?_|fail)
   have e:(ns.take ((ns.length:Int) - 1).toNat).drop (0:Int).toNat=ns.take b.txs.length:=by rw [show ((ns.length:Int) - 1).toNat=b.txs.length by omega];rfl
   refine z4 (zfq (l:=ns) (m:=0) (n:=(ns.length:Int) - 1) rfl rfl rfl (by omega) (by omega) (by omega)) ?_;rw [e];exact z5 rfl rfl
end
section
open Go.RowKit
set_option maxRecDepth 100000
set_option maxHeartbeats 4000000
noncomputable def z6y:za:=spD (fun l:List (List Coin)=>total l≤1000000) fun l=>l.flatten
theorem zmn (a b:List Coin) (h:a.length+b.length≤1000000):z6y [.l 1 [[.l 6 (a.map zh)],[.l 6 (b.map zh)]]]=some [.l 6 ((a++b).map zh)]:=by
 have h1:=ze (p:=fun l:List (List Coin)=>total l≤1000000) (f:=fun l:List (List Coin)=>l.flatten) [a,b] (by simpa [total] using h);have h2:[a,b].flatten=a++b:=by simp
 simp only [h2] at h1;exact h1
theorem z08c:Meets Tryz.prog z6y 109 ⟨[.one],[(false,[.fresh 101 6])],false⟩ :=
 z39 (e:=fun x:{ l:List (List Coin) // total l≤1000000 }=>Enc.e x.1) (xs:=fun x=>x.1.flatten) she_coin rfl rfl (by decide) (z1x (fn:=Tryz.f109) (by kernel_rfl) (by kernel_rfl) (by kernel_rfl)) fun x W F us hF h=>by
  obtain ⟨v,us,rfl,h1,h⟩:=z1a h;obtain rfl:=z1s h;obtain ⟨A,n,c,rfl,k1⟩:=z2r (z4s she_coin rfl) h1;exact (z0d7 x.1 A n c W F k1 hF x.2).mono fun r W' h=>⟨_,h⟩
attribute [local irreducible] z01 spD
attribute [local irreducible] den denX z0g z0o
theorem z0iv {P:Program} {spec:za} {f:Nat} {a:List PK} {r:List (Bool × List CF)} {b b':Bool} (h:Meets P spec f ⟨a,r,b⟩):Meets P spec f ⟨a,r,b'⟩:=by
 refine ⟨fun hm W F ds args rs hF ha hs=>?_,fun e sz ps he=>h.2 e sz ps he⟩;rcases h.1 hm W F ds args rs hF ha hs with ⟨h1,h2⟩|⟨v,W',h1,hb,us,F',hR⟩
 ·exact .inl ⟨h1,h2.mono fun e w' ⟨v,hv,hb,us,F',hR⟩=>⟨v,hv,hb,us,F',⟨hR.val,hR.lrs,hR.lus,hR.cells,hR.own,hR.apart,hR.dj⟩⟩⟩
 ·exact .inr ⟨v,W',h1,hb,us,F',⟨hR.val,hR.lrs,hR.lus,hR.cells,hR.own,hR.apart,hR.dj⟩⟩
def zjn (p:Point):List Coin→Nat→Int
 | [],_ => -1
 | c::r,k=>if c.p=p then k else zjn p r (k+1)
def z0q (l:List Coin) (p:Point):Int:=zjn p l 0
noncomputable def z9g:za:=spD (fun _:List Coin × Point=>True) fun x=>z0q x.1 x.2
theorem zdt (l:List Coin) (p:Point):z9g [.l 6 (l.map zh),I p.tx,I p.at_]=some [I (z0q l p)]:=ze (f:=fun x:List Coin × Point=>z0q x.1 x.2) (l,p) trivial
def z0iw:T :=
 .W [.idx 0 5 0,.idx 0 5 1,.idx 0 5 2,.idx 0 5 3,.idx 0 5 4,.idx 0 5 5] [] (.W [.eqs false [(.v 7,.v 1),(.v
 8,.v 2)]] [] (.ite 13 (.ret [5]) (.W [.B .add 5 (zI 1)] [] (.again 0 [4,14]))))
def z0ix:T :=
 .loop [zI 0,zI 0] (.W [.B .lss 5 3] [] (.ite 6 (.W [] [.inr 6 0 5] z0iw) (.ret [.c (.i .i64 (-1))])))
def zmo:T :=
 .W [.len 0] [] z0ix
theorem z0pg:Meets Tryz.prog z9g 107 ⟨[.one,.agg 2],[(false,[.scal])],true⟩:=by
 refine z6i (sp:=(zy [])) (sigs:=z05) (cut:=[]) (hints:=[]) (fns:=[z8x 132 Tryz.f132 [⟨2,[.t 4,.t 8]⟩] [],z8x 133 Tryz.f133 [] []]) (dep:=2) (pool:=200) (fn:=Tryz.f107) (t:=zmo) (by kernel_rfl) (by kernel_rfl) (by kernel_rfl) ?_ ?_ ?_
 ·exact (z2h (fn:=Tryz.f132) (by kernel_rfl) (by kernel_rfl) (by kernel_rfl) (by kernel_rfl) (by kernel_rfl) (z2h (fn:=Tryz.f133) (by kernel_rfl) (by kernel_rfl) (by kernel_rfl) (by kernel_rfl) (by kernel_rfl) z7k))
 ·exact (zr (L:=[]) trivial)
 ·rintro ds rs hok h
  obtain ⟨⟨l,p⟩,-,rfl,rfl⟩:=zg h;clear h;have hl:=ok_l (hok (.l 6 (l.map zh)) (zY0j ..));clear hok;refine ⟨⟨l.length+1,?_⟩,z04 rfl⟩
  show den _ _ zmo [.l 6 (l.map zh),I p.tx,I p.at_] []=ret (z0q l p)
  unfold zmo z0q
  repeat' (first|refine dq1 ?_|fail)
  (refine zn (fun (_:Unit) k=>[I 0,I k]) (fun (_:Unit) k (r:List Coin)=>zjn p r k) (fun _ _=>True) () l ?_ ?_ ?_ ?_ ?_;rfl;exact trivial;omega)
  ·rintro _ k c r hx hd hk - again hag
   rw [zjn];have hag:=hag () trivial
   repeat' (first|refine dq1 ?_|refine dqc ?_|refine dqm ?_|exact z6 rfl rfl hag|exact z5 rfl rfl|refine tR (fun h=>?_) fun h=>?_|refine dqT ?_|fail)
  ·rintro _ - again
   rw [zjn]
   repeat' (first|refine dq1 ?_|exact z5 rfl rfl|refine dqF ?_|fail)
end
section
open Go.RowKit Go.Sort
set_option maxRecDepth 100000
set_option maxHeartbeats 4000000
structure Fwd (B:Nat) (W W':World):Prop where
 os:W'.os=W.os
 tape:W'.tape=W.tape
 output:W'.output=W.output
 size:W.heap.size≤W'.heap.size
 same:∀ b,B≤b→b<W.heap.size→W'.heap[b]? = W.heap[b]?
theorem Fwd.refl (B:Nat) (W:World):Fwd B W W:=⟨rfl,rfl,rfl,zY0k _,fun _ _ _=>rfl⟩
theorem Fwd.trans {B:Nat} {W W' W'':World} (h:Fwd B W W') (k:Fwd B W' W''):Fwd B W W'' :=
 ⟨k.os.trans h.os,k.tape.trans h.tape,k.output.trans h.output,Nat.le_trans h.size k.size,fun b h1 h2=>(k.same b h1 (zY1t h2 h.size)).trans (h.same b h1 h2)⟩
theorem Fwd.below {B:Nat} {W W':World} (h:Below W.heap.size W W'):Fwd B W W':=⟨h.os,h.tape,h.output,h.size,fun b _ h2=>h.block b h2⟩
structure Srt {α:Type} [Inhabited α] (lt:α→α→Bool) (n B lf:Nat) (lb:Array Value) (sf:Nat) (sb:Array Value) (St:Array α→World→Prop):Prop where
 big:n<4611686018427387904
 enters:∀ args w,(callFunc lf args).run Tryz.prog w = .ok (.enter lf args) w
 size:∀ {d W},St d W→d.size=n
 base:∀ {d W},St d W→B≤W.heap.size
 keep:∀ {d W W'},St d W→Below B W W'→St d W'
 less:∀ {d W} (i j:Nat),St d W→i<n→j<n→Calls Tryz.prog lf (#[.int .i64 i,.int .i64 j]++lb) W fun e W'=>e = .returned (.bool (lt d[i]! d[j]!))∧St d W'∧Fwd B W W'
 swap:∀ {d W} (i j:Nat),St d W→i<n→j<n→∃ W',(callFunc sf (#[.int .i64 i,.int .i64 j]++sb)).run Tryz.prog W = .ok (.value (.tuple #[])) W'∧St (swp d i j) W'∧Fwd B W W'
theorem z0si {α:Type} [Inhabited α] (d:Array α) (i j:Nat):(swp d i j).size=d.size:=by simp [swp]
section
variable {α:Type} [Inhabited α] {lt:α→α→Bool} {n B lf sf:Nat} {lb sb:Array Value} {St:Array α→World→Prop}
structure On (B lf:Nat) (lb:Array Value) (sf:Nat) (sb:Array Value) (St:Array α→World→Prop) (w:World) (d:Array α) (W:World):Prop where
 st:St d W
 fwd:Fwd B w W
 bx:W.heap[w.heap.size]? = some (.cells #[.func (.func lf) #[] lb,.func (.func sf) #[] sb] 236 (0,0))
theorem zb2 (w:World) (o:Obj):(w.alloc o).heap[w.heap.size]? = some o:=Array.getElem?_push_size
theorem zb3 (w:World) (o:Obj) {b:Nat} (h:b<w.heap.size):(w.alloc o).heap[b]? = w.heap[b]?:=by
 show (w.heap.push o)[b]? = w.heap[b]?
 rw [zY3n,if_neg (by omega)]
theorem z5b (w:World) (o:Obj):(w.alloc o).heap.size=w.heap.size+1:=Array.size_push ..
omit [Inhabited α] in
theorem On.start [Inhabited α] {lt:α→α→Bool} (S:Srt lt n B lf lb sf sb St) {w:World} {d:Array α} (h:St d w):On B lf lb sf sb St w d (w.alloc (.cells #[.func (.func lf) #[] lb,.func (.func sf) #[] sb] 236)):=by
 have hb:=S.base h;refine ⟨S.keep h ((Below.refl _ _).alloc hb _),⟨rfl,rfl,rfl,by rw [z5b];omega,fun b _ hb'=>zb3 _ _ hb'⟩,zb2 _ _⟩
omit [Inhabited α] in
theorem On.is_lt {w W:World} {d:Array α} (h:On B lf lb sf sb St w d W):w.heap.size<W.heap.size:=by
 have:=h.bx;rw [zY15] at this;exact this.1
omit [Inhabited α] in
theorem On.call {w W W':World} {d d':Array α} (hw:B≤w.heap.size) (h:On B lf lb sf sb St w d W) (hs:St d' W'∧Fwd B W W'):On B lf lb sf sb St w d' W' :=
 ⟨hs.1,h.fwd.trans hs.2,(hs.2.same _ hw h.is_lt).trans h.bx⟩
omit [Inhabited α] in
theorem On.c0 {w W:World} {d:Array α} (h:On B lf lb sf sb St w d W):W.cell? ⟨w.heap.size,0,none⟩=some (.func (.func lf) #[] lb):=by
 unfold World.cell?;rw [h.bx];rfl
omit [Inhabited α] in
theorem On.c1 {w W:World} {d:Array α} (h:On B lf lb sf sb St w d W):W.cell? ⟨w.heap.size,1,none⟩=some (.func (.func sf) #[] sb):=by
 unfold World.cell?;rw [h.bx];rfl
theorem On.less {lt:α→α→Bool} (S:Srt lt n B lf lb sf sb St) {w W:World} {d:Array α} (h:On B lf lb sf sb St w d W) (hw:B≤w.heap.size) {i j:Nat} {x y:Int} {r:Bool} (hi:i<n) (hj:j<n) (hx:(i:Int)=x) (hy:(j:Int)=y) (hr:lt d[i]! d[j]! = r) :
  Calls Tryz.prog lf (#[.int .i64 x,.int .i64 y]++lb) W fun e W'=>e = .returned (.bool r)∧On B lf lb sf sb St w d W':=by
 subst hx;subst hy;subst hr;exact (S.less i j h.st hi hj).mono fun e W' ⟨he,hs⟩=>⟨he,h.call hw hs⟩
theorem On.swap {lt:α→α→Bool} (S:Srt lt n B lf lb sf sb St) {w W:World} {d:Array α} (h:On B lf lb sf sb St w d W) (hw:B≤w.heap.size) {i j:Nat} {x y:Int} (hi:i<n) (hj:j<n) (hx:(i:Int)=x) (hy:(j:Int)=y) :
  ∃ W',(callFunc sf (#[.int .i64 x,.int .i64 y]++sb)).run Tryz.prog W = .ok (.value (.tuple #[])) W'∧On B lf lb sf sb St w (swp d i j) W':=by
 subst hx;subst hy;obtain ⟨W',h1,h2⟩:=S.swap i j h.st hi hj;exact ⟨W',h1,h.call hw h2⟩
theorem z0ev (lt:α→α→Bool) (a j:Nat) (d:Array α) (h:a<j) (hl:lt d[j]! d[j - 1]! = true):insInner lt a j d=insInner lt a (j - 1) (swp d j (j - 1)):=by
 obtain ⟨k,rfl⟩:∃ k,j=k+1:=⟨j - 1,by omega⟩
 simp only [zY2z] at hl;rw [insInner,hl,if_pos (by simp;omega)];rfl
theorem zjo (lt:α→α→Bool) (a j:Nat) (d:Array α) (h:j≤a∨lt d[j]! d[j - 1]! = false):insInner lt a j d=d:=by
 cases j with
 | zero=>rfl
 | succ k =>
  rw [insInner];rcases h with h|h
  ·rw [if_neg (by simp;omega)]
  ·simp only [zY2z] at h
   rw [h,if_neg (by simp)]
theorem zld (lt:α→α→Bool) (a b i:Nat) (d:Array α) (h:i<b):insOuter lt a b i d=insOuter lt a b (i+1) (insInner lt a i d):=by rw [insOuter,if_pos h]
theorem z08d (lt:α→α→Bool) (a b i:Nat) (d:Array α) (h:¬ i<b):insOuter lt a b i d=d:=by rw [insOuter,if_neg h]
theorem z0mh {lt:α→α→Bool} (S:Srt lt n B lf lb sf sb St) {w:World} {d:Array α} (h:St d w) {a b:Nat} (hab:a≤b) (hb:b≤n) :
  Calls Tryz.prog 183 #[.agg #[.func (.func lf) #[] lb,.func (.func sf) #[] sb],.int .i64 a,.int .i64 b] w fun e w'=>e = .returned (.tuple #[])∧St (insertionSort lt d a b) w'∧Fwd B w w':=by
 have hw:=S.base h;have hO:=On.start S h;have hbig:=S.big;have eg:=S.enters;go_enter Tryz.func183,Tryz.ntmps183;go_wp2;go_loopg [6] (b+1 - a) (fun kx vi wr=>∃ (i:Nat) (dk:Array α),vi = .int .i64 i∧a<i∧i≤b+1∧b+1 - i<kx∧On B lf lb sf sb St w dk wr∧Hid (insOuter lt a b i dk=insOuter lt a b (a+1) d))
 case atStart=>exact ⟨a+1,d,by go_num,by omega,by omega,by omega,hO,rfl⟩
 case round =>
  obtain ⟨i,dk,rfl,hai,hib,hkx,hW,HO⟩:=hrel;clear hO
  by_cases hlt:i<b
  ·have hltz:(i:Int)<(b:Int):=by omega
   repeat' (first|go_step|fail)
   go_loopg [7] (i+1) (fun ky vj wr2=>∃ (j:Nat) (dj:Array α),vj = .int .i64 j∧a≤j∧j≤i∧j<ky∧On B lf lb sf sb St w dj wr2∧Hid (insInner lt a j dj=insInner lt a i dk))
   case atStart=>exact ⟨i,dk,rfl,by omega,zY0k _,by omega,hW,rfl⟩
   case round =>
    obtain ⟨j,dj,rfl,haj,hji,hky,hW2,HI⟩:=hrel;clear hW;have c0:=hW2.c0
    by_cases hja:a<j
    ·have hjz:(a:Int)<(j:Int):=by omega
     cases hl:lt dj[j]! dj[j - 1]! with
     | true =>
      have hc:=hW2.less S hw (i:=j) (j:=j - 1) (x:=j) (y:=(j:Int) - 1) (by omega) (by omega) rfl (by omega) hl;have HL:=Lib.hid hl;clear hl
      repeat' (first|(refine hc.mono ?_;rintro e w1 ⟨rfl,hW3⟩;simp only [];have c1:=hW3.c1;obtain ⟨w2,hs,hW4⟩:=hW3.swap S hw (i:=j) (j:=j - 1) (x:=j) (y:=(j:Int) - 1) (by omega) (by omega) rfl (by omega);have HS:=Lib.hid hs;clear hs)|(rw [HS.out,Oper.upon_value])|go_guarded|go_step|fail)
      go_roundg j
      case measure=>omega
      case rel=>exact ⟨j - 1,_,by go_num,by omega,by omega,by omega,hW4,by show Hid _;rw [← HI.out,z0ev lt a j dj hja HL.out];exact rfl⟩
     | false =>
      have hc:=hW2.less S hw (i:=j) (j:=j - 1) (x:=j) (y:=(j:Int) - 1) (by omega) (by omega) rfl (by omega) hl;have HL:=Lib.hid hl;clear hl
      repeat' (first|(refine hc.mono ?_;rintro e w1 ⟨rfl,hW3⟩;simp only [])|go_guarded|go_step|fail)
      go_roundg (b+1 - i)
      case measure=>omega
      case rel=>exact ⟨i+1,dj,by go_num,by omega,by omega,by omega,hW3,by show Hid _;rw [← HO.out,zld lt a b i dk hlt,← HI.out,zjo lt a j dj (Or.inr HL.out)];exact rfl⟩
    ·have hjz:¬ (a:Int)<(j:Int):=by omega
     repeat' (first|go_guarded|go_step|fail)
     go_roundg (b+1 - i)
     case measure=>omega
     case rel=>exact ⟨i+1,dj,by go_num,by omega,by omega,by omega,hW2,by show Hid _;rw [← HO.out,zld lt a b i dk hlt,← HI.out,zjo lt a j dj (Or.inl (by omega))];exact rfl⟩
  ·have hltz:¬ (i:Int)<(b:Int):=by omega
   repeat' (first|go_step|fail)
   go_end0;exact ⟨rfl,by unfold insertionSort;rw [← HO.out,z08d lt a b i dk hlt];exact hW.st,hW.fwd⟩
end
end
section
open Go.RowKit Go.Sort
set_option maxRecDepth 100000
set_option maxHeartbeats 4000000
section
variable {α:Type} [Inhabited α] {lt:α→α→Bool} {n B lf sf:Nat} {lb sb:Array Value} {St:Array α→World→Prop}
theorem z0iy (i j:Nat) (d:Array α) (h:i<j):reverseLoop i j d=reverseLoop (i+1) (j - 1) (swp d i j):=by rw [reverseLoop,if_pos h]
theorem z0ew (i j:Nat) (d:Array α) (h:¬ i<j):reverseLoop i j d=d:=by rw [reverseLoop,if_neg h]
def kid (lt:α→α→Bool) (hi F r:Nat) (d:Array α):Nat:=if (decide (2 * r+2<hi) && lt d[F+(2 * r+1)]! d[F+(2 * r+2)]!)=true then 2 * r+2 else 2 * r+1
theorem z0ph {hi F r:Nat} (d:Array α) (h:hi≤2 * r+1):siftDown lt hi F r d=d:=by rw [siftDown,dif_pos h]
theorem z08e {hi F r c:Nat} (d:Array α) (h:¬ hi≤2 * r+1) (hc:kid lt hi F r d=c):siftDown lt hi F r d=if lt d[F+r]! d[F+c]! then siftDown lt hi F c (swp d (F+r) (F+c)) else d:=by
 subst hc;unfold kid;rw [siftDown,dif_neg h,show F+(2 * r+1)+1=F+(2 * r+2) by omega]
 by_cases hb:(decide (2 * r+2<hi) && lt d[F+(2 * r+1)]! d[F+(2 * r+2)]!)=true
 ·have hb':(decide (2 * r+1+1<hi) && lt d[F+(2 * r+1)]! d[F+(2 * r+2)]!)=true:=hb
  rw [if_pos hb',if_pos hb];have:2 * r+2<hi:=by (rw [zY0d] at hb;exact of_decide_eq_true hb.1)
  cases hl:lt d[F+r]! d[F+(2 * r+2)]! with
  | true=>simp only [zY3c,zY0v,if_false,if_true];rw [dif_pos this]
  | false=>simp only [Bool.not_false,zY0v,if_false,if_true]
 ·have hb':¬ (decide (2 * r+1+1<hi) && lt d[F+(2 * r+1)]! d[F+(2 * r+2)]!)=true:=hb
  rw [if_neg hb',if_neg hb]
  cases hl:lt d[F+r]! d[F+(2 * r+1)]! with
  | true=>simp only [zY3c,zY0v,if_false,if_true]
  | false=>simp only [Bool.not_false,zY0v,if_false,if_true]
theorem z0mi {hi F r c:Nat} (d:Array α) (h:¬ hi≤2 * r+1) (hc:kid lt hi F r d=c):c<hi∧r<c:=by
 subst hc;unfold kid
 split
 ·rename_i hb
  have:2 * r+2<hi:=by (rw [zY0d] at hb;exact of_decide_eq_true hb.1)
  omega
 ·omega
theorem z0iz (S:Srt lt n B lf lb sf sb St) {w:World} {d:Array α} (h:St d w) {a b:Nat} (hab:a<b) (hb:b≤n) :
  Calls Tryz.prog 187 #[.agg #[.func (.func lf) #[] lb,.func (.func sf) #[] sb],.int .i64 a,.int .i64 b] w fun e w'=>e = .returned (.tuple #[])∧St (reverseRange d a b) w'∧Fwd B w w':=by
 have hw:=S.base h;have hO:=On.start S h;have hbig:=S.big;go_enter Tryz.func187,Tryz.ntmps187;go_wp2;go_loopg [6,7] b (fun kx vi vj wr=>∃ (i j:Nat) (dk:Array α),vi = .int .i64 i∧vj = .int .i64 j∧a≤i∧j<b∧j<kx∧On B lf lb sf sb St w dk wr∧Hid (reverseLoop i j dk=reverseLoop a (b - 1) d))
 case atStart=>exact ⟨a,b - 1,d,rfl,by go_num,by omega,by omega,by omega,hO,rfl⟩
 case round =>
  obtain ⟨i,j,dk,rfl,rfl,hai,hjb,hkx,hW,HO⟩:=hrel;clear hO
  by_cases hij:i<j
  ·have hz:(i:Int)<(j:Int):=by omega
   have c1:=hW.c1;obtain ⟨w2,hs,hW4⟩:=hW.swap S hw (i:=i) (j:=j) (by omega) (by omega) rfl rfl;have HS:=Lib.hid hs;clear hs
   repeat' (first|(rw [HS.out,Oper.upon_value])|go_step|fail)
   go_roundg j
   case measure=>omega
   case rel=>exact ⟨i+1,j - 1,_,by go_num,by go_num,by omega,by omega,by omega,hW4,by show Hid _;rw [← HO.out,z0iy i j dk hij];exact rfl⟩
  ·have hz:¬ (i:Int)<(j:Int):=by omega
   repeat' (first|go_step|fail)
   go_end0;exact ⟨rfl,by unfold reverseRange;rw [← HO.out,z0ew i j dk hij];exact hW.st,hW.fwd⟩
theorem z0mj (S:Srt lt n B lf lb sf sb St) {w:World} {d:Array α} (h:St d w) {lo hi first:Nat} (hlo:lo≤hi) (hb:first+hi≤n) :
  Calls Tryz.prog 200 #[.agg #[.func (.func lf) #[] lb,.func (.func sf) #[] sb],.int .i64 lo,.int .i64 hi,.int .i64 first] w fun e w'=>e = .returned (.tuple #[])∧St (siftDown lt hi first lo d) w'∧Fwd B w w':=by
 have hw:=S.base h;have hO:=On.start S h;have hbig:=S.big;have eg:=S.enters;go_enter Tryz.func200,Tryz.ntmps200;go_wp2;go_loopg [8] (hi - lo+1) (fun kx s8 wr=>∃ (root:Nat) (dk:Array α),s8 = .int .i64 root∧root≤hi∧hi - root<kx∧On B lf lb sf sb St w dk wr∧Hid (siftDown lt hi first root dk=siftDown lt hi first lo d))
 case atStart=>exact ⟨lo,d,rfl,hlo,by omega,hO,rfl⟩
 case round =>
  obtain ⟨root,dk,rfl,hr,hkx,hW,HO⟩:=hrel;clear hO;have c0:=hW.c0;have c1:=hW.c1
  by_cases h0:hi≤2 * root+1
  ·have h0z:(hi:Int)≤2 * (root:Int)+1:=by omega
   repeat' (first|go_step|fail)
   go_end0;exact ⟨rfl,by rw [← HO.out,z0ph dk h0];exact hW.st,hW.fwd⟩
  have h0z:¬ ((hi:Int)≤2 * (root:Int)+1):=by omega
  go_upto_region 4 with fail
  go_cut [32] (fun c wx=>c = .bool (decide (2 * root+2<hi) && lt dk[first+(2 * root+1)]! dk[first+(2 * root+2)]!)∧On B lf lb sf sb St w dk wx)
  case first =>
   by_cases h1:2 * root+2<hi
   ·have h1z:2 * (root:Int)+1+1<(hi:Int):=by omega
    cases hL:lt dk[first+(2 * root+1)]! dk[first+(2 * root+2)]! with
    | true =>
     have hc:=hW.less S hw (i:=first+(2 * root+1)) (j:=first+(2 * root+2)) (x:=(first:Int)+(2 * (root:Int)+1)) (y:=(first:Int)+(2 * (root:Int)+1)+1) (by omega) (by omega) (by omega) (by omega) hL;have HL:=Lib.hid hL;clear hL;go_wp2_with (refine hc.mono ?_;rintro e w1 ⟨rfl,hU⟩;simp only [];clear hc);go_meet;exact ⟨by rw [decide_eq_true h1,HL.out];rfl,hU⟩
    | false =>
     have hc:=hW.less S hw (i:=first+(2 * root+1)) (j:=first+(2 * root+2)) (x:=(first:Int)+(2 * (root:Int)+1)) (y:=(first:Int)+(2 * (root:Int)+1)+1) (by omega) (by omega) (by omega) (by omega) hL;have HL:=Lib.hid hL;clear hL;go_wp2_with (refine hc.mono ?_;rintro e w1 ⟨rfl,hU⟩;simp only [];clear hc);go_meet;exact ⟨by rw [decide_eq_true h1,HL.out];rfl,hU⟩
   ·have h1z:¬ (2 * (root:Int)+1+1<(hi:Int)):=by omega
    go_wp2_with fail;go_meet;exact ⟨by rw [decide_eq_false h1];rfl,hW⟩
  case rest =>
   obtain ⟨rfl,hX⟩:=hcut;clear hW c0 c1;have c0:=hX.c0;have HK:∀ b,(decide (2 * root+2<hi) && lt dk[first+(2 * root+1)]! dk[first+(2 * root+2)]!)=b→kid lt hi first root dk=if b=true then 2 * root+2 else 2 * root+1:=fun b hb=>by unfold kid;rw [hb]
   cases hb:(decide (2 * root+2<hi) && lt dk[first+(2 * root+1)]! dk[first+(2 * root+2)]!) with
   | true =>
    have hk:kid lt hi first root dk=2 * root+2:=HK _ hb
    have hk1:=z0mi dk h0 hk;have hk2:=Lib.hid (z08e dk h0 hk);clear hb HK hk
    cases hG:lt dk[first+root]! dk[first+(2 * root+2)]! with
    | true =>
     have hd:=hX.less S hw (i:=first+root) (j:=first+(2 * root+2)) (x:=(first:Int)+(root:Int)) (y:=(first:Int)+(2 * (root:Int)+1+1)) (by omega) (by omega) (by omega) (by omega) hG;have HG:=Lib.hid hG;clear hG;go_wp2_with (first|(refine hd.mono ?_;rintro e w2 ⟨rfl,hW2⟩;simp only [];clear hd;have c1:=hW2.c1;obtain ⟨w3,hs,hW3⟩:=hW2.swap S hw (i:=first+root) (j:=first+(2 * root+2)) (x:=(first:Int)+(root:Int)) (y:=(first:Int)+(2 * (root:Int)+1+1)) (by omega) (by omega) (by omega) (by omega);have HS:=Lib.hid hs;clear hs)|(rw [HS.out,Oper.upon_value]));go_roundg (hi - root)
     case measure=>omega
     case rel=>exact ⟨2 * root+2,_,by go_num,by omega,by omega,hW3,by show Hid _;rw [← HO.out,hk2.out,HG.out,if_pos rfl];exact rfl⟩
    | false =>
     have hd:=hX.less S hw (i:=first+root) (j:=first+(2 * root+2)) (x:=(first:Int)+(root:Int)) (y:=(first:Int)+(2 * (root:Int)+1+1)) (by omega) (by omega) (by omega) (by omega) hG;have HG:=Lib.hid hG;clear hG;go_wp2_with (refine hd.mono ?_;rintro e w2 ⟨rfl,hW2⟩;simp only [];clear hd)
     ((try simp only [Exit.inBlock,Exit.then]);refine bodyPost_ret (results_none rfl _ _ _) rfl ?_)
     exact ⟨rfl,by rw [← HO.out,hk2.out,HG.out,if_neg zY3g];exact hW2.st,hW2.fwd⟩
   | false =>
    have hk:kid lt hi first root dk=2 * root+1:=HK _ hb
    have hk1:=z0mi dk h0 hk;have hk2:=Lib.hid (z08e dk h0 hk);clear hb HK hk
    cases hG:lt dk[first+root]! dk[first+(2 * root+1)]! with
    | true =>
     have hd:=hX.less S hw (i:=first+root) (j:=first+(2 * root+1)) (x:=(first:Int)+(root:Int)) (y:=(first:Int)+(2 * (root:Int)+1)) (by omega) (by omega) (by omega) (by omega) hG;have HG:=Lib.hid hG;clear hG;go_wp2_with (first|(refine hd.mono ?_;rintro e w2 ⟨rfl,hW2⟩;simp only [];clear hd;have c1:=hW2.c1;obtain ⟨w3,hs,hW3⟩:=hW2.swap S hw (i:=first+root) (j:=first+(2 * root+1)) (x:=(first:Int)+(root:Int)) (y:=(first:Int)+(2 * (root:Int)+1)) (by omega) (by omega) (by omega) (by omega);have HS:=Lib.hid hs;clear hs)|(rw [HS.out,Oper.upon_value]));go_roundg (hi - root)
     case measure=>omega
     case rel=>exact ⟨2 * root+1,_,by go_num,by omega,by omega,hW3,by show Hid _;rw [← HO.out,hk2.out,HG.out,if_pos rfl];exact rfl⟩
    | false =>
     have hd:=hX.less S hw (i:=first+root) (j:=first+(2 * root+1)) (x:=(first:Int)+(root:Int)) (y:=(first:Int)+(2 * (root:Int)+1)) (by omega) (by omega) (by omega) (by omega) hG;have HG:=Lib.hid hG;clear hG;go_wp2_with (refine hd.mono ?_;rintro e w2 ⟨rfl,hW2⟩;simp only [];clear hd)
     ((try simp only [Exit.inBlock,Exit.then]);refine bodyPost_ret (results_none rfl _ _ _) rfl ?_)
     exact ⟨rfl,by rw [← HO.out,hk2.out,HG.out,if_neg zY3g];exact hW2.st,hW2.fwd⟩
theorem z0pi (lt:α→α→Bool) (hi F k:Nat) (d:Array α) (h:k≠0):heapBuild lt hi F k d=heapBuild lt hi F (k - 1) (siftDown lt hi F (k - 1) d):=by
 obtain ⟨j,rfl⟩:∃ j,k=j+1:=⟨k - 1,by omega⟩
 rfl
theorem z0up (lt:α→α→Bool) (F k:Nat) (d:Array α) (h:k≠0):heapPop lt F k d=heapPop lt F (k - 1) (siftDown lt (k - 1) F 0 (swp d F (F+(k - 1)))):=by
 obtain ⟨j,rfl⟩:∃ j,k=j+1:=⟨k - 1,by omega⟩
 rfl
theorem z0uq (S:Srt lt n B lf lb sf sb St) {w:World} {d:Array α} (h:St d w) {a b:Nat} (hab:a<b) (hb:b≤n) :
  Calls Tryz.prog 184 #[.agg #[.func (.func lf) #[] lb,.func (.func sf) #[] sb],.int .i64 a,.int .i64 b] w fun e w'=>e = .returned (.tuple #[])∧St (heapSort lt d a b) w'∧Fwd B w w':=by
 have hw:=S.base h;have hO:=On.start S h;have hbig:=S.big;obtain ⟨m,hm⟩:∃ m,m=(b - a - 1) / 2+1:=⟨_,rfl⟩
 have hmz:((b:Int) - (a:Int) - 1) / 2=(m:Int) - 1:=by omega
 have hsz:((b - a:Nat):Int)=(b:Int) - (a:Int):=by omega
 have H0:heapSort lt d a b=heapPop lt a (b - a) (heapBuild lt (b - a) a m d):=by rw [hm];rfl
 rw [H0];clear H0;have hml:m≤b - a:=by omega
 clear hm;go_enter Tryz.func184,Tryz.ntmps184;go_wp2;go_loopg [9] (m+1) (fun kx v wr=>∃ (k:Nat) (dk:Array α),v = .int .i64 ((k:Int) - 1)∧k≤m∧k<kx∧On B lf lb sf sb St w dk wr∧Hid (heapBuild lt (b - a) a k dk=heapBuild lt (b - a) a m d))
 case atStart=>exact ⟨m,d,by go_num,zY0k _,zY29 _,hO,rfl⟩
 case round =>
  obtain ⟨k,dk,rfl,hkm,hkx,hW,HO⟩:=hrel;clear hO;have c0:=hW.c0;have c1:=hW.c1
  by_cases h0:k=0
  ·have hz:¬ (0:Int)≤(k:Int) - 1:=by omega
   have hD:Hid (heapBuild lt (b - a) a m d=dk):=by (show _=_;rw [← HO.out,h0];rfl)
   clear HO c0 c1;go_wp2;go_loopg [10] (b - a+1) (fun kx v wr=>∃ (k:Nat) (dj:Array α),v = .int .i64 ((k:Int) - 1)∧k≤b - a∧k<kx∧On B lf lb sf sb St w dj wr∧Hid (heapPop lt a k dj=heapPop lt a (b - a) dk))
   case atStart=>exact ⟨b - a,dk,by go_num,zY0k _,zY29 _,hW,rfl⟩
   case round =>
    obtain ⟨j,dj,rfl,hjm,hjx,hW2,HP⟩:=hrel;clear hW;have c1:=hW2.c1
    by_cases h1:j=0
    ·have hz1:¬ (0:Int)≤(j:Int) - 1:=by omega
     go_wp2;go_end0;exact ⟨rfl,by rw [hD.out,← HP.out,h1];exact hW2.st,hW2.fwd⟩
    ·have hz1:(0:Int)≤(j:Int) - 1:=by omega
     obtain ⟨w2,hs,hV⟩:=hW2.swap S hw (i:=a) (j:=a+(j - 1)) (x:=a) (y:=(a:Int)+((j:Int) - 1)) (by omega) (by omega) rfl (by omega);have HS:=Lib.hid hs;clear hs;have hc:=z0mj S hV.st (lo:=0) (hi:=j - 1) (first:=a) (by omega) (by omega);rw [show ((j - 1:Nat):Int)=(j:Int) - 1 by omega,show ((0:Nat):Int)=0 from rfl] at hc;have d0:=hV.c0;have d1:=hV.c1;go_wp2_with (first|(rw [HS.out,Oper.upon_value])|(refine hc.mono ?_;rintro e w3 ⟨rfl,hU⟩;simp only [];have hU:=hV.call hw hU;clear hc d0 d1));go_roundg j
     case measure=>omega
     case rel=>exact ⟨j - 1,_,by go_num,by omega,by omega,hU,by show Hid _;rw [← HP.out,z0up lt a j dj h1];exact rfl⟩
  ·have hz:(0:Int)≤(k:Int) - 1:=by omega
   have hc:=z0mj S hW.st (lo:=k - 1) (hi:=b - a) (first:=a) (by omega) (by omega);rw [show ((k - 1:Nat):Int)=(k:Int) - 1 by omega,hsz] at hc;go_wp2_with (refine hc.mono ?_;rintro e w3 ⟨rfl,hU⟩;simp only [];have hU:=hW.call hw hU;clear hc);go_roundg k
   case measure=>omega
   case rel=>exact ⟨k - 1,_,by go_num,by omega,by omega,hU,by show Hid _;rw [← HO.out,z0pi lt (b - a) a k dk h0];exact rfl⟩
end
end
section
open Go.RowKit Go.Sort
set_option maxRecDepth 100000
set_option maxHeartbeats 4000000
section
variable {α:Type} {n B lf sf:Nat} {lb sb:Array Value} {St:Array α→World→Prop}
structure Cnt (B cb:Nat) (St:Array α→World→Prop) (d:Array α) (s:Nat) (w W:World):Prop where
 st:St d W
 os:W.os=w.os
 tape:W.tape=w.tape
 output:W.output=w.output
 size:w.heap.size≤W.heap.size
 same:∀ b,B≤b→b<w.heap.size→b≠cb→W.heap[b]? = w.heap[b]?
 cn:W.heap[cb]? = some (.cells #[.int .i64 s] 3 (0,0))
theorem Cnt.cc {cb s:Nat} {d:Array α} {w W:World} (h:Cnt B cb St d s w W):W.cell? ⟨cb,0,none⟩=some (.int .i64 s):=by
 unfold World.cell?;rw [h.cn];rfl
theorem Cnt.cf {cb s:Nat} {d:Array α} {w W:World} (h:Cnt B cb St d s w W):W.frozen? ⟨cb,0,none⟩=false:=by
 unfold World.frozen?;rw [h.cn];rfl
theorem Cnt.trans {cb s s':Nat} {d d':Array α} {w W W':World} (h:Cnt B cb St d s w W) (k:Cnt B cb St d' s' W W'):Cnt B cb St d' s' w W' :=
 ⟨k.st,k.os.trans h.os,k.tape.trans h.tape,k.output.trans h.output,Nat.le_trans h.size k.size,fun b h1 h2 h3=>(k.same b h1 (zY1t h2 h.size) h3).trans (h.same b h1 h2 h3),k.cn⟩
theorem Cnt.is_lt {cb s:Nat} {d:Array α} {w W:World} (h:Cnt B cb St d s w W):cb<W.heap.size:=by
 have:=h.cn;rw [zY15] at this;exact this.1
def Bxx (lf:Nat) (lb:Array Value) (sf:Nat) (sb:Array Value) (g:Nat) (W:World):Prop:=W.heap[g]? = some (.cells #[.func (.func lf) #[] lb,.func (.func sf) #[] sb] 236 (0,0))
theorem Bxx.c0 {g:Nat} {W:World} (h:Bxx lf lb sf sb g W):W.cell? ⟨g,0,none⟩=some (.func (.func lf) #[] lb):=by
 unfold World.cell?;rw [show W.heap[g]? = _ from h];rfl
theorem Bxx.c1 {g:Nat} {W:World} (h:Bxx lf lb sf sb g W):W.cell? ⟨g,1,none⟩=some (.func (.func sf) #[] sb):=by
 unfold World.cell?;rw [show W.heap[g]? = _ from h];rfl
theorem Bxx.is_lt {g:Nat} {W:World} (h:Bxx lf lb sf sb g W):g<W.heap.size:=by
 have:W.heap[g]? = _:=h;rw [zY15] at this;exact this.1
theorem Bxx.to {g cb s:Nat} {d:Array α} {W W':World} (h:Bxx lf lb sf sb g W) (k:Cnt B cb St d s W W') (hg:B≤g) (hne:g≠cb):Bxx lf lb sf sb g W':=(k.same g hg h.is_lt hne).trans h
theorem Cnt.fwd {cb s:Nat} {d:Array α} {w W W':World} (h:Cnt B cb St d s w W) (hcB:B≤cb) (hs:St d W'∧Fwd B W W'):Cnt B cb St d s w W' :=
 ⟨hs.1,hs.2.os.trans h.os,hs.2.tape.trans h.tape,hs.2.output.trans h.output,Nat.le_trans h.size hs.2.size,fun b h1 h2 h3=>(hs.2.same b h1 (zY1t h2 h.size)).trans (h.same b h1 h2 h3),(hs.2.same _ hcB h.is_lt).trans h.cn⟩
end
section
variable {α:Type} [Inhabited α] {lt:α→α→Bool} {n B lf sf:Nat} {lb sb:Array Value} {St:Array α→World→Prop}
theorem Cnt.add (S:Srt lt n B lf lb sf sb St) {cb s:Nat} {d:Array α} {w W:World} (h:Cnt B cb St d s w W) (hcB:B≤cb) {s':Nat} {z:Int} (hz:z=(s':Int)):Cnt B cb St d s' w (W.setCell ⟨cb,0,none⟩ (.int .i64 z)):=by
 subst hz;have hl:=h.is_lt;have hsz:(W.setCell ⟨cb,0,none⟩ (.int .i64 (s':Int))).heap.size=W.heap.size:=by simp [World.setCell]
 refine ⟨S.keep h.st ((Below.refl _ _).setCell hcB _),h.os,h.tape,h.output,by rw [hsz];exact h.size,fun b h1 h2 h3=>(heap_setCell_other W _ b _ h3).trans (h.same b h1 h2 h3),?_⟩;have:=heap_setCell_same W cb 0 _ _ (.int .i64 (s':Int)) h.cn;simpa using this
theorem Cnt.start (S:Srt lt n B lf lb sf sb St) {cb s:Nat} {d:Array α} {w:World} (h:St d w) (hc:w.heap[cb]? = some (.cells #[.int .i64 s] 3 (0,0))) (o:Obj):Cnt B cb St d s w (w.alloc o):=by
 have hb:=S.base h;have hl:cb<w.heap.size:=by rw [zY15] at hc;exact hc.1
 exact ⟨S.keep h ((Below.refl _ _).alloc hb _),rfl,rfl,rfl,by rw [z5b];omega,fun b _ h2 _=>zb3 _ _ h2,(zb3 _ _ hl).trans hc⟩
theorem zmp (S:Srt lt n B lf lb sf sb St) {w:World} {d:Array α} (h:St d w) {cb s:Nat} (hcB:B≤cb) (hc:w.heap[cb]? = some (.cells #[.int .i64 s] 3 (0,0))) (hs:s+1<4611686018427387904) {a b:Nat} (ha:a<n) (hb:b<n) :
  Calls Tryz.prog 221 #[.agg #[.func (.func lf) #[] lb,.func (.func sf) #[] sb],.int .i64 a,.int .i64 b,.pointer (some ⟨cb,0,none⟩)] w fun e w'=>e = .returned (.tuple #[.int .i64 ((order2 lt d a b s).1:Nat),.int .i64 ((order2 lt d a b s).2.1:Nat)])∧Cnt B cb St d (order2 lt d a b s).2.2 w w':=by
 have hw:=S.base h;have hl:cb<w.heap.size:=by rw [zY15] at hc;exact hc.1
 have hC:=Cnt.start S h hc (.cells #[.func (.func lf) #[] lb,.func (.func sf) #[] sb] 236);have hO:=On.start S h;have hbig:=S.big;have eg:=S.enters;have c0:=hO.c0
 cases hl:lt d[b]! d[a]! with
 | true =>
  have hd:=S.less b a hO.st hb ha;rw [hl] at hd;have hv:order2 lt d a b s=(b,a,s+1):=by unfold order2;rw [hl];rfl
  rw [hv];clear hc hv hl hO;go_enter Tryz.func221,Tryz.ntmps221;go_wp2_with (refine hd.mono ?_;rintro e w1 ⟨rfl,hW1⟩;have hC1:=hC.fwd hcB hW1;have cc:=hC1.cc;have cf:=hC1.cf;simp only []);go_ret2;exact ⟨rfl,hC1.add S hcB (by omega)⟩
 | false =>
  have hd:=S.less b a hO.st hb ha;rw [hl] at hd;have hv:order2 lt d a b s=(a,b,s):=by unfold order2;rw [hl];rfl
  rw [hv];clear hc hv hl hO;go_enter Tryz.func221,Tryz.ntmps221;go_wp2_with (refine hd.mono ?_;rintro e w1 ⟨rfl,hW1⟩;have hC1:=hC.fwd hcB hW1;have cc:=hC1.cc;have cf:=hC1.cf;simp only []);go_ret2;exact ⟨rfl,hC1⟩
theorem zab (lt:α→α→Bool) (d:Array α) {a b s n:Nat} (ha:a<n) (hb:b<n):(order2 lt d a b s).1<n∧(order2 lt d a b s).2.1<n∧(order2 lt d a b s).2.2≤s+1:=by
 unfold order2
 split
 ·exact ⟨hb,ha,zY0k _⟩
 ·exact ⟨ha,hb,by show s≤s+1;omega⟩
theorem zhd (lt:α→α→Bool) (d:Array α) {a b c s n:Nat} (ha:a<n) (hb:b<n) (hc:c<n):(median lt d a b c s).1<n∧(median lt d a b c s).2≤s+3:=by
 unfold median;have h1:=zab lt d (s:=s) ha hb;have h2:=zab lt d (s:=(order2 lt d a b s).2.2) h1.2.1 hc;have h3:=zab lt d (s:=(order2 lt d (order2 lt d a b s).2.1 c (order2 lt d a b s).2.2).2.2) h1.1 h2.1;exact ⟨h3.2.1,by dsimp only;omega⟩
theorem zmq (S:Srt lt n B lf lb sf sb St) {w:World} {d:Array α} (h:St d w) {cb s:Nat} (hcB:B≤cb) (hc:w.heap[cb]? = some (.cells #[.int .i64 s] 3 (0,0))) (hs:s+3<4611686018427387904) {a b c:Nat} (ha:a<n) (hb:b<n) (hcn:c<n) :
  Calls Tryz.prog 204 #[.agg #[.func (.func lf) #[] lb,.func (.func sf) #[] sb],.int .i64 a,.int .i64 b,.int .i64 c,.pointer (some ⟨cb,0,none⟩)] w fun e w'=>e = .returned (.int .i64 ((median lt d a b c s).1:Nat))∧Cnt B cb St d (median lt d a b c s).2 w w':=by
 have hw:=S.base h;have hl:cb<w.heap.size:=by rw [zY15] at hc;exact hc.1
 have hC:=Cnt.start S h hc (.cells #[.func (.func lf) #[] lb,.func (.func sf) #[] sb] 236);have hX:Bxx lf lb sf sb w.heap.size (w.alloc (.cells #[.func (.func lf) #[] lb,.func (.func sf) #[] sb] 236)):=zb2 _ _;have m1:=zab lt d (s:=s) ha hb;obtain ⟨a1,b1,s1,e1⟩:∃ a1 b1 s1,order2 lt d a b s=(a1,b1,s1):=⟨_,_,_,rfl⟩
 rw [e1] at m1;obtain ⟨ha1,hb1,hs1⟩:=m1;simp only at ha1 hb1 hs1;have m2:=zab lt d (s:=s1) hb1 hcn;obtain ⟨b2,c2,s2,e2⟩:∃ a1 c1 s1',order2 lt d b1 c s1=(a1,c1,s1'):=⟨_,_,_,rfl⟩
 rw [e2] at m2;obtain ⟨hb2,hc2,hs2⟩:=m2;simp only at hb2 hc2 hs2;obtain ⟨a3,b3,s3,e3⟩:∃ a3 b3 s3,order2 lt d a1 b2 s2=(a3,b3,s3):=⟨_,_,_,rfl⟩
 have hv:median lt d a b c s=(b3,s3):=by unfold median;simp only [e1,e2,e3]
 rw [hv];have hd1:=zmp S hC.st hcB hC.cn (s:=s) (by omega) ha hb;have hd2:=fun W (hC:Cnt B cb St d s1 w W)=>zmp S hC.st hcB hC.cn (s:=s1) (by omega) hb1 hcn
 have hd3:=fun W (hC:Cnt B cb St d s2 w W)=>zmp S hC.st hcB hC.cn (s:=s2) (by omega) ha1 hb2
 rw [e1] at hd1;simp only [e2,e3] at hd1 hd2 hd3;have H2:=Lib.hid hd2;have H3:=Lib.hid hd3;have c0:=hX.c0;have c1:=hX.c1;clear hd2 hd3 e1 e2 e3 hv hc;go_enter Tryz.func204,Tryz.ntmps204;go_wp2_with (first|(refine hd1.mono ?_;rintro e w1 ⟨rfl,hK⟩;clear hd1;have hX1:=hX.to hK hw (by omega);have hC1:=hC.trans hK;have c0:=hX1.c0;have c1:=hX1.c1;have hd2:=H2.out _ hC1;simp only [])|(refine hd2.mono ?_;rintro e w2 ⟨rfl,hK2⟩;clear hd2;have hX2:=hX1.to hK2 hw (by omega);have hC2:=hC1.trans hK2;have c0:=hX2.c0;have c1:=hX2.c1;have hd3:=H3.out _ hC2;simp only [])|(refine hd3.mono ?_;rintro e w3 ⟨rfl,hK3⟩;have hC3:=hC2.trans hK3;simp only []));go_ret;exact ⟨rfl,hC3⟩
theorem zmr (S:Srt lt n B lf lb sf sb St) {w:World} {d:Array α} (h:St d w) {cb s:Nat} (hcB:B≤cb) (hc:w.heap[cb]? = some (.cells #[.int .i64 s] 3 (0,0))) (hs:s+3<4611686018427387904) {a:Nat} (ha:1≤a) (ha1:a+1<n) :
  Calls Tryz.prog 203 #[.agg #[.func (.func lf) #[] lb,.func (.func sf) #[] sb],.int .i64 a,.pointer (some ⟨cb,0,none⟩)] w fun e w'=>e = .returned (.int .i64 ((medianAdjacent lt d a s).1:Nat))∧Cnt B cb St d (medianAdjacent lt d a s).2 w w':=by
 have hw:=S.base h;have hl:cb<w.heap.size:=by rw [zY15] at hc;exact hc.1
 have hC:=Cnt.start S h hc (.cells #[.func (.func lf) #[] lb,.func (.func sf) #[] sb] 236);have hX:Bxx lf lb sf sb w.heap.size (w.alloc (.cells #[.func (.func lf) #[] lb,.func (.func sf) #[] sb] 236)):=zb2 _ _;have hd1:=zmq S hC.st hcB hC.cn (s:=s) (a:=a - 1) (b:=a) (c:=a+1) (by omega) (by omega) (by omega) (by omega);rw [show ((a - 1:Nat):Int)=(a:Int) - 1 by omega,show ((a+1:Nat):Int)=(a:Int)+1 by omega] at hd1;have hbig:=S.big;unfold medianAdjacent;generalize median lt d (a - 1) a (a+1) s=r at *;have c0:=hX.c0;have c1:=hX.c1;clear hc;go_enter Tryz.func203,Tryz.ntmps203;go_wp2_with (refine hd1.mono ?_;rintro e w1 ⟨rfl,hK⟩;clear hd1;have hC1:=hC.trans hK;simp only []);go_ret;exact ⟨rfl,hC1⟩
def z89:Go.Sort.Hint→Int
 | .unknown=>0
 | .increasing=>1
 | .decreasing=>2
theorem z0mk (lt:α→α→Bool) (d:Array α) (a b:Nat) {p s:Nat} (h:(if b - a ≥ 8 then (if b - a ≥ 50 then
  median lt d (medianAdjacent lt d (a+(b - a) / 4 * 1) 0).1 (medianAdjacent lt d (a+(b - a) / 4 * 2) (medianAdjacent lt d (a+(b - a) / 4 * 1) 0).2).1 (medianAdjacent lt d (a+(b - a) / 4 * 3) (medianAdjacent lt d (a+(b - a) / 4 * 2) (medianAdjacent lt d (a+(b - a) / 4 * 1) 0).2).2).1 (medianAdjacent lt d (a+(b - a) / 4 * 3) (medianAdjacent lt d (a+(b - a) / 4 * 2) (medianAdjacent lt d (a+(b - a) / 4 * 1) 0).2).2).2
  else median lt d (a+(b - a) / 4 * 1) (a+(b - a) / 4 * 2) (a+(b - a) / 4 * 3) 0) else (a+(b - a) / 4 * 2,0))=(p,s)) :
  choosePivot lt d a b=(p,if s=0 then .increasing else if s=12 then .decreasing else .unknown):=by
 unfold choosePivot;simp only [h]
theorem z0ml {s:Nat} (h:s=0):z89 (if s=0 then Go.Sort.Hint.increasing else if s=12 then .decreasing else .unknown)=1:=by rw [if_pos h];rfl
theorem z0g6 {s:Nat} (h:s≠0) (h':s=12):z89 (if s=0 then Go.Sort.Hint.increasing else if s=12 then .decreasing else .unknown)=2:=by rw [if_neg h,if_pos h'];rfl
theorem z0mm {s:Nat} (h:s≠0) (h':s≠12):z89 (if s=0 then Go.Sort.Hint.increasing else if s=12 then .decreasing else .unknown)=0:=by rw [if_neg h,if_neg h'];rfl
theorem Cnt.new (S:Srt lt n B lf lb sf sb St) {w:World} {d:Array α} (h:St d w) (o:Obj):Cnt B (w.heap.size+1) St d 0 ((w.alloc o).alloc (.cells #[.int .i64 0] 3)) ((w.alloc o).alloc (.cells #[.int .i64 0] 3)):=by
 have hb:=S.base h;refine ⟨S.keep h (((Below.refl _ _).alloc hb _).alloc (by rw [z5b];omega) _),rfl,rfl,rfl,zY0k _,fun _ _ _ _=>rfl,?_⟩;have:=zb2 (w.alloc o) (.cells #[.int .i64 0] 3);rw [z5b] at this;exact this
theorem Cnt.done (S:Srt lt n B lf lb sf sb St) {w:World} {s:Nat} {d:Array α} {W:World} {o o':Obj} (hw:B≤w.heap.size) (h:Cnt B (w.heap.size+1) St d s ((w.alloc o).alloc o') W):St d W∧Fwd B w W:=by
 have h1:=h.size;rw [z5b,z5b] at h1;refine ⟨h.st,h.os,h.tape,h.output,by omega,fun b h2 h3=>(h.same b h2 (by rw [z5b,z5b];omega) (by omega)).trans ?_⟩;rw [zb3 _ _ (by rw [z5b];omega),zb3 _ _ h3]
theorem z0pj (S:Srt lt n B lf lb sf sb St) {w:World} {d:Array α} (h:St d w) {a b:Nat} (hab:a<b) (hb:b≤n) :
  Calls Tryz.prog 186 #[.agg #[.func (.func lf) #[] lb,.func (.func sf) #[] sb],.int .i64 a,.int .i64 b] w fun e w'=>e = .returned (.tuple #[.int .i64 ((choosePivot lt d a b).1:Nat),.int .i64 (z89 (choosePivot lt d a b).2)])∧St d w'∧Fwd B w w':=by
 have hw:=S.base h;have hC0:=Cnt.new S h (.cells #[.func (.func lf) #[] lb,.func (.func sf) #[] sb] 236);have hX0:Bxx lf lb sf sb w.heap.size ((w.alloc (.cells #[.func (.func lf) #[] lb,.func (.func sf) #[] sb] 236)).alloc (.cells #[.int .i64 0] 3)):=(zb3 _ _ (by rw [z5b];omega)).trans (zb2 _ _);have hbig:=S.big;have hcB:B≤w.heap.size+1:=by omega
 have hg:w.heap.size≠w.heap.size+1:=by omega
 have he:=fun p s=>@z0mk α _ lt d a b p s
 obtain ⟨I,hI⟩:∃ I:Nat,I=a+(b - a) / 4 * 1:=⟨_,rfl⟩
 obtain ⟨J,hJ⟩:∃ J:Nat,J=a+(b - a) / 4 * 2:=⟨_,rfl⟩
 obtain ⟨K,hK⟩:∃ K:Nat,K=a+(b - a) / 4 * 3:=⟨_,rfl⟩
 rw [← hI,← hJ,← hK] at he;have eI:((a:Int)+((b:Int) - (a:Int)) / 4)=(I:Int):=by omega
 have eJ:((a:Int)+((b:Int) - (a:Int)) / 4 * 2)=(J:Int):=by omega
 have eK:((a:Int)+((b:Int) - (a:Int)) / 4 * 3)=(K:Int):=by omega
 by_cases h8:b - a ≥ 8
 rotate_left
 ·have hr:=he J 0 (by rw [if_neg h8])
  rw [hr,show z89 (if 0=0 then Go.Sort.Hint.increasing else if 0=12 then .decreasing else .unknown)=1 from rfl];have z8:¬ (8:Int)≤(b:Int) - (a:Int):=by omega
  clear he hr hI hJ hK;go_enter Tryz.func186,Tryz.ntmps186;go_wp2;go_ret2;exact ⟨rfl,hC0.done S hw⟩
 have z8:(8:Int)≤(b:Int) - (a:Int):=by omega
 have hIn:I+1<n:=by omega
 have hJn:J+1<n:=by omega
 have hKn:K+1<n:=by omega
 have hI1:1≤I:=by omega
 have hJ1:1≤J:=by omega
 have hK1:1≤K:=by omega
 by_cases h50:b - a ≥ 50
 ·have z50:(50:Int)≤(b:Int) - (a:Int):=by omega
  obtain ⟨i1,s1,e1⟩:∃ i1 s1,medianAdjacent lt d I 0=(i1,s1):=⟨_,_,rfl⟩
  obtain ⟨j1,s2,e2⟩:∃ j1 s2,medianAdjacent lt d J s1=(j1,s2):=⟨_,_,rfl⟩
  obtain ⟨k1,s3,e3⟩:∃ k1 s3,medianAdjacent lt d K s2=(k1,s3):=⟨_,_,rfl⟩
  obtain ⟨p,s,e4⟩:∃ p s,median lt d i1 j1 k1 s3=(p,s):=⟨_,_,rfl⟩
  have m1:=zhd lt d (a:=I - 1) (b:=I) (c:=I+1) (s:=0) (n:=n) (by omega) (by omega) (by omega);rw [show median lt d (I - 1) I (I+1) 0=(i1,s1) from e1] at m1;have m2:=zhd lt d (a:=J - 1) (b:=J) (c:=J+1) (s:=s1) (n:=n) (by omega) (by omega) (by omega);rw [show median lt d (J - 1) J (J+1) s1=(j1,s2) from e2] at m2;have m3:=zhd lt d (a:=K - 1) (b:=K) (c:=K+1) (s:=s2) (n:=n) (by omega) (by omega) (by omega);rw [show median lt d (K - 1) K (K+1) s2=(k1,s3) from e3] at m3;simp only at m1 m2 m3;have hr:=he p s (by rw [if_pos h8,if_pos h50,e1,e2,e3];exact e4);rw [hr];clear he hr;obtain ⟨Hc,hHc⟩:∃ Hc:Int,Hc=z89 (if s=0 then Go.Sort.Hint.increasing else if s=12 then .decreasing else .unknown):=⟨_,rfl⟩
  have hh0:s=0→Hc=1:=fun h=>by rw [hHc,z0ml h]
  have hh12:s=12→Hc=2:=fun h=>by rw [hHc,z0g6 (by omega) h]
  have hhx:s≠0→s≠12→Hc=0:=fun h1 h2=>by rw [hHc,z0mm h1 h2]
  show Calls _ _ _ _ fun e w'=>e = .returned (.tuple #[.int .i64 (p:Nat),.int .i64 (z89 (if s=0 then Go.Sort.Hint.increasing else if s=12 then .decreasing else .unknown))])∧_
  rw [← hHc];clear hHc;have hd1:=zmr S hC0.st hcB hC0.cn (s:=0) (a:=I) (by omega) hI1 hIn;have hd2:=fun W (hC:Cnt B (w.heap.size+1) St d s1 _ W)=>zmr S (Cnt.st (w:=(w.alloc (.cells #[.func (.func lf) #[] lb,.func (.func sf) #[] sb] 236)).alloc (.cells #[.int .i64 0] 3)) hC) hcB hC.cn (s:=s1) (a:=J) (by omega) hJ1 hJn
  have hd3:=fun W (hC:Cnt B (w.heap.size+1) St d s2 _ W)=>zmr S (Cnt.st (w:=(w.alloc (.cells #[.func (.func lf) #[] lb,.func (.func sf) #[] sb] 236)).alloc (.cells #[.int .i64 0] 3)) hC) hcB hC.cn (s:=s2) (a:=K) (by omega) hK1 hKn
  have hd4:=fun W (hC:Cnt B (w.heap.size+1) St d s3 _ W)=>zmq S (Cnt.st (w:=(w.alloc (.cells #[.func (.func lf) #[] lb,.func (.func sf) #[] sb] 236)).alloc (.cells #[.int .i64 0] 3)) hC) hcB hC.cn (s:=s3) (a:=i1) (b:=j1) (c:=k1) (by omega) m1.1 m2.1 m3.1
  simp only [e1,e2,e3,e4] at hd1 hd2 hd3 hd4;have H2:=Lib.hid hd2;have H3:=Lib.hid hd3;have H4:=Lib.hid hd4;clear hd2 hd3 hd4 e1 e2 e3 e4 hI hJ hK m1 m2 m3;have c0:=hX0.c0;have c1:=hX0.c1;go_enter Tryz.func186,Tryz.ntmps186;go_wp2_with (first|(refine hd1.mono ?_;rintro e w1 ⟨rfl,hQ1⟩;clear hd1 c0 c1;have hX1:=hX0.to hQ1 hw hg;have hC1:=hC0.trans hQ1;have c0:=hX1.c0;have c1:=hX1.c1;have hd2:=H2.out _ hC1;simp only [])|(refine hd2.mono ?_;rintro e w2 ⟨rfl,hQ2⟩;clear hd2 c0 c1;have hX2:=hX1.to hQ2 hw hg;have hC2:=hC1.trans hQ2;have c0:=hX2.c0;have c1:=hX2.c1;have hd3:=H3.out _ hC2;simp only [])|(refine hd3.mono ?_;rintro e w3 ⟨rfl,hQ3⟩;clear hd3 c0 c1;have hX3:=hX2.to hQ3 hw hg;have hC3:=hC2.trans hQ3;have c0:=hX3.c0;have c1:=hX3.c1;have hd4:=H4.out _ hC3;simp only [])|(refine hd4.mono ?_;rintro e w4 ⟨rfl,hQ4⟩;clear hd4 c0 c1;have hC4:=hC3.trans hQ4;have cc:=hC4.cc;simp only []))
  all_goals
   go_ret2;refine ⟨?_,hC4.done S hw⟩
   first|(rw [hh0 (by (have y:=‹((s:Int) == 0)=true›;simp at y;omega))];rfl)|(rw [hh12 (by (have y:=‹((s:Int) == 12)=true›;simp at y;omega))];rfl)|(rw [hhx (by (have y:=‹((s:Int) == 0)=false›;simp at y;omega)) (by (have y:=‹((s:Int) == 12)=false›;simp at y;omega))];rfl)
 ·have z50:¬ (50:Int)≤(b:Int) - (a:Int):=by omega
  obtain ⟨p,s,e4⟩:∃ p s,median lt d I J K 0=(p,s):=⟨_,_,rfl⟩
  have hr:=he p s (by rw [if_pos h8,if_neg h50];exact e4);rw [hr];clear he hr;obtain ⟨Hc,hHc⟩:∃ Hc:Int,Hc=z89 (if s=0 then Go.Sort.Hint.increasing else if s=12 then .decreasing else .unknown):=⟨_,rfl⟩
  have hh0:s=0→Hc=1:=fun h=>by rw [hHc,z0ml h]
  have hh12:s=12→Hc=2:=fun h=>by rw [hHc,z0g6 (by omega) h]
  have hhx:s≠0→s≠12→Hc=0:=fun h1 h2=>by rw [hHc,z0mm h1 h2]
  show Calls _ _ _ _ fun e w'=>e = .returned (.tuple #[.int .i64 (p:Nat),.int .i64 (z89 (if s=0 then Go.Sort.Hint.increasing else if s=12 then .decreasing else .unknown))])∧_
  rw [← hHc];clear hHc;have hd4:=zmq S hC0.st hcB hC0.cn (s:=0) (a:=I) (b:=J) (c:=K) (by omega) (by omega) (by omega) (by omega);rw [e4] at hd4;clear e4 hI hJ hK;have c0:=hX0.c0;have c1:=hX0.c1;go_enter Tryz.func186,Tryz.ntmps186;go_wp2_with (refine hd4.mono ?_;rintro e w4 ⟨rfl,hQ4⟩;clear hd4 c0 c1;have hC4:=hC0.trans hQ4;have cc:=hC4.cc;simp only [])
  all_goals
   go_ret2;refine ⟨?_,hC4.done S hw⟩
   first|(rw [hh0 (by (have y:=‹((s:Int) == 0)=true›;simp at y;omega))];rfl)|(rw [hh12 (by (have y:=‹((s:Int) == 12)=true›;simp at y;omega))];rfl)|(rw [hhx (by (have y:=‹((s:Int) == 0)=false›;simp at y;omega)) (by (have y:=‹((s:Int) == 12)=false›;simp at y;omega))];rfl)
end
end
section
open Go.RowKit Go.Sort
set_option maxRecDepth 100000
set_option maxHeartbeats 4000000
section
variable {α:Type} [Inhabited α] {lt:α→α→Bool} {n B lf sf:Nat} {lb sb:Array Value} {St:Array α→World→Prop}
theorem z0j0 (p:α→Bool) (d:Array α) (j i:Nat) (h:(decide (i≤j) && p d[i]!)=true):scanUp p d j i=scanUp p d j (i+1):=by rw [scanUp,if_pos h]
theorem z08f (p:α→Bool) (d:Array α) (j i:Nat) (h:(decide (i≤j) && p d[i]!)=false):scanUp p d j i=i:=by rw [scanUp,if_neg (by rw [h];exact zY3g)]
theorem zsv (p:α→Bool) (d:Array α) (i j:Nat) (h0:1≤j) (h:(decide (i≤j) && p d[j]!)=true):scanDown p d i j=scanDown p d i (j - 1):=by
 obtain ⟨k,rfl⟩:∃ k,j=k+1:=⟨j - 1,by omega⟩
 rw [scanDown,if_pos h];rfl
theorem zms (p:α→Bool) (d:Array α) (i j:Nat) (h:(decide (i≤j) && p d[j]!)=false):scanDown p d i j=j:=by
 cases j with
 | zero=>rfl
 | succ k=>rw [scanDown,if_neg (by rw [h];exact zY3g)]
theorem z0ex {a i j i2 j2:Nat} {d:Array α} (h1:scanUp (fun x=>lt x d[a]!) d j i=i2) (h2:scanDown (fun x => !lt x d[a]!) d i2 j=j2) (h:i2≤j2) (hi:i≤i2) (hj:j2≤j) (h0:1≤i2):partLoop lt a i j d=partLoop lt a (i2+1) (j2 - 1) (swp d i2 j2):=by
 rw [partLoop,h1];simp only [h2];rw [if_neg (by omega),dif_pos (by omega)]
theorem z08g {a i j i2 j2:Nat} {d:Array α} (h1:scanUp (fun x=>lt x d[a]!) d j i=i2) (h2:scanDown (fun x => !lt x d[a]!) d i2 j=j2) (h:¬ i2≤j2):partLoop lt a i j d=(j2,d):=by
 rw [partLoop,h1];simp only [h2];rw [if_pos (by omega)]
theorem z0mn {a i j i2 j2:Nat} {d:Array α} (h1:scanUp (fun x => !lt d[a]! x) d j i=i2) (h2:scanDown (fun x=>lt d[a]! x) d i2 j=j2) (h:i2≤j2) (hi:i≤i2) (hj:j2≤j) (h0:1≤i2):partEqLoop lt a i j d=partEqLoop lt a (i2+1) (j2 - 1) (swp d i2 j2):=by
 rw [partEqLoop,h1];simp only [h2];rw [if_neg (by omega),dif_pos (by omega)]
theorem z0j1 {a i j i2 j2:Nat} {d:Array α} (h1:scanUp (fun x => !lt d[a]! x) d j i=i2) (h2:scanDown (fun x=>lt d[a]! x) d i2 j=j2) (h:¬ i2≤j2):partEqLoop lt a i j d=(i2,d):=by
 rw [partEqLoop,h1];simp only [h2];rw [if_pos (by omega)]
theorem z0pk (S:Srt lt n B lf lb sf sb St) {w:World} {d:Array α} (h:St d w) {a b pivot:Nat} (hab:a<b) (hb:b≤n) (hp:pivot<n) :
  Calls Tryz.prog 189 #[.agg #[.func (.func lf) #[] lb,.func (.func sf) #[] sb],.int .i64 a,.int .i64 b,.int .i64 pivot] w fun e w'=>e = .returned (.int .i64 ((partitionEqual lt d a b pivot).1:Nat))∧St (partitionEqual lt d a b pivot).2 w'∧Fwd B w w':=by
 have hw:=S.base h;have hO:=On.start S h;have hbig:=S.big;have eg:=S.enters;have c1:=hO.c1;obtain ⟨w2,hs,hV⟩:=hO.swap S hw (i:=a) (j:=pivot) (x:=a) (y:=pivot) (by omega) (by omega) rfl rfl;have HS:=Lib.hid hs;clear hs;go_enter Tryz.func189,Tryz.ntmps189;go_wp2_with (rw [HS.out,Oper.upon_value]);clear hO c1 HS;go_loopg [9,10] b (fun kx vi vj wr=>∃ (i j:Nat) (dk:Array α),vi = .int .i64 i∧vj = .int .i64 j∧a+1≤i∧i≤n∧j<b∧j<kx∧On B lf lb sf sb St w dk wr∧Hid (partEqLoop lt a i j dk=partEqLoop lt a (a+1) (b - 1) (swp d a pivot)))
 case atStart=>exact ⟨a+1,b - 1,_,by go_num,by go_num,by omega,by omega,by omega,by omega,hV,rfl⟩
 case round =>
  obtain ⟨i,j,dk,rfl,rfl,hai,hin,hjb,hkx,hW,HO⟩:=hrel;clear hV;go_wp2;go_loopg [9] (n+1) (fun kx v wr=>∃ i2:Nat,v = .int .i64 i2∧i≤i2∧i2≤n∧n - i2<kx∧On B lf lb sf sb St w dk wr∧Hid (scanUp (fun x => !lt dk[a]! x) dk j i2=scanUp (fun x => !lt dk[a]! x) dk j (i)))
  case atStart=>exact ⟨i,rfl,by omega,by omega,by omega,hW,rfl⟩
  case round =>
   obtain ⟨i2,rfl,hi20,hi21,hki2,hi2W,Hi2⟩:=hrel;clear hW;have c0:=hi2W.c0;go_upto_region 3 with fail
   go_cut [30] (fun c wx=>c = .bool (decide (i2≤j) && (fun x => !lt dk[a]! x) dk[i2]!)∧On B lf lb sf sb St w dk wx)
   case first =>
    by_cases hz:i2≤j
    ·have hzz:(i2:Int)≤((j:Nat):Int):=by omega
     cases hl:lt dk[a]! dk[i2]! with
     | true =>
      have hc:=hi2W.less S hw (i:=a) (j:=i2) (x:=a) (y:=i2) (by omega) (by omega) rfl rfl hl;have HL:=Lib.hid hl;clear hl;go_wp2_with (refine hc.mono ?_;rintro e w1 ⟨rfl,hU⟩;simp only [];clear hc);go_meet;exact ⟨by rw [decide_eq_true hz];show _=Value.bool (true && !lt dk[a]! dk[i2]!);rw [HL.out];rfl,hU⟩
     | false =>
      have hc:=hi2W.less S hw (i:=a) (j:=i2) (x:=a) (y:=i2) (by omega) (by omega) rfl rfl hl;have HL:=Lib.hid hl;clear hl;go_wp2_with (refine hc.mono ?_;rintro e w1 ⟨rfl,hU⟩;simp only [];clear hc);go_meet;exact ⟨by rw [decide_eq_true hz];show _=Value.bool (true && !lt dk[a]! dk[i2]!);rw [HL.out];rfl,hU⟩
    ·have hzz:¬ (i2:Int)≤((j:Nat):Int):=by omega
     go_wp2_with fail;go_meet;exact ⟨by rw [decide_eq_false hz];rfl,hi2W⟩
   case rest =>
    obtain ⟨rfl,hi2X⟩:=hcut;clear hi2W c0
    cases hb:(decide (i2≤j) && (fun x => !lt dk[a]! x) dk[i2]!) with
    | true =>
     have HB:=Lib.hid hb;have hi2J:i2≤j:=by (rw [zY0d] at hb;exact of_decide_eq_true hb.1)
     clear hb;go_wp2;go_roundg (n - i2)
     case measure=>omega
     case rel=>exact ⟨i2+1,by go_num,by omega,by omega,by omega,hi2X,by show Hid _;rw [← Hi2.out,z0j0 (fun x => !lt dk[a]! x) dk (j) i2 HB.out];exact rfl⟩
    | false =>
     have Ei2:Hid (scanUp (fun x => !lt dk[a]! x) dk j (i)=i2):=by (show _=_;rw [← Hi2.out,z08f (fun x => !lt dk[a]! x) dk (j) i2 hb])
     clear hb Hi2;go_wp2;go_loopg [10] (j+1) (fun ky v wr=>∃ j2:Nat,v = .int .i64 j2∧j2≤j∧j2<ky∧On B lf lb sf sb St w dk wr∧Hid (scanDown (fun x=>lt dk[a]! x) dk i2 j2=scanDown (fun x=>lt dk[a]! x) dk i2 (j)))
     case atStart=>exact ⟨j,rfl,zY0k _,zY29 _,hi2X,rfl⟩
     case round =>
      obtain ⟨j2,rfl,hj20,hkj2,hj2W,Hj2⟩:=hrel;clear hi2X;have c0:=hj2W.c0;go_upto_region 5 with fail
      go_cut [42] (fun c wx=>c = .bool (decide (i2≤j2) && (fun x=>lt dk[a]! x) dk[j2]!)∧On B lf lb sf sb St w dk wx)
      case first =>
       by_cases hz:i2≤j2
       ·have hzz:(i2:Int)≤(j2:Int):=by omega
        cases hl:lt dk[a]! dk[j2]! with
        | true =>
         have hc:=hj2W.less S hw (i:=a) (j:=j2) (x:=a) (y:=j2) (by omega) (by omega) rfl rfl hl;have HL:=Lib.hid hl;clear hl;go_wp2_with (refine hc.mono ?_;rintro e w1 ⟨rfl,hU⟩;simp only [];clear hc);go_meet;exact ⟨by rw [decide_eq_true hz];show _=Value.bool (true && lt dk[a]! dk[j2]!);rw [HL.out];rfl,hU⟩
        | false =>
         have hc:=hj2W.less S hw (i:=a) (j:=j2) (x:=a) (y:=j2) (by omega) (by omega) rfl rfl hl;have HL:=Lib.hid hl;clear hl;go_wp2_with (refine hc.mono ?_;rintro e w1 ⟨rfl,hU⟩;simp only [];clear hc);go_meet;exact ⟨by rw [decide_eq_true hz];show _=Value.bool (true && lt dk[a]! dk[j2]!);rw [HL.out];rfl,hU⟩
       ·have hzz:¬ (i2:Int)≤(j2:Int):=by omega
        go_wp2_with fail;go_meet;exact ⟨by rw [decide_eq_false hz];rfl,hj2W⟩
      case rest =>
       obtain ⟨rfl,hj2X⟩:=hcut;clear hj2W c0
       cases hb:(decide (i2≤j2) && (fun x=>lt dk[a]! x) dk[j2]!) with
       | true =>
        have HB:=Lib.hid hb;have hj2J:i2≤j2:=by (rw [zY0d] at hb;exact of_decide_eq_true hb.1)
        clear hb;go_wp2;go_roundg j2
        case measure=>omega
        case rel=>exact ⟨j2 - 1,by go_num,by omega,by omega,hj2X,by show Hid _;rw [← Hj2.out,zsv (fun x=>lt dk[a]! x) dk i2 j2 (by omega) HB.out];exact rfl⟩
       | false =>
        have Ej2:Hid (scanDown (fun x=>lt dk[a]! x) dk i2 (j)=j2):=by (show _=_;rw [← Hj2.out,zms (fun x=>lt dk[a]! x) dk i2 j2 hb])
        clear hb Hj2
        by_cases hz:i2≤j2
        ·have hzz:¬ ((j2:Nat):Int)<(i2:Int):=by omega
         have c1:=hj2X.c1;obtain ⟨w2,hs,hV⟩:=hj2X.swap S hw (i:=i2) (j:=j2) (x:=i2) (y:=j2) (by omega) (by omega) rfl rfl;have HS:=Lib.hid hs;clear hs;go_wp2_with (rw [HS.out,Oper.upon_value]);go_roundg j
         case measure=>omega
         case rel=>exact ⟨i2+1,j2 - 1,_,by go_num,by go_num,by omega,by omega,by omega,by omega,hV,by show Hid _;rw [← HO.out,z0mn Ei2.out Ej2.out hz (by omega) (by omega) (by omega)];exact rfl⟩
        ·have hzz:((j2:Nat):Int)<(i2:Int):=by omega
         go_wp2;go_ret;have hv:partEqLoop lt a (a+1) (b - 1) (swp d a pivot)=(i2,dk):=by rw [← HO.out];exact z0j1 Ei2.out Ej2.out hz
         refine ⟨?_,?_,hj2X.fwd⟩
         ·unfold partitionEqual;rw [hv];rfl
         ·unfold partitionEqual;rw [hv];exact hj2X.st
theorem z0pl (lt:α→α→Bool) (d:Array α) (a b p:Nat) {i j:Nat} (h1:scanUp (fun x=>lt x (swp d a p)[a]!) (swp d a p) (b - 1) (a+1)=i) (h2:scanDown (fun x => !lt x (swp d a p)[a]!) (swp d a p) i (b - 1)=j) (h:¬ i≤j):partition lt d a b p=(j,true,swp (swp d a p) j a):=by
 unfold partition;simp only [h1,h2];rw [if_pos (by omega)]
theorem z0sj (lt:α→α→Bool) (d:Array α) (a b p:Nat) {i j:Nat} (h1:scanUp (fun x=>lt x (swp d a p)[a]!) (swp d a p) (b - 1) (a+1)=i) (h2:scanDown (fun x => !lt x (swp d a p)[a]!) (swp d a p) i (b - 1)=j) (h:i≤j):partition lt d a b p=((partLoop lt a (i+1) (j - 1) (swp (swp d a p) i j)).1,false,swp (partLoop lt a (i+1) (j - 1) (swp (swp d a p) i j)).2 (partLoop lt a (i+1) (j - 1) (swp (swp d a p) i j)).1 a):=by
 unfold partition;simp only [h1,h2];rw [if_neg (by omega)]
theorem z0ur (S:Srt lt n B lf lb sf sb St) {w:World} {d:Array α} (h:St d w) {a b pivot:Nat} (hab:a<b) (hb:b≤n) (hp:pivot<n) :
  Calls Tryz.prog 190 #[.agg #[.func (.func lf) #[] lb,.func (.func sf) #[] sb],.int .i64 a,.int .i64 b,.int .i64 pivot] w fun e w'=>e = .returned (.tuple #[.int .i64 ((partition lt d a b pivot).1:Nat),.bool (partition lt d a b pivot).2.1])∧St (partition lt d a b pivot).2.2 w'∧Fwd B w w':=by
 have hw:=S.base h;have hO:=On.start S h;have hbig:=S.big;have eg:=S.enters;have c1:=hO.c1;obtain ⟨w2,hs,hV⟩:=hO.swap S hw (i:=a) (j:=pivot) (x:=a) (y:=pivot) (by omega) (by omega) rfl rfl;have HS:=Lib.hid hs;clear hs;go_enter Tryz.func190,Tryz.ntmps190;go_wp2_with (rw [HS.out,Oper.upon_value]);clear hO c1 HS;go_loopg [10] (n+1) (fun kx v wr=>∃ i0:Nat,v = .int .i64 i0∧(a+1)≤i0∧i0≤n∧n - i0<kx∧On B lf lb sf sb St w (swp d a pivot) wr∧Hid (scanUp (fun x=>lt x (swp d a pivot)[a]!) (swp d a pivot) (b - 1) i0=scanUp (fun x=>lt x (swp d a pivot)[a]!) (swp d a pivot) (b - 1) ((a+1))))
 case atStart=>exact ⟨(a+1),by go_num,by omega,by omega,by omega,hV,rfl⟩
 case round =>
  obtain ⟨i0,rfl,hi00,hi01,hki0,hi0W,Hi0⟩:=hrel;clear hV;have c0:=hi0W.c0;go_upto_region 3 with fail
  go_cut [30] (fun c wx=>c = .bool (decide (i0≤(b - 1)) && (fun x=>lt x (swp d a pivot)[a]!) (swp d a pivot)[i0]!)∧On B lf lb sf sb St w (swp d a pivot) wx)
  case first =>
   by_cases hz:i0≤(b - 1)
   ·have hzz:(i0:Int)≤(((b - 1):Nat):Int):=by omega
    cases hl:lt (swp d a pivot)[i0]! (swp d a pivot)[a]! with
    | true =>
     have hc:=hi0W.less S hw (i:=i0) (j:=a) (x:=i0) (y:=a) (by omega) (by omega) rfl rfl hl;have HL:=Lib.hid hl;clear hl;go_wp2_with (refine hc.mono ?_;rintro e w1 ⟨rfl,hU⟩;simp only [];clear hc);go_meet;exact ⟨by rw [decide_eq_true hz];show _=Value.bool (true && lt (swp d a pivot)[i0]! (swp d a pivot)[a]!);rw [HL.out];rfl,hU⟩
    | false =>
     have hc:=hi0W.less S hw (i:=i0) (j:=a) (x:=i0) (y:=a) (by omega) (by omega) rfl rfl hl;have HL:=Lib.hid hl;clear hl;go_wp2_with (refine hc.mono ?_;rintro e w1 ⟨rfl,hU⟩;simp only [];clear hc);go_meet;exact ⟨by rw [decide_eq_true hz];show _=Value.bool (true && lt (swp d a pivot)[i0]! (swp d a pivot)[a]!);rw [HL.out];rfl,hU⟩
   ·have hzz:¬ (i0:Int)≤(((b - 1):Nat):Int):=by omega
    go_wp2_with fail;go_meet;exact ⟨by rw [decide_eq_false hz];rfl,hi0W⟩
  case rest =>
   obtain ⟨rfl,hi0X⟩:=hcut;clear hi0W c0
   cases hb:(decide (i0≤(b - 1)) && (fun x=>lt x (swp d a pivot)[a]!) (swp d a pivot)[i0]!) with
   | true =>
    have HB:=Lib.hid hb;have hi0J:i0≤(b - 1):=by (rw [zY0d] at hb;exact of_decide_eq_true hb.1)
    clear hb;go_wp2;go_roundg (n - i0)
    case measure=>omega
    case rel=>exact ⟨i0+1,by go_num,by omega,by omega,by omega,hi0X,by show Hid _;rw [← Hi0.out,z0j0 (fun x=>lt x (swp d a pivot)[a]!) (swp d a pivot) ((b - 1)) i0 HB.out];exact rfl⟩
   | false =>
    have Ei0:Hid (scanUp (fun x=>lt x (swp d a pivot)[a]!) (swp d a pivot) (b - 1) ((a+1))=i0):=by (show _=_;rw [← Hi0.out,z08f (fun x=>lt x (swp d a pivot)[a]!) (swp d a pivot) ((b - 1)) i0 hb])
    clear hb Hi0;go_wp2;go_loopg [11] ((b - 1)+1) (fun ky v wr=>∃ j0:Nat,v = .int .i64 j0∧j0≤(b - 1)∧j0<ky∧On B lf lb sf sb St w (swp d a pivot) wr∧Hid (scanDown (fun x => !lt x (swp d a pivot)[a]!) (swp d a pivot) i0 j0=scanDown (fun x => !lt x (swp d a pivot)[a]!) (swp d a pivot) i0 ((b - 1))))
    case atStart=>exact ⟨(b - 1),by go_num,zY0k _,zY29 _,hi0X,rfl⟩
    case round =>
     obtain ⟨j0,rfl,hj00,hkj0,hj0W,Hj0⟩:=hrel;clear hi0X;have c0:=hj0W.c0;go_upto_region 5 with fail
     go_cut [43] (fun c wx=>c = .bool (decide (i0≤j0) && (fun x => !lt x (swp d a pivot)[a]!) (swp d a pivot)[j0]!)∧On B lf lb sf sb St w (swp d a pivot) wx)
     case first =>
      by_cases hz:i0≤j0
      ·have hzz:(i0:Int)≤(j0:Int):=by omega
       cases hl:lt (swp d a pivot)[j0]! (swp d a pivot)[a]! with
       | true =>
        have hc:=hj0W.less S hw (i:=j0) (j:=a) (x:=j0) (y:=a) (by omega) (by omega) rfl rfl hl;have HL:=Lib.hid hl;clear hl;go_wp2_with (refine hc.mono ?_;rintro e w1 ⟨rfl,hU⟩;simp only [];clear hc);go_meet;exact ⟨by rw [decide_eq_true hz];show _=Value.bool (true && !lt (swp d a pivot)[j0]! (swp d a pivot)[a]!);rw [HL.out];rfl,hU⟩
       | false =>
        have hc:=hj0W.less S hw (i:=j0) (j:=a) (x:=j0) (y:=a) (by omega) (by omega) rfl rfl hl;have HL:=Lib.hid hl;clear hl;go_wp2_with (refine hc.mono ?_;rintro e w1 ⟨rfl,hU⟩;simp only [];clear hc);go_meet;exact ⟨by rw [decide_eq_true hz];show _=Value.bool (true && !lt (swp d a pivot)[j0]! (swp d a pivot)[a]!);rw [HL.out];rfl,hU⟩
      ·have hzz:¬ (i0:Int)≤(j0:Int):=by omega
       go_wp2_with fail;go_meet;exact ⟨by rw [decide_eq_false hz];rfl,hj0W⟩
     case rest =>
      obtain ⟨rfl,hj0X⟩:=hcut;clear hj0W c0
      cases hb:(decide (i0≤j0) && (fun x => !lt x (swp d a pivot)[a]!) (swp d a pivot)[j0]!) with
      | true =>
       have HB:=Lib.hid hb;have hj0J:i0≤j0:=by (rw [zY0d] at hb;exact of_decide_eq_true hb.1)
       clear hb;go_wp2;go_roundg j0
       case measure=>omega
       case rel=>exact ⟨j0 - 1,by go_num,by omega,by omega,hj0X,by show Hid _;rw [← Hj0.out,zsv (fun x => !lt x (swp d a pivot)[a]!) (swp d a pivot) i0 j0 (by omega) HB.out];exact rfl⟩
      | false =>
       have Ej0:Hid (scanDown (fun x => !lt x (swp d a pivot)[a]!) (swp d a pivot) i0 ((b - 1))=j0):=by (show _=_;rw [← Hj0.out,zms (fun x => !lt x (swp d a pivot)[a]!) (swp d a pivot) i0 j0 hb])
       clear hb Hj0;have HV:Hid _:=z0sj lt d a b pivot Ei0.out Ej0.out
       by_cases hz:i0≤j0
       ·have hzz:¬ ((j0:Nat):Int)<(i0:Int):=by omega
        have hz0:Hid (i0≤j0):=hz;have c1:=hj0X.c1;obtain ⟨w2,hs,hV⟩:=hj0X.swap S hw (i:=i0) (j:=j0) (x:=i0) (y:=j0) (by omega) (by omega) rfl rfl;have HS:=Lib.hid hs;clear hs;go_wp2_with (rw [HS.out,Oper.upon_value]);clear hj0X c1 HS Ei0 Ej0;go_loopg [10,11] b (fun kx vi vj wr=>∃ (i j:Nat) (dk:Array α),vi = .int .i64 i∧vj = .int .i64 j∧a+1≤i∧i≤n∧j<b∧j<kx∧On B lf lb sf sb St w dk wr∧Hid (partLoop lt a i j dk=partLoop lt a (i0+1) (j0 - 1) (swp (swp d a pivot) i0 j0)))
        case atStart=>exact ⟨i0+1,j0 - 1,_,by go_num,by go_num,by omega,by omega,by omega,by omega,hV,rfl⟩
        case round =>
         obtain ⟨i,j,dk,rfl,rfl,hai,hin,hjb,hkx,hW,HO⟩:=hrel;clear hV;go_wp2;go_loopg [10] (n+1) (fun kx v wr=>∃ i2:Nat,v = .int .i64 i2∧i≤i2∧i2≤n∧n - i2<kx∧On B lf lb sf sb St w dk wr∧Hid (scanUp (fun x=>lt x dk[a]!) dk j i2=scanUp (fun x=>lt x dk[a]!) dk j (i)))
         case atStart=>exact ⟨i,rfl,by omega,by omega,by omega,hW,rfl⟩
         case round =>
          obtain ⟨i2,rfl,hi20,hi21,hki2,hi2W,Hi2⟩:=hrel;clear hW;have c0:=hi2W.c0;go_upto_region 13 with fail
          go_cut [73] (fun c wx=>c = .bool (decide (i2≤j) && (fun x=>lt x dk[a]!) dk[i2]!)∧On B lf lb sf sb St w dk wx)
          case first =>
           by_cases hz:i2≤j
           ·have hzz:(i2:Int)≤((j:Nat):Int):=by omega
            cases hl:lt dk[i2]! dk[a]! with
            | true =>
             have hc:=hi2W.less S hw (i:=i2) (j:=a) (x:=i2) (y:=a) (by omega) (by omega) rfl rfl hl;have HL:=Lib.hid hl;clear hl;go_wp2_with (refine hc.mono ?_;rintro e w1 ⟨rfl,hU⟩;simp only [];clear hc);go_meet;exact ⟨by rw [decide_eq_true hz];show _=Value.bool (true && lt dk[i2]! dk[a]!);rw [HL.out];rfl,hU⟩
            | false =>
             have hc:=hi2W.less S hw (i:=i2) (j:=a) (x:=i2) (y:=a) (by omega) (by omega) rfl rfl hl;have HL:=Lib.hid hl;clear hl;go_wp2_with (refine hc.mono ?_;rintro e w1 ⟨rfl,hU⟩;simp only [];clear hc);go_meet;exact ⟨by rw [decide_eq_true hz];show _=Value.bool (true && lt dk[i2]! dk[a]!);rw [HL.out];rfl,hU⟩
           ·have hzz:¬ (i2:Int)≤((j:Nat):Int):=by omega
            go_wp2_with fail;go_meet;exact ⟨by rw [decide_eq_false hz];rfl,hi2W⟩
          case rest =>
           obtain ⟨rfl,hi2X⟩:=hcut;clear hi2W c0
           cases hb:(decide (i2≤j) && (fun x=>lt x dk[a]!) dk[i2]!) with
           | true =>
            have HB:=Lib.hid hb;have hi2J:i2≤j:=by (rw [zY0d] at hb;exact of_decide_eq_true hb.1)
            clear hb;go_wp2;go_roundg (n - i2)
            case measure=>omega
            case rel=>exact ⟨i2+1,by go_num,by omega,by omega,by omega,hi2X,by show Hid _;rw [← Hi2.out,z0j0 (fun x=>lt x dk[a]!) dk (j) i2 HB.out];exact rfl⟩
           | false =>
            have Ei2:Hid (scanUp (fun x=>lt x dk[a]!) dk j (i)=i2):=by (show _=_;rw [← Hi2.out,z08f (fun x=>lt x dk[a]!) dk (j) i2 hb])
            clear hb Hi2;go_wp2;go_loopg [11] (j+1) (fun ky v wr=>∃ j2:Nat,v = .int .i64 j2∧j2≤j∧j2<ky∧On B lf lb sf sb St w dk wr∧Hid (scanDown (fun x => !lt x dk[a]!) dk i2 j2=scanDown (fun x => !lt x dk[a]!) dk i2 (j)))
            case atStart=>exact ⟨j,rfl,zY0k _,zY29 _,hi2X,rfl⟩
            case round =>
             obtain ⟨j2,rfl,hj20,hkj2,hj2W,Hj2⟩:=hrel;clear hi2X;have c0:=hj2W.c0;go_upto_region 15 with fail
             go_cut [86] (fun c wx=>c = .bool (decide (i2≤j2) && (fun x => !lt x dk[a]!) dk[j2]!)∧On B lf lb sf sb St w dk wx)
             case first =>
              by_cases hz:i2≤j2
              ·have hzz:(i2:Int)≤(j2:Int):=by omega
               cases hl:lt dk[j2]! dk[a]! with
               | true =>
                have hc:=hj2W.less S hw (i:=j2) (j:=a) (x:=j2) (y:=a) (by omega) (by omega) rfl rfl hl;have HL:=Lib.hid hl;clear hl;go_wp2_with (refine hc.mono ?_;rintro e w1 ⟨rfl,hU⟩;simp only [];clear hc);go_meet;exact ⟨by rw [decide_eq_true hz];show _=Value.bool (true && !lt dk[j2]! dk[a]!);rw [HL.out];rfl,hU⟩
               | false =>
                have hc:=hj2W.less S hw (i:=j2) (j:=a) (x:=j2) (y:=a) (by omega) (by omega) rfl rfl hl;have HL:=Lib.hid hl;clear hl;go_wp2_with (refine hc.mono ?_;rintro e w1 ⟨rfl,hU⟩;simp only [];clear hc);go_meet;exact ⟨by rw [decide_eq_true hz];show _=Value.bool (true && !lt dk[j2]! dk[a]!);rw [HL.out];rfl,hU⟩
              ·have hzz:¬ (i2:Int)≤(j2:Int):=by omega
               go_wp2_with fail;go_meet;exact ⟨by rw [decide_eq_false hz];rfl,hj2W⟩
             case rest =>
              obtain ⟨rfl,hj2X⟩:=hcut;clear hj2W c0
              cases hb:(decide (i2≤j2) && (fun x => !lt x dk[a]!) dk[j2]!) with
              | true =>
               have HB:=Lib.hid hb;have hj2J:i2≤j2:=by (rw [zY0d] at hb;exact of_decide_eq_true hb.1)
               clear hb;go_wp2;go_roundg j2
               case measure=>omega
               case rel=>exact ⟨j2 - 1,by go_num,by omega,by omega,hj2X,by show Hid _;rw [← Hj2.out,zsv (fun x => !lt x dk[a]!) dk i2 j2 (by omega) HB.out];exact rfl⟩
              | false =>
               have Ej2:Hid (scanDown (fun x => !lt x dk[a]!) dk i2 (j)=j2):=by (show _=_;rw [← Hj2.out,zms (fun x => !lt x dk[a]!) dk i2 j2 hb])
               clear hb Hj2
               by_cases hz:i2≤j2
               ·have hzz:¬ ((j2:Nat):Int)<(i2:Int):=by omega
                have c1:=hj2X.c1;obtain ⟨w2,hs,hV⟩:=hj2X.swap S hw (i:=i2) (j:=j2) (x:=i2) (y:=j2) (by omega) (by omega) rfl rfl;have HS:=Lib.hid hs;clear hs;go_wp2_with (rw [HS.out,Oper.upon_value]);go_roundg j
                case measure=>omega
                case rel=>exact ⟨i2+1,j2 - 1,_,by go_num,by go_num,by omega,by omega,by omega,by omega,hV,by show Hid _;rw [← HO.out,z0ex Ei2.out Ej2.out hz (by omega) (by omega) (by omega)];exact rfl⟩
               ·have hzz:((j2:Nat):Int)<(i2:Int):=by omega
                have c1:=hj2X.c1;obtain ⟨w2,hs,hV⟩:=hj2X.swap S hw (i:=j2) (j:=a) (x:=j2) (y:=a) (by omega) (by omega) rfl rfl;have HS:=Lib.hid hs;clear hs;go_wp2_with (rw [HS.out,Oper.upon_value]);go_ret2;have hv:partLoop lt a (i0+1) (j0 - 1) (swp (swp d a pivot) i0 j0)=(j2,dk):=by rw [← HO.out];exact z08g Ei2.out Ej2.out hz
                rw [HV.out hz0.out,hv];exact ⟨rfl,hV.st,hV.fwd⟩
       ·have hzz:((j0:Nat):Int)<(i0:Int):=by omega
        have c1:=hj0X.c1;obtain ⟨w2,hs,hV⟩:=hj0X.swap S hw (i:=j0) (j:=a) (x:=j0) (y:=a) (by omega) (by omega) rfl rfl;have HS:=Lib.hid hs;clear hs;go_wp2_with (rw [HS.out,Oper.upon_value]);go_ret2;rw [z0pl lt d a b pivot Ei0.out Ej0.out hz];exact ⟨rfl,hV.st,hV.fwd⟩
end
end
section
open Go.RowKit Go.Sort
set_option maxRecDepth 100000
set_option maxHeartbeats 4000000
section
variable {α:Type} [Inhabited α] {lt:α→α→Bool} {n B lf sf:Nat} {lb sb:Array Value} {St:Array α→World→Prop}
theorem z0pm (d:Array α) (b i:Nat) (h:(decide (i<b) && !lt d[i]! d[i - 1]!)=true):scanSorted lt d b i=scanSorted lt d b (i+1):=by rw [scanSorted,if_pos h]
theorem z0mo (d:Array α) (b i:Nat) (h:(decide (i<b) && !lt d[i]! d[i - 1]!)=false):scanSorted lt d b i=i:=by rw [scanSorted,if_neg (by rw [h];exact zY3g)]
theorem z0mp (d:Array α) (j:Nat) (h:j≠0) (hl:lt d[j]! d[j - 1]! = true):shiftDown lt j d=shiftDown lt (j - 1) (swp d j (j - 1)):=by
 obtain ⟨k,rfl⟩:∃ k,j=k+1:=⟨j - 1,by omega⟩
 simp only [zY2z] at hl ⊢;rw [shiftDown,hl];rfl
theorem zqk (d:Array α) (j:Nat) (h:j=0∨lt d[j]! d[j - 1]! = false):shiftDown lt j d=d:=by
 cases j with
 | zero=>rfl
 | succ k =>
  rcases h with h|h
  ·omega
  ·simp only [zY2z] at h
   rw [shiftDown,h];rfl
theorem z0mq (d:Array α) (b j:Nat) (h:j<b) (hl:lt d[j]! d[j - 1]! = true):shiftUp lt b j d=shiftUp lt b (j+1) (swp d j (j - 1)):=by
 rw [shiftUp,if_pos h,hl];rfl
theorem zql (d:Array α) (b j:Nat) (h:¬ j<b∨lt d[j]! d[j - 1]! = false):shiftUp lt b j d=d:=by
 rw [shiftUp]
 by_cases hj:j<b
 ·rcases h with h|h
  ·exact absurd hj h
  ·rw [if_pos hj,h];rfl
 ·rw [if_neg hj]
theorem z0sk {a b s i:Nat} {d:Array α} (h0:s≠0) (h:scanSorted lt d b i=b):partialIns lt a b s i d=(d,true):=by
 obtain ⟨t,rfl⟩:∃ t,s=t+1:=⟨s - 1,by omega⟩
 rw [partialIns];simp only [h,if_true]
theorem z0pn {a b s i i2:Nat} {d:Array α} (h0:s≠0) (h:scanSorted lt d b i=i2) (h1:i2≠b) (h2:b - a<50):partialIns lt a b s i d=(d,false):=by
 obtain ⟨t,rfl⟩:∃ t,s=t+1:=⟨s - 1,by omega⟩
 rw [partialIns];simp only [h];rw [if_neg h1,if_pos h2]
theorem z0qh {a b s i i2:Nat} {d:Array α} (h0:s≠0) (h:scanSorted lt d b i=i2) (h1:i2≠b) (h2:¬ b - a<50) {d3 d4:Array α} (h3:(if i2 - a ≥ 2 then shiftDown lt (i2 - 1) (swp d i2 (i2 - 1)) else swp d i2 (i2 - 1))=d3) (h4:(if b - i2 ≥ 2 then shiftUp lt b (i2+1) d3 else d3)=d4):partialIns lt a b s i d=partialIns lt a b (s - 1) i2 d4:=by
 obtain ⟨t,rfl⟩:∃ t,s=t+1:=⟨s - 1,by omega⟩
 rw [partialIns];simp only [h];rw [if_neg h1,if_neg h2,h3,h4];rfl
theorem z0mr (S:Srt lt n B lf lb sf sb St) {w:World} {d:Array α} (h:St d w) {a b:Nat} (hab:a<b) (hb:b≤n) :
  Calls Tryz.prog 188 #[.agg #[.func (.func lf) #[] lb,.func (.func sf) #[] sb],.int .i64 a,.int .i64 b] w fun e w'=>e = .returned (.bool (partialInsertionSort lt d a b).2)∧St (partialInsertionSort lt d a b).1 w'∧Fwd B w w':=by
 have hw:=S.base h;have hO:=On.start S h;have hbig:=S.big;have eg:=S.enters;unfold partialInsertionSort;go_enter Tryz.func188,Tryz.ntmps188;go_wp2;go_loopg [7,8] 6 (fun kx vi vs wr=>∃ (s i:Nat) (dk:Array α),vi = .int .i64 i∧vs = .int .i64 (5 - (s:Int))∧s≤5∧s<kx∧a+1≤i∧i≤b∧On B lf lb sf sb St w dk wr∧Hid (partialIns lt a b s i dk=partialIns lt a b 5 (a+1) d))
 case atStart=>exact ⟨5,a+1,d,by go_num,by go_num,zY0k _,by omega,zY0k _,by omega,hO,rfl⟩
 case round =>
  obtain ⟨s,i,dk,rfl,rfl,hs5,hsk,hai,hib,hW,HO⟩:=hrel;clear hO
  by_cases h0:s=0
  ·have hz:¬ (5:Int) - (s:Int)<5:=by omega
   go_wp2;go_ret;subst h0;rw [← HO.out];exact ⟨by rfl,hW.st,hW.fwd⟩
  have hz:(5:Int) - (s:Int)<5:=by omega
  go_wp2;go_loopg [7] (b+1) (fun ky v wr=>∃ i2:Nat,v = .int .i64 i2∧i≤i2∧i2≤b∧b - i2<ky∧On B lf lb sf sb St w dk wr∧Hid (scanSorted lt dk b i2=scanSorted lt dk b i))
  case atStart=>exact ⟨i,rfl,zY0k _,hib,by omega,hW,rfl⟩
  case round =>
   obtain ⟨i2,rfl,hi0,hi1,hky,hW2,HI⟩:=hrel;clear hW;have c0:=hW2.c0;go_upto_region 5 with fail
   go_cut [28] (fun c wx=>c = .bool (decide (i2<b) && !lt dk[i2]! dk[i2 - 1]!)∧On B lf lb sf sb St w dk wx)
   case first =>
    by_cases h1:i2<b
    ·have h1z:(i2:Int)<(b:Int):=by omega
     cases hl:lt dk[i2]! dk[i2 - 1]! with
     | true =>
      have hc:=hW2.less S hw (i:=i2) (j:=i2 - 1) (x:=i2) (y:=(i2:Int) - 1) (by omega) (by omega) rfl (by omega) hl;have HL:=Lib.hid hl;clear hl;go_wp2_with (refine hc.mono ?_;rintro e w1 ⟨rfl,hU⟩;simp only [];clear hc);go_meet;exact ⟨by rw [decide_eq_true h1,HL.out];rfl,hU⟩
     | false =>
      have hc:=hW2.less S hw (i:=i2) (j:=i2 - 1) (x:=i2) (y:=(i2:Int) - 1) (by omega) (by omega) rfl (by omega) hl;have HL:=Lib.hid hl;clear hl;go_wp2_with (refine hc.mono ?_;rintro e w1 ⟨rfl,hU⟩;simp only [];clear hc);go_meet;exact ⟨by rw [decide_eq_true h1,HL.out];rfl,hU⟩
    ·have h1z:¬ (i2:Int)<(b:Int):=by omega
     go_wp2_with fail;go_meet;exact ⟨by rw [decide_eq_false h1];rfl,hW2⟩
   case rest =>
    obtain ⟨rfl,hX⟩:=hcut;clear hW2 c0
    cases hb2:(decide (i2<b) && !lt dk[i2]! dk[i2 - 1]!) with
    | true =>
     have HB:=Lib.hid hb2;have h1:i2<b:=by (rw [zY0d] at hb2;exact of_decide_eq_true hb2.1)
     clear hb2;go_wp2;go_roundg (b - i2)
     case measure=>omega
     case rel=>exact ⟨i2+1,by go_num,by omega,by omega,by omega,hX,by show Hid _;rw [← HI.out,z0pm dk b i2 HB.out];exact rfl⟩
    | false =>
     have EI:Hid (scanSorted lt dk b i=i2):=by (show _=_;rw [← HI.out,z0mo dk b i2 hb2])
     clear hb2 HI
     by_cases hib2:i2=b
     ·have hq:((i2:Int) == (b:Int))=true:=by rw [hib2];simp
      have hq':(i2:Int)=(b:Int):=by omega
      go_wp2;go_ret;have hv:=z0sk (lt:=lt) (a:=a) h0 (EI.out.trans hib2);rw [← HO.out,hv];exact ⟨rfl,hX.st,hX.fwd⟩
     have hq:((i2:Int) == (b:Int))=false:=by simp;omega
     have hq':¬ (i2:Int)=(b:Int):=by omega
     by_cases h50:b - a<50
     ·have h50z:(b:Int) - (a:Int)<50:=by omega
      go_wp2;go_ret;have hv:=z0pn (lt:=lt) (a:=a) h0 EI.out hib2 h50;rw [← HO.out,hv];exact ⟨rfl,hX.st,hX.fwd⟩
     have h50z:¬ (b:Int) - (a:Int)<50:=by omega
     have c1:=hX.c1;obtain ⟨w2,hs,hV⟩:=hX.swap S hw (i:=i2) (j:=i2 - 1) (x:=i2) (y:=(i2:Int) - 1) (by omega) (by omega) rfl (by omega);have HS:=Lib.hid hs;have HIB:=Lib.hid hib2;have H50:=Lib.hid h50;clear hs hib2;have hlt:i2<b:=by have:=HIB.out;omega
     go_upto_if 47 with (rw [HS.out,Oper.upon_value])
     clear hX c1 HS;go_cut [] (fun wx=>∃ dj,On B lf lb sf sb St w dj wx∧Hid ((if i2 - a ≥ 2 then shiftDown lt (i2 - 1) (swp dk i2 (i2 - 1)) else swp dk i2 (i2 - 1))=dj))
     case first =>
      by_cases h2:i2 - a ≥ 2
      ·have h2z:(2:Int)≤(i2:Int) - (a:Int):=by omega
       go_wp2;go_loopg [9] i2 (fun kz v wr=>∃ (j:Nat) (dj:Array α),v = .int .i64 j∧j≤i2 - 1∧j<kz∧On B lf lb sf sb St w dj wr∧Hid (shiftDown lt j dj=shiftDown lt (i2 - 1) (swp dk i2 (i2 - 1))))
       case atStart=>exact ⟨i2 - 1,_,by go_num,zY0k _,by omega,hV,rfl⟩
       case round =>
        obtain ⟨j,dj,rfl,hj1,hjk,hY,HJ⟩:=hrel;clear hV;have c0:=hY.c0
        by_cases hj0:j=0
        ·have hjz:¬ (1:Int)≤(j:Int):=by omega
         go_wp2;go_meet;exact ⟨dj,hY,by show _=_;rw [if_pos h2,← HJ.out,zqk dj j (Or.inl hj0)]⟩
        have hjz:(1:Int)≤(j:Int):=by omega
        cases hl:lt dj[j]! dj[j - 1]! with
        | true =>
         have hc:=hY.less S hw (i:=j) (j:=j - 1) (x:=j) (y:=(j:Int) - 1) (by omega) (by omega) rfl (by omega) hl;have HL:=Lib.hid hl;clear hl;go_wp2_with (first|(refine hc.mono ?_;rintro e w1 ⟨rfl,hU⟩;simp only [];clear hc c0;have c1:=hU.c1;obtain ⟨w2,hs,hV⟩:=hU.swap S hw (i:=j) (j:=j - 1) (x:=j) (y:=(j:Int) - 1) (by omega) (by omega) rfl (by omega);have HS:=Lib.hid hs;clear hs)|(rw [HS.out,Oper.upon_value]));go_roundg j
         case measure=>omega
         case rel=>exact ⟨j - 1,_,by go_num,by omega,by omega,hV,by show Hid _;rw [← HJ.out,z0mp dj j hj0 HL.out];exact rfl⟩
        | false =>
         have hc:=hY.less S hw (i:=j) (j:=j - 1) (x:=j) (y:=(j:Int) - 1) (by omega) (by omega) rfl (by omega) hl;have HL:=Lib.hid hl;clear hl;go_wp2_with (refine hc.mono ?_;rintro e w1 ⟨rfl,hU⟩;simp only [];clear hc);go_meet;exact ⟨dj,hU,by show _=_;rw [if_pos h2,← HJ.out,zqk dj j (Or.inr HL.out)]⟩
      ·have h2z:¬ (2:Int)≤(i2:Int) - (a:Int):=by omega
       go_wp2_with fail;go_meet;exact ⟨_,hV,by show _=_;rw [if_neg h2]⟩
     case rest =>
      obtain ⟨d3,hY,H3⟩:=hcut;clear hV
      by_cases h4:b - i2 ≥ 2
      ·have h4z:(2:Int)≤(b:Int) - (i2:Int):=by omega
       go_wp2;go_loopg [10] b (fun kz v wr=>∃ (j:Nat) (dj:Array α),v = .int .i64 j∧i2+1≤j∧j≤b∧b - j<kz∧On B lf lb sf sb St w dj wr∧Hid (shiftUp lt b j dj=shiftUp lt b (i2+1) d3))
       case atStart=>exact ⟨i2+1,_,by go_num,zY0k _,by omega,by omega,hY,rfl⟩
       case round =>
        obtain ⟨j,dj,rfl,hj0,hj1,hjk,hZ,HJ⟩:=hrel;clear hY;have c0:=hZ.c0;have HF:Hid (∀ dy:Array α,shiftUp lt b (i2+1) d3=dy→partialIns lt a b (s - 1) i2 dy=partialIns lt a b 5 (a+1) d):=fun dy h=>by
         rw [← HO.out];exact (z0qh h0 EI.out HIB.out H50.out H3.out (by rw [if_pos h4];exact h)).symm
        by_cases hjb:j<b
        ·have hjz:(j:Int)<(b:Int):=by omega
         cases hl:lt dj[j]! dj[j - 1]! with
         | true =>
          have hc:=hZ.less S hw (i:=j) (j:=j - 1) (x:=j) (y:=(j:Int) - 1) (by omega) (by omega) rfl (by omega) hl;have HL:=Lib.hid hl;clear hl;go_wp2_with (first|(refine hc.mono ?_;rintro e w1 ⟨rfl,hU⟩;simp only [];clear hc c0;have c1:=hU.c1;obtain ⟨w2,hs,hV⟩:=hU.swap S hw (i:=j) (j:=j - 1) (x:=j) (y:=(j:Int) - 1) (by omega) (by omega) rfl (by omega);have HS:=Lib.hid hs;clear hs)|(rw [HS.out,Oper.upon_value]));go_roundg (b - j)
          case measure=>omega
          case rel=>exact ⟨j+1,_,by go_num,by omega,by omega,by omega,hV,by show Hid _;rw [← HJ.out,z0mq dj b j hjb HL.out];exact rfl⟩
         | false =>
          have hc:=hZ.less S hw (i:=j) (j:=j - 1) (x:=j) (y:=(j:Int) - 1) (by omega) (by omega) rfl (by omega) hl;have HL:=Lib.hid hl;clear hl;go_wp2_with (refine hc.mono ?_;rintro e w1 ⟨rfl,hU⟩;simp only [];clear hc);go_roundg s
          case measure=>omega
          case rel=>exact ⟨s - 1,i2,dj,rfl,by go_num,by omega,by omega,by omega,by omega,hU,HF.out _ (by rw [← HJ.out,zql dj b j (Or.inr HL.out)])⟩
        ·have hjz:¬ (j:Int)<(b:Int):=by omega
         go_wp2;go_roundg s
         case measure=>omega
         case rel=>exact ⟨s - 1,i2,dj,rfl,by go_num,by omega,by omega,by omega,by omega,hZ,HF.out _ (by rw [← HJ.out,zql dj b j (Or.inl hjb)])⟩
      ·have h4z:¬ (2:Int)≤(b:Int) - (i2:Int):=by omega
       go_wp2;go_roundg s
       case measure=>omega
       case rel=>exact ⟨s - 1,i2,d3,rfl,by go_num,by omega,by omega,by omega,by omega,hY,by show Hid _;rw [← HO.out];exact (z0qh h0 EI.out HIB.out H50.out H3.out (by rw [if_neg h4])).symm⟩
end
end
section
open Go.RowKit Go.Sort
set_option maxRecDepth 100000
set_option maxHeartbeats 8000000
section
variable {α:Type} [Inhabited α] {lt:α→α→Bool} {n B lf sf:Nat} {lb sb:Array Value} {St:Array α→World→Prop}
theorem z8a {a b:Nat} {d d1 d2:Array α} (h:PermIn a b d d1) (k:PermIn a b d1 d2):PermIn a b d d2 :=
 ⟨k.1.trans h.1,fun i hi=>(k.2.1 i hi).trans (h.2.1 i hi),k.2.2.trans h.2.2⟩
theorem z0ms (a b:Nat) (d:Array α):PermIn a b d d:=⟨rfl,fun _ _=>rfl,List.Perm.refl _⟩
theorem z0po {h:Go.Sort.Hint} (e:¬ h = .decreasing):¬ z89 h=2:=by cases h <;> simp_all [z89]
theorem z0vk (S:Srt lt n B lf lb sf sb St) (hO:SWO lt)
  (hbrk:∀ (w:World) (d:Array α) (a b:Nat),St d w→a≤b→b≤n→Calls Tryz.prog 185 #[.agg #[.func (.func lf) #[] lb,.func (.func sf) #[] sb],.int .i64 a,.int .i64 b] w fun e w'=>e = .returned (.tuple #[])∧St (breakPatterns d a b) w'∧Fwd B w w') :
  ∀ (N:Nat) (w:World) (d:Array α) (a b limit:Nat),b - a<N→St d w→a≤b→b≤n→limit<4611686018427387904→Below lt a b d →
  Calls Tryz.prog 160 #[.agg #[.func (.func lf) #[] lb,.func (.func sf) #[] sb],.int .i64 a,.int .i64 b,.int .i64 limit] w fun e w'=>e = .returned (.tuple #[])∧(∃ d',PermIn a b d d'∧SortedIn lt a b d'∧St d' w')∧Fwd B w w':=by
 intro N
 induction N with
 | zero=>intro w d a b limit h;exact absurd h (Nat.not_lt_zero _)
 | succ N ih =>
  intro w d a b limit hN h hab hb hlim hBel;have hw:=S.base h;have hOn:=On.start S h;have hbig:=S.big;have eg:=S.enters;have IH:=Lib.hid ih;have HB:=Lib.hid hbrk;clear ih hbrk;go_enter Tryz.func160,Tryz.ntmps160;go_wp2;go_loopg [1,2,3,8,9] (b - a+1) (fun kx s1 s2 s3 s8 s9 wr=>∃ (a1 b1 lim:Nat) (wb wp:Bool) (dk:Array α),s1 = .int .i64 a1∧s2 = .int .i64 b1∧s3 = .int .i64 lim∧s8 = .bool wb∧s9 = .bool wp ∧
   a1≤b1∧b1≤n∧b1 - a1<kx∧b1 - a1≤b - a∧lim≤limit∧Below lt a1 b1 dk∧On B lf lb sf sb St w dk wr∧Hid (∀ R,PermIn a1 b1 dk R→SortedIn lt a1 b1 R→PermIn a b d R∧SortedIn lt a b R))
  case atStart=>exact ⟨a,b,limit,true,true,d,rfl,rfl,rfl,rfl,rfl,hab,hb,by omega,zY0k _,zY0k _,hBel,hOn,fun R h1 h2=>⟨h1,h2⟩⟩
  case round =>
   obtain ⟨a1,b1,lim,wb,wp,dk,rfl,rfl,rfl,rfl,rfl,hab1,hb1,hkx,hle,hl1,hBk,hW,HR⟩:=hrel;clear hOn;have hsz:=S.size hW.st;have c0:=hW.c0;have c1:=hW.c1;have HBk:=Lib.hid hBk;clear hBk
   by_cases h12:b1 - a1≤12
   ·have h12z:(b1:Int) - (a1:Int)≤12:=by omega
    have hc:=z0mh S hW.st hab1 hb1;go_wp2_with (go_at_call 183;refine hc.mono ?_;rintro e w1 ⟨rfl,hU⟩;simp only [];clear hc)
    ((try simp only [Exit.inBlock,Exit.then]);refine bodyPost_ret (results_none rfl _ _ _) rfl ?_)
    have hp:=insertionSort_holds hO dk a1 b1 hab1 (by omega);have hr:=HR.out _ hp.1 hp.2;exact ⟨rfl,⟨_,hr.1,hr.2,hU.1⟩,(hW.call hw hU).fwd⟩
   have h12z:¬ (b1:Int) - (a1:Int)≤12:=by omega
   by_cases hl0:lim=0
   ·have hl0z:(lim:Int)=0:=by omega
    have hl0b:((lim:Int) == 0)=true:=by rw [hl0z];rfl
    have hc:=z0uq S hW.st (a:=a1) (b:=b1) (by omega) hb1;go_wp2_with (go_at_call 184;refine hc.mono ?_;rintro e w1 ⟨rfl,hU⟩;simp only [];clear hc)
    ((try simp only [Exit.inBlock,Exit.then]);refine bodyPost_ret (results_none rfl _ _ _) rfl ?_)
    have hp:=heapSort_holds hO dk a1 b1 hab1 (by omega);have hr:=HR.out _ hp.1 hp.2;exact ⟨rfl,⟨_,hr.1,hr.2,hU.1⟩,(hW.call hw hU).fwd⟩
   have hl0z:¬ (lim:Int)=0:=by omega
   have hl0b:((lim:Int) == 0)=false:=by simp;omega
   go_upto_if 35 with fail
   go_cut [3] (fun s3 wx=>∃ (lim1:Nat) (d1:Array α),s3 = .int .i64 lim1∧lim1≤lim∧PermIn a1 b1 dk d1∧On B lf lb sf sb St w d1 wx)
   case first =>
    cases wb with
    | false =>
     have hc:=HB.out _ _ _ _ hW.st hab1 hb1;go_wp2_with (go_at_call 185;refine hc.mono ?_;rintro e w1 ⟨rfl,hU⟩;simp only [];clear hc);go_meet;exact ⟨lim - 1,_,by go_num,by omega,breakPatterns_holds dk a1 b1 hab1 (by omega),hW.call hw hU⟩
    | true =>
     go_wp2_with fail;go_meet;exact ⟨lim,dk,rfl,zY0k _,z0ms _ _ _,hW⟩
   case rest =>
    obtain ⟨lim1,d1,rfl,hl2,hp1,hW1⟩:=hcut;clear hW c0 c1;have c0:=hW1.c0;have c1:=hW1.c1;have hs1:=S.size hW1.st;have hc:=z0pj S hW1.st (a:=a1) (b:=b1) (by omega) hb1;have hcr:=choosePivot_holds lt d1 a1 b1 (by omega);generalize choosePivot lt d1 a1 b1=C at hc hcr;obtain ⟨p,hh⟩:=C;simp only at hc hcr;have HP1:=Lib.hid hp1;clear hp1;go_upto_if 50 with fail
    refine hc.mono ?_;rintro e w2 ⟨rfl,hU⟩;simp only [];clear hc;go_upto_if 50 with fail
    have hW2:=hW1.call hw hU;clear hW1 c0 c1 hU;have c0:=hW2.c0;have c1:=hW2.c1;go_cut [11,12] (fun s11 s12 wx=>∃ (q:Nat) (z:Int) (d2:Array α),s11 = .int .i64 q∧s12 = .int .i64 z∧a1≤q∧q<b1∧PermIn a1 b1 dk d2∧On B lf lb sf sb St w d2 wx)
    case first =>
     by_cases hd:hh = .decreasing
     ·subst hd
      have hc:=z0iz S hW2.st (a:=a1) (b:=b1) (by omega) hb1;go_wp2_with (go_at_call 187;refine hc.mono ?_;rintro e w3 ⟨rfl,hU⟩;simp only [];clear hc);go_meet;exact ⟨(b1 - 1) - (p - a1),1,_,by congr 1;omega,rfl,by omega,by omega,z8a HP1.out (reverseRange_holds d1 a1 b1 hab1 (by omega)),hW2.call hw hU⟩
     ·have hz:¬ z89 hh=2:=z0po hd
      have hzb:(z89 hh == 2)=false:=beq_eq_false_iff_ne.2 hz;go_wp2_with fail;go_meet;exact ⟨p,_,d1,rfl,rfl,hcr.1,hcr.2,HP1.out,hW2⟩
    case rest =>
     obtain ⟨q,z,d2,rfl,rfl,hq1,hq2,hp2,hW3⟩:=hcut;clear hW2 c0 c1;have c0:=hW3.c0;have c1:=hW3.c1;have HP2:=Lib.hid hp2;clear hp2 hcr HP1 hs1;go_upto_region 16 with fail
     go_cut [68] (fun s68 wx=>(∃ t:Bool,s68 = .bool t)∧wx=wc)
     case first =>
      cases wb <;> cases wp <;> (go_wp2_with fail;go_meet;exact ⟨⟨_,rfl⟩,rfl⟩)
     case rest =>
      obtain ⟨⟨t,rfl⟩,rfl⟩:=hcut;have hs2:=S.size hW3.st;go_upto_if 68 with fail
      go_cut [] (fun wx=>∃ d3:Array α,PermIn a1 b1 dk d3∧On B lf lb sf sb St w d3 wx)
      case first =>
       cases t with
       | false =>
        go_wp2_with fail;go_meet;exact ⟨d2,HP2.out,hW3⟩
       | true =>
        have hc:=z0mr S hW3.st (a:=a1) (b:=b1) (by omega) hb1;have hpi:=partialInsertionSort_holds hO d2 a1 b1 (by omega) (by omega) (HBk.out.perm (by omega) HP2.out);generalize partialInsertionSort lt d2 a1 b1=Q at hc hpi;obtain ⟨d3,r⟩:=Q;simp only at hc hpi
        cases r with
        | true =>
         have HPI:=Lib.hid hpi;clear hpi;go_wp2_with (go_at_call 188;refine hc.mono ?_;rintro e w4 ⟨rfl,hU⟩;simp only [];clear hc)
         ((try simp only [Exit.inBlock,Exit.then]);refine bodyPost_ret (results_none rfl _ _ _) rfl ?_)
         have hr:=HR.out _ (z8a HP2.out HPI.out.1) (by exact HPI.out.2 trivial);exact ⟨rfl,⟨_,hr.1,hr.2,hU.1⟩,(hW3.call hw hU).fwd⟩
        | false =>
         have HPI:=Lib.hid hpi;clear hpi;go_wp2_with (go_at_call 188;refine hc.mono ?_;rintro e w4 ⟨rfl,hU⟩;simp only [];clear hc);go_meet;exact ⟨d3,z8a HP2.out HPI.out.1,hW3.call hw hU⟩
      case rest =>
       obtain ⟨d3,hp3,hW5⟩:=hcut;clear hW3 c0 c1 HP2 hs2;have c0:=hW5.c0;have HP3:=Lib.hid hp3;clear hp3;have hs3:=S.size hW5.st;go_upto_region 18 with fail
       go_cut [83] (fun c wx=>c = .bool (decide (0<a1) && !lt d3[a1 - 1]! d3[q]!)∧On B lf lb sf sb St w d3 wx)
       case first =>
        by_cases ha:0<a1
        ·have haz:(0:Int)<(a1:Int):=by omega
         cases hl:lt d3[a1 - 1]! d3[q]! with
         | true =>
          have hc:=hW5.less S hw (i:=a1 - 1) (j:=q) (x:=(a1:Int) - 1) (y:=q) (by omega) (by omega) (by omega) rfl hl;have HL:=Lib.hid hl;clear hl;go_wp2_with (refine hc.mono ?_;rintro e w6 ⟨rfl,hU⟩;simp only [];clear hc);go_meet;exact ⟨by rw [decide_eq_true ha,HL.out];rfl,hU⟩
         | false =>
          have hc:=hW5.less S hw (i:=a1 - 1) (j:=q) (x:=(a1:Int) - 1) (y:=q) (by omega) (by omega) (by omega) rfl hl;have HL:=Lib.hid hl;clear hl;go_wp2_with (refine hc.mono ?_;rintro e w6 ⟨rfl,hU⟩;simp only [];clear hc);go_meet;exact ⟨by rw [decide_eq_true ha,HL.out];rfl,hU⟩
        ·have haz:¬ (0:Int)<(a1:Int):=by omega
         go_wp2_with fail;go_meet;exact ⟨by rw [decide_eq_false ha];rfl,hW5⟩
       case rest =>
        obtain ⟨rfl,hW6⟩:=hcut;clear hW5 c0;have c0:=hW6.c0;have c1:=hW6.c1;have HB3:Hid (Below lt a1 b1 d3):=HBk.out.perm (by omega) HP3.out
        cases ht:(decide (0<a1) && !lt d3[a1 - 1]! d3[q]!) with
        | true =>
         rw [zY0d] at ht;have ha:0<a1:=of_decide_eq_true ht.1;have hnl:lt d3[a1 - 1]! d3[q]! = false:=by simpa using ht.2
         have hc:=z0pk S hW6.st (a:=a1) (b:=b1) (pivot:=q) (by omega) hb1 (by omega);have hre:=fun mid d4=>@round_eq α _ lt hO (partitionEqual_holds lt) d3 d4 a1 b1 q mid ha hq1 hq2 (by omega) HB3.out hnl
         generalize partitionEqual lt d3 a1 b1 q=Q at hc hre;obtain ⟨mid,d4⟩:=Q;obtain ⟨r1,r2,r3,r4,r5⟩:=hre mid d4 rfl;simp only at hc;have R4:=Lib.hid r4;have R5:=Lib.hid r5;clear ht hnl hre r4 r5;go_wp2_with (go_at_call 189;refine hc.mono ?_;rintro e w7 ⟨rfl,hU⟩;simp only [];clear hc);go_roundg (b1 - a1)
         case measure=>omega
         case rel=>exact ⟨mid,b1,lim1,wb,wp,d4,rfl,rfl,rfl,rfl,rfl,r2,hb1,by omega,by omega,by omega,R4.out,hW6.call hw hU,fun R h1 h2=>HR.out R (z8a HP3.out (R5.out R h1 h2).1) (R5.out R h1 h2).2⟩
        | false =>
         clear ht;have hc:=z0ur S hW6.st (a:=a1) (b:=b1) (pivot:=q) (by omega) hb1 (by omega);have hre:=fun mid ap d4=>@round_part α _ lt hO (partition_holds lt) d3 d4 a1 b1 q mid ap hq1 hq2 (by omega) HB3.out
         generalize partition lt d3 a1 b1 q=Q at hc hre;obtain ⟨mid,ap,d4⟩:=Q;obtain ⟨r1,r2,r3,r4,r5,r6,r7⟩:=hre mid ap d4 rfl;simp only at hc;have R4:=Lib.hid r4;have R5:=Lib.hid r5;have R6:=Lib.hid r6;have R7:=Lib.hid r7;clear hre r4 r5 r6 r7;go_upto_if 109 with (go_at_call 190;refine hc.mono ?_;rintro e w7 ⟨rfl,hU⟩;simp only [];clear hc)
         have hW7:=hW6.call hw hU;clear hW6 hU c0 c1;have c0:=hW7.c0;have c1:=hW7.c1
         by_cases h4:mid - a1<b1 - mid
         ·have h4z:(mid:Int) - (a1:Int)<(b1:Int) - (mid:Int):=by omega
          have hc:=IH.out _ _ a1 mid lim1 (by omega) hW7.st (by omega) (by omega) (by omega) R4.out;go_wp2_with (go_at_call 160;refine hc.mono ?_;rintro e w8 ⟨rfl,⟨d5,hp5,hs5,hU5⟩,hF5⟩;simp only [];have HP5:=Lib.hid hp5;have HS5:=Lib.hid hs5;clear hc hp5 hs5);go_roundg (b1 - a1)
          case measure=>omega
          case rel=>exact ⟨mid+1,b1,lim1,_,ap,d5,by go_num,rfl,rfl,rfl,rfl,by omega,hb1,by omega,by omega,by omega,(R6.out _ HP5.out HS5.out).1,hW7.call hw ⟨hU5,hF5⟩,fun R h1 h2=>HR.out R (z8a HP3.out ((R6.out _ HP5.out HS5.out).2 R h1 h2).1) ((R6.out _ HP5.out HS5.out).2 R h1 h2).2⟩
         ·have h4z:¬ (mid:Int) - (a1:Int)<(b1:Int) - (mid:Int):=by omega
          have hc:=IH.out _ _ (mid+1) b1 lim1 (by omega) hW7.st (by omega) hb1 (by omega) R5.out;rw [show ((mid+1:Nat):Int)=(mid:Int)+1 by omega] at hc;go_wp2_with (go_at_call 160;refine hc.mono ?_;rintro e w8 ⟨rfl,⟨d5,hp5,hs5,hU5⟩,hF5⟩;simp only [];have HP5:=Lib.hid hp5;have HS5:=Lib.hid hs5;clear hc hp5 hs5);go_roundg (b1 - a1)
          case measure=>omega
          case rel=>exact ⟨a1,mid,lim1,_,ap,d5,rfl,rfl,rfl,rfl,rfl,by omega,by omega,by omega,by omega,by omega,(R7.out _ HP5.out HS5.out).1,hW7.call hw ⟨hU5,hF5⟩,fun R h1 h2=>HR.out R (z8a HP3.out ((R7.out _ HP5.out HS5.out).2 R h1 h2).1) ((R7.out _ HP5.out HS5.out).2 R h1 h2).2⟩
end
end
section
open Go.RowKit Go.Sort Go.Shelf Go.Lib
set_option maxRecDepth 100000
set_option maxHeartbeats 4000000
section
variable {α:Type} [Inhabited α]
theorem z0g7 {V W:World} {b blk:Nat} (f:Array Value→Array Value) (h:V.heap[b]? = W.heap[b]?):(mapBlock V blk f).heap[b]? = (mapBlock W blk f).heap[b]?:=by
 simp only [mapBlock,zY2h,h]
theorem zjp {b blk:Nat}:∀ (vs:List Value) (o:Nat) {V W:World},V.heap[b]? = W.heap[b]? → (V.setCells blk o vs).heap[b]? = (W.setCells blk o vs).heap[b]?
 | [],_,_,_,h=>h
 | v::r,o,V,W,h=>by
  rw [World.setCells,World.setCells];refine zjp r (o+1) ?_;rw [setCell_eq,setCell_eq];exact z0g7 _ h
theorem zbv {blk:Nat}:∀ (vs:List Value) (o:Nat) (W:World),(W.setCells blk o vs).os=W.os∧(W.setCells blk o vs).tape=W.tape∧(W.setCells blk o vs).output=W.output∧(W.setCells blk o vs).heap.size=W.heap.size∧∀ b,b≠blk→(W.setCells blk o vs).heap[b]? = W.heap[b]?
 | [],_,_=>⟨rfl,rfl,rfl,rfl,fun _ _=>rfl⟩
 | v::r,o,W=>by
  rw [World.setCells];obtain ⟨h1,h2,h3,h4,h5⟩:=zbv (blk:=blk) r (o+1) (W.setCell ⟨blk,o,none⟩ v);exact ⟨h1,h2,h3,by rw [h4];simp [World.setCell],fun b hb=>(h5 b hb).trans (heap_setCell_other W _ b _ hb)⟩
variable {p:α→Prop} {enc:α→List Value} {k n blk off:Nat} {w0:World} {lt:α→α→Bool}
theorem z0pp {p:α→Prop} {a b:Nat} {d d':Array α} (h:PermIn a b d d') (hp:∀ i,i<d.size→p d[i]!):∀ i,i<d.size→p d'[i]!:=by
 intro i hi
 by_cases ho:i<a∨b≤i
 ·rw [h.2.1 i ho];exact hp i hi
 ·have hi':i<d'.size:=by rw [h.1];exact hi
  have hm:d'[i]! ∈ (d'.extract a b).toList:=by
   rw [getElem!_pos d' i hi',Array.mem_toList_iff,Array.mem_extract_iff_getElem];exact ⟨i - a,by omega,by congr 1;omega⟩
  have hm2:=h.2.2.mem_iff.1 hm;rw [Array.mem_toList_iff,Array.mem_extract_iff_getElem] at hm2;obtain ⟨k,hk,e⟩:=hm2;rw [← e];have:=hp (a+k) (by omega)
  rwa [getElem!_pos d (a+k) (by omega)] at this
def StK (p:α→Prop) (enc:α→List Value) (k:Nat) (w0:World) (blk off n:Nat) (dk:Array α) (W:World):Prop:=dk.size=n∧Below w0.heap.size (putRowK enc k w0 blk off dk) W∧∀ i,i<n→p dk[i]!
theorem z8b (w:World) (d:Array α):(putRowK enc k w blk off d).heap.size=w.heap.size:=by simp [putRowK,putRow,mapBlock]
theorem StK.holds {d0 dk:Array α} {W:World} (hblk:blk<w0.heap.size) (h0:HoldsK enc k w0 blk off d0) (hn:d0.size=n) (h:StK p enc k w0 blk off n dk W):HoldsK enc k W blk off dk:=by
 have hh:=holdsK_putRowK enc k w0 blk off d0 dk h0 (h.1.trans hn.symm);have hb:=h.2.1.block blk hblk;intro j hj;obtain ⟨h1,h2⟩:=hh j hj;constructor
 ·rw [← h1];unfold World.cell?;rw [show W.heap[(⟨blk,off+j,none⟩:Addr).block]? = _ from hb]
 ·rw [← h2];unfold World.frozen?;rw [show W.heap[(⟨blk,off+j,none⟩:Addr).block]? = _ from hb]
theorem StK.le {dk:Array α} {W:World} (h:StK p enc k w0 blk off n dk W):w0.heap.size≤W.heap.size:=by
 have:=h.2.1.size;rw [z8b] at this;exact this
theorem z0us {d0:Array α} {lf sf:Nat} {lb sb:Array Value} (hk:∀ x,(enc x).length=k) (hblk:blk<w0.heap.size) (h0:HoldsK enc k w0 blk off d0) (hn:d0.size=n) (big:n<4611686018427387904)
  (eg:∀ args w,(callFunc lf args).run Tryz.prog w = .ok (.enter lf args) w) (hswap:SwapSwapsK Tryz.prog sf sb enc k blk off n)
  (hless:∀ (dk:Array α) (W:World) (i j:Nat),StK p enc k w0 blk off n dk W→i<n→j<n→Calls Tryz.prog lf (#[.int .i64 i,.int .i64 j]++lb) W fun e W'=>e = .returned (.bool (lt dk[i]! dk[j]!))∧Below W.heap.size W W') :
  Srt lt n w0.heap.size lf lb sf sb (StK p enc k w0 blk off n) where
 big:=big
 enters:=eg
 size:=fun h=>h.1
 base:=fun h=>h.le
 keep:=fun h hb=>⟨h.1,h.2.1.trans hb,h.2.2⟩
 less:=fun i j h hi hj=>(hless _ _ i j h hi hj).mono fun e W' ⟨he,hb⟩=>⟨he,⟨h.1,h.2.1.trans (hb.mono h.le),h.2.2⟩,Fwd.below hb⟩
 swap:=fun {d W} i j h hi hj=>by
  refine ⟨_,hswap W d (h.holds hblk h0 hn) h.1 i j hi hj,?_⟩;obtain ⟨a1,a2,a3,a4,a5⟩:=zbv (blk:=blk) (enc d[j]!) (off+i * k) W;obtain ⟨b1,b2,b3,b4,b5⟩:=zbv (blk:=blk) (enc d[i]!) (off+j * k) (W.setCells blk (off+i * k) (enc d[j]!));have hsw:=putRowK_swp enc k hk w0 blk off d i j (by rw [h.1];exact hi) (by rw [h.1];exact hj);refine ⟨⟨by rw [z0si];exact h.1,?_,fun q hq=>by rw [swp_get d (by rw [h.1];exact hi) (by rw [h.1];exact hj)];split;exact h.2.2 i hi;split;exact h.2.2 j hj;exact h.2.2 q hq⟩,⟨b1.trans a1,b2.trans a2,b3.trans a3,by rw [b4,a4];exact zY0k _,fun b h1 _=>(b5 b (by omega)).trans (a5 b (by omega))⟩⟩;rw [← hsw];obtain ⟨c1,c2,c3,c4,c5⟩:=zbv (blk:=blk) (enc d[j]!) (off+i * k) (putRowK enc k w0 blk off d);obtain ⟨e1,e2,e3,e4,e5⟩:=zbv (blk:=blk) (enc d[i]!) (off+j * k) ((putRowK enc k w0 blk off d).setCells blk (off+i * k) (enc d[j]!));exact ⟨(b1.trans a1).trans (h.2.1.os.trans (e1.trans c1).symm),(b2.trans a2).trans (h.2.1.tape.trans (e2.trans c2).symm),(b3.trans a3).trans (h.2.1.output.trans (e3.trans c3).symm),by rw [b4,a4,e4,c4];exact h.2.1.size,fun b hb=>zjp _ _ (zjp _ _ (h.2.1.block b hb))⟩
theorem z0ut {d0:Array α} {lf sf f:Nat} {lb sb:Array Value} (hblk:blk<w0.heap.size) (h0:HoldsK enc k w0 blk off d0) (hn:d0.size=n)
  (hb:∀ (d:Array α) (w:World) (a b:Nat),HoldsK enc k w blk off d→d.size=n→blk<w.heap.size→a≤b→b≤d.size→Calls Tryz.prog f #[.agg #[.func (.func lf) #[] lb,.func (.func sf) #[] sb],.int .i64 a,.int .i64 b] w fun e w'=>e = .returned (.tuple #[])∧∃ m os,w'=sortWorldK enc k w blk off m (breakPatterns d a b) os) :
  ∀ (w:World) (d:Array α) (a b:Nat),StK p enc k w0 blk off n d w→a≤b→b≤n→Calls Tryz.prog f #[.agg #[.func (.func lf) #[] lb,.func (.func sf) #[] sb],.int .i64 a,.int .i64 b] w fun e w'=>e = .returned (.tuple #[])∧StK p enc k w0 blk off n (breakPatterns d a b) w'∧Fwd w0.heap.size w w':=by
 intro w d a b h hab hbn;have hl:=h.le;refine (hb d w a b (h.holds hblk h0 hn) h.1 (by omega) hab (by rw [h.1];exact hbn)).mono ?_;rintro e w' ⟨he,m,os,rfl⟩;have hpp0:=breakPatterns_holds d a b hab (by rw [h.1];exact hbn);have hp:=hpp0.1;have hsz:(sortWorldK enc k w blk off m (breakPatterns d a b) os).heap.size=w.heap.size+os.size:=by
  unfold sortWorldK grow
  show (_++os).size=_
  rw [zY2v,z8b];rfl
 have hsm:∀ b',b'<w.heap.size→(sortWorldK enc k w blk off m (breakPatterns d a b) os).heap[b']? = (putRowK enc k w blk off (breakPatterns d a b)).heap[b']?:=fun b' hb'=>by
  unfold sortWorldK;rw [Go.Sort.heap_grow_old _ _ (by rw [z8b];exact hb')];rfl
 refine ⟨he,⟨hp.trans h.1,?_,fun q hq=>?_⟩,?_⟩
 ·have hpp:putRowK enc k (putRowK enc k w0 blk off d) blk off (breakPatterns d a b)=putRowK enc k w0 blk off (breakPatterns d a b):=by
   unfold putRowK;exact putRow_putRow id w0 blk off _ _ (by simp [hp])
  refine ⟨h.2.1.os,h.2.1.tape,h.2.1.output,by rw [z8b,hsz];omega,fun b' hb'=>?_⟩;rw [hsm b' (by omega),← hpp];exact z0g7 _ (h.2.1.block b' hb')
 ·exact z0pp hpp0 (fun i hi=>h.2.2 i (by rw [← h.1];exact hi)) q (by rw [h.1];exact hq)
 ·refine ⟨rfl,rfl,rfl,by rw [hsz];omega,fun b' h1 h2=>(hsm b' h2).trans ?_⟩
  unfold putRowK putRow mapBlock;rw [zY2h,if_neg (by omega)]
end
end
section
open Go.RowKit Go.Sort Go.Shelf Go.Lib
set_option maxRecDepth 100000
set_option maxHeartbeats 4000000
section
variable {α:Type} [Inhabited α]
theorem z0g8 {enc:α→List Value} {k blk off:Nat} {w:World} (os:Array Obj) (hblk:blk<w.heap.size) {dk:Array α} {W:World} (h:Below (grow w os).heap.size (putRowK enc k (grow w os) blk off dk) W):Below w.heap.size (putRowK enc k w blk off dk) W:=by
 rw [putRowK_grow enc k w os blk off dk hblk] at h;have hs:(grow w os).heap.size=w.heap.size+os.size:=zY2v;have hs2:(grow (putRowK enc k w blk off dk) os).heap.size=w.heap.size+os.size:=by
  show (_++os).size=_
  rw [zY2v,z8b]
 refine ⟨h.os,h.tape,h.output,?_,fun b hb=>(h.block b (by rw [hs];omega)).trans (Go.Sort.heap_grow_old _ _ (by rw [z8b];exact hb))⟩;have:=h.size;rw [hs2] at this;rw [z8b];omega
theorem z08h {ρ:Ren} (L:LaysGg.n6 Tryz.prog ρ) (h14:ρ.f 14=160) (h28:ρ.f 28=185) (t e:TypeId) (i ie:TypeInfo) (hi:(Tryz.prog).info? t=some i) (hd:i.desc = .slice e) (hpk:(Tryz.prog).packed t=false) (hie:(Tryz.prog).info? e=some ie) (ke:Nat) (hke:∀ w,(Extern.Rtype.kind e).run Tryz.prog w = .ok ke w)
  (enc:α→List Value) (k:Nat) (hk:∀ x,(enc x).length=k) (hs1:ie.size=k) (hagg:∀ w,(isAgg e).run Tryz.prog w = .ok true w) (h1:∀ x,∀ v ∈ enc x,v.oneCell'=true) (lt:α→α→Bool) (hO:SWO lt) (g:Nat) (lb:Array Value)
  (eg:∀ args w,(callFunc g args).run Tryz.prog w = .ok (.enter g args) w) (blk off c:Nat) (d:Array α) (h2:2≤d.size) (hsz:d.size<4611686018427387904)
  (f:Nat) (hf:(Tryz.prog).funcs.findIdx? (·.name == "internal/reflectlite" ++ ".Swapper$" ++ toString (swapperK d.size ie ke))=some f)
  (gS:Bool) (hx:∀ args W,(callFunc f args).run Tryz.prog W=((Extern.ReflectliteSwapper.swap gS args).run Tryz.prog W).andThen fun v w'=>.ok (.value v) w')
  (w:World) (hH:HoldsK enc k w blk off d) (hblk:blk<w.heap.size)
  (p:α→Prop) (hp0:∀ i,i<d.size→p d[i]!)
  (hless:∀ (dk:Array α) (W:World) (i j:Nat),dk.size=d.size→(∀ i,i<d.size→p dk[i]!)→Below w.heap.size (putRowK enc k w blk off dk) W→i<d.size→j<d.size→Calls Tryz.prog g (#[.int .i64 i,.int .i64 j]++lb) W fun e W'=>e = .returned (.bool (lt dk[i]! dk[j]!))∧Below W.heap.size W W') :
  Calls Tryz.prog (ρ.f 6) #[.iface t (.slice (some ⟨blk,off,none⟩) d.size c),.func (.func g) #[] lb] w fun e w' =>
   e = .returned (.tuple #[])∧∃ d':Array α,PermIn 0 d.size d d'∧SortedIn lt 0 d.size d'∧Below w.heap.size (putRowK enc k w blk off d') w':=by
 refine Any.sort_Slice_of_pdq L t e i ie hi hd hpk hie ke hke _ d.size c hsz f hf (.func g) #[] lb w _ ?_;have hB:sliceBound Tryz.prog e ie ke (some ⟨blk,off,none⟩) d.size c=#[.slice (some ⟨blk,off,none⟩) d.size c,typeHandle Tryz.prog e]:=by
  unfold sliceBound;rw [if_neg (swapperK_gt _ _ _ h2)]
 obtain ⟨os,hW⟩:∃ os,sliceWorld Tryz.prog ρ t (some ⟨blk,off,none⟩) d.size c w=grow w os:=⟨_,by unfold sliceWorld;rw [alloc_eq_grow,alloc_eq_grow,grow_grow]⟩
 rw [hB,hW,h14];have hbl:blk<(grow w os).heap.size:=by show blk<(w.heap++os).size;rw [zY2v];omega
 have hHg:=holdsK_grow enc k w os blk off d hblk hH;have hsw:=swapSwapsK_of_literal gS f hx e ie hie enc k hk hs1 hagg h1 blk off d.size c;have hlim:Lib.bitLen d.size<4611686018427387904:=Nat.lt_of_le_of_lt (Lib.bitLen_le d.size 62 (by omega) (by omega)) (by omega);have S:=z0us (p:=p) (lt:=lt) (w0:=grow w os) hk hbl hHg rfl hsz eg hsw fun dk W i j h hi hj=>hless dk W i j h.1 h.2.2 (z0g8 os hblk h.2.1) hi hj
 have hbrk:=z0ut (p:=p) (w0:=grow w os) (lf:=g) (lb:=lb) (sf:=f) (sb:=#[.slice (some ⟨blk,off,none⟩) d.size c,typeHandle Tryz.prog e]) (f:=185) hbl hHg rfl fun d1 w1 a b hH1 hn1 hb1 hab hbn=>by
  rw [← h28];exact Any.breakPatterns_func_cells_w (P:=Tryz.prog) (ρ:=ρ) { L with } enc k hk (.func g) #[] lb f _ blk off a b d1 w1 (by rw [hn1];exact hsw) hH1 hb1 hab hbn (by rw [hn1];exact hsz)
 have hp:=z0vk S hO hbrk (d.size+1) (grow w os) d 0 d.size (Lib.bitLen d.size) (by omega) ⟨rfl,by rw [putRowK_self enc k _ blk off d hHg];exact Below.refl _ _,hp0⟩ (Nat.zero_le _) (zY0k _) hlim (Or.inl rfl);refine hp.mono ?_;rintro e w' ⟨rfl,⟨d',hp1,hp2,hp3⟩,-⟩;exact ⟨rfl,d',hp1,hp2,z0g8 os hblk hp3.2.1⟩
end
end
section
open Go.RowKit Go.Sort
set_option maxRecDepth 100000
set_option maxHeartbeats 4000000
def putC (c:Coin) (r:List Coin):List Coin:=r.take (zq r c.p)++[c]++r.drop (zq r c.p)
def z0w (l:List Coin):List Coin:=l.foldr putC []
def z28 (l:List Coin):Prop:=l.Pairwise fun c d=>c.p≠d.p
theorem z0mt (c:Coin) (r:List Coin):(putC c r).Perm (c::r):=by
 unfold putC;rw [zY1b,zY2x];refine List.perm_middle.trans ?_;rw [zY10]
theorem z32:∀ (l:List Coin),(z0w l).Perm l
 | []=>List.Perm.refl _
 | c::r=>(z0mt c (z0w r)).trans ((z32 r).cons c)
theorem zev {l m:List Coin} (h:l.Perm m) (p:Point):z1n l p=z1n m p:=by
 unfold z1n;rw [Bool.eq_iff_iff,zY34,zY34];exact ⟨fun ⟨x,hx,hp⟩=>⟨x,h.mem_iff.1 hx,hp⟩,fun ⟨x,hx,hp⟩=>⟨x,h.mem_iff.2 hx,hp⟩⟩
theorem z5c:∀ {l:List Coin},z28 l→z03 (z0w l)
 | [],_=>List.Pairwise.nil
 | c::r,h=>by
  rw [z28,zY1d] at h;have hh:z1n (z0w r) c.p=false:=by
   rw [zev (z32 r)];unfold z1n;rw [zY3j];intro x hx;have:=h.1 x hx;simp only [decide_eq_true_eq];exact fun e=>this e.symm
  exact z6s (z5c h.2) hh
theorem zbi {l m:List Coin} (hp:l.Perm m) (hl:z03 l) (hm:z03 m):l=m :=
 hp.eq_of_pairwise (fun a b _ _ h1 h2=>absurd h2 (ziv h1)) hl hm
theorem z0mu {l m:List Coin} (h:l.Perm m) (hd:z28 l):z28 m:=(h.pairwise_iff (R:=fun c d:Coin=>c.p≠d.p) (fun hab=>Ne.symm hab)).1 hd
theorem zbj {l:List Coin} (h:z03 l):z28 l:=by
 unfold z03 at h;unfold z28;refine List.Pairwise.imp ?_ h;intro c d hab e;rw [e] at hab;exact z4k _ hab
abbrev CC:Type:=Coin × Option Addr × Nat × Nat
instance:Inhabited CC:=⟨(z6r,none,0,0)⟩
def z1y (x:CC):List Value:=[.int .i64 x.1.p.tx,.int .i64 x.1.p.at_,.int .i64 x.1.o.coin,.slice x.2.1 x.2.2.1 x.2.2.2,.int .i64 x.1.height,.bool x.1.reward]
def ltCC (x y:CC):Bool:=decide (ltP x.1.p y.1.p)
theorem z0vl:SWO ltCC where
 irrefl:=fun x=>decide_eq_false (z4k _)
 trans:=fun x y z h1 h2=>decide_eq_true (z7m (of_decide_eq_true h1) (of_decide_eq_true h2))
 ntrans:=fun x y z h1 h2=>by
  have h1:=of_decide_eq_false h1;have h2:=of_decide_eq_false h2;refine decide_eq_false ?_;unfold ltP at *;omega
theorem zew (x:CC):(z1y x).length=6:=rfl
theorem z0mv (x:CC):∀ v ∈ z1y x,v.oneCell'=true:=by
 intro v hv;simp only [z1y,zY0g,zY1g,or_false] at hv;rcases hv with rfl|rfl|rfl|rfl|rfl|rfl <;> rfl
theorem z0vm {w:World} {F:Nat→Prop} {x:Coin} {cs:List Value} (h:shCoin.rep w F x cs):∃ y:CC,z1y y=cs∧y.1=x:=by
 obtain ⟨A,n,c,rfl,-⟩:=z0o2 h;exact ⟨(x,A,n,c),rfl,rfl⟩
theorem z0mw {w:World} {F:Nat→Prop}:∀ {zs:List (Coin × List Value)},(∀ z ∈ zs,shCoin.rep w F z.1 z.2)→∃ ys:List CC,ys.map (fun y=>(y.1,z1y y))=zs
 | [],_=>⟨[],rfl⟩
 | z::zs,h=>by
  obtain ⟨y,h1,h2⟩:=z0vm (h z (zY0j ..));obtain ⟨ys,hys⟩:=z0mw fun z hz=>h z (zY0i _ hz)
  refine ⟨y::ys,?_⟩;rw [zY1q,hys,h1,h2]
theorem zqm {k:Nat} (hk:0<k):∀ (l:List (List Value)),(∀ x ∈ l,x.length=k)→∀ t,l.flatten[t]? = (l[t / k]?).bind (·[t % k]?)
 | [],_,t=>by simp
 | x::r,h,t=>by
  have hx:=h x (zY0j ..);rw [zY1n]
  by_cases ht:t<k
  ·rw [zY0l (by omega),Nat.div_eq_of_lt ht,Nat.mod_eq_of_lt ht];rfl
  ·rw [zY0p (by omega),hx,zqm hk r (fun y hy=>h y (zY0i _ hy))]
   obtain ⟨q,rfl⟩:∃ q,t=q+k:=⟨t - k,by omega⟩
   rw [zY2z,Nat.add_div_right q hk,Nat.add_mod_right];rfl
theorem zmt (ys:List CC):(flatK z1y 6 ys.toArray).toList=(ys.map z1y).flatten:=by
 apply zY2t;intro t;rw [zqm (k:=6) (by omega) _ (fun x hx=>by obtain ⟨y,_,rfl⟩:=zY2w.1 hx;rfl)]
 by_cases ht:t<ys.length * 6
 ·have h1:t<(flatK z1y 6 ys.toArray).size:=by simpa using ht
  have h2:=get_flatK z1y 6 ys.toArray t (by simpa using ht);have h3:t / 6<ys.length:=by omega
  rw [zY1r,zY14 h1,← getElem!_pos _ t h1,h2,zY0m,zY03 h3];have h4:(ys.toArray)[t / 6]! = ys[t / 6]:=by simp [h3]
  rw [h4];have h5:t % 6<(z1y ys[t / 6]).length:=by rw [zew];omega
  rw [zY1a,zY06,zY03 h5,getElem!_pos (z1y ys[t / 6]) (t % 6) h5]
 ·rw [zY2i (by simpa using ht),zY2i (by simp;omega)]
  rfl
theorem z0mx {ys:List CC} {d:Array CC} (hp:PermIn 0 ys.toArray.size ys.toArray d) (hs:SortedIn ltCC 0 ys.toArray.size d) (hd:z28 (ys.map (·.1))):d.toList.map (·.1)=z0w (ys.map (·.1))∧d.toList.Perm ys:=by
 have hsz:d.size=ys.length:=by rw [hp.1];simp
 have h1:d.toList.Perm ys:=by
  have:=hp.2.2;simp only [zY2j] at this;rw [Array.extract_eq_self_of_le (by omega),Array.extract_eq_self_of_le (by simp)] at this;exact this
 refine ⟨zbi ((h1.map _).trans (z32 _).symm) ?_ (z5c hd),h1⟩;have hdd:z28 (d.toList.map (·.1)):=z0mu (h1.map _).symm hd;unfold z03;rw [zY2q];intro i j hi hj hij;rw [zY0y,zY2f] at hi hj;have h2:=hs i j (Nat.zero_le _) hij (by simp;omega);have h3:=(zY2q.1 hdd) i j (by simpa using hi) (by simpa using hj) hij;rw [List.getElem_map,List.getElem_map,Array.getElem_toList,Array.getElem_toList] at h3 ⊢;rw [getElem!_pos d i hi,getElem!_pos d j hj] at h2;have h2:=of_decide_eq_false h2;rcases zrq d[i].1.p d[j].1.p with h|h|h
 ·exact h
 ·exact absurd h h3
 ·exact absurd h h2
end
section
open Go.RowKit Go.Sort Go.Shelf
set_option maxRecDepth 100000
set_option maxHeartbeats 4000000
theorem z08i {P:Program} {α β:Type} {S:Sh β} {eS:β→List Dt} (hE:ShE S eS) {e:α→List Dt} {xs:α→List β} {pk:List PK} {t sz:Nat} {f:Nat} (hpk:z4h pk=false) (hsz:S.size=sz) (hpos:0<S.size) (hen:En P f)
  (h:∀ x W F us,zbw F W→PKRs W F pk (e x) us→Calls P f us.toArray W fun r W'=>∃ n,z4i S t W F (xs x) n r W') :
  Meets P (z01 e fun x=>[.l sz ((xs x).map eS)]) f ⟨pk,[(false,[.fresh t sz])],false⟩:=by
 refine .mk hpk ?_;intro W F ds args rs hF hargs hsp;obtain ⟨x,rfl,rfl⟩:=z2x hsp;refine .inl ⟨hen.run _ _,(h x W F args hF hargs).mono ?_⟩;rintro r W' ⟨n,v,zs,rfl,hz,hr,ho,hb⟩;subst hsz;have hag:Agree F W W':=fun b hb'=>hb.block b (hF.1 b hb')
 have hzl:zs.length=n:=by
  have h1:=ho.1;rw [z8h fun z hz=>S.len (hr z hz)] at h1;exact Nat.eq_of_mul_eq_mul_right hpos h1
 refine ⟨v,rfl,hb,[v],F,⟨⟨rfl,rfl⟩,rfl,rfl,fun j c d u hf hd hu=>?_,fun b hb=>.inl hb,fun j e' sz' u b hf hu hbl hFb=>?_,fun j j' e sz e' sz' u u' b hf hu hf' hu' _ _=>?_⟩⟩
 ·cases j with
  | succ j=>simp [zu] at hf
  | zero =>
   simp only [zu,zY1v,zY2o,zY1e,zY05,zY00] at hf hd hu;subst hf;subst hd;subst hu;refine ⟨_,flat zs,rfl,fun y hy=>?_,?_,?_⟩
   ·obtain ⟨z,_,rfl⟩:=zY2w.1 hy
    exact hE.len z
   ·rw [zY0y,← hz,zY0y,hzl];exact ho
   ·rw [← hz]
    clear ho hz hzl
    induction zs with
    | nil=>exact trivial
    | cons z zs ih =>
     simp only [flat,zY1q,zY1n];exact (hE.to (S.keep hag (hr z (zY0j ..)))).append (ih fun z hz=>hr z (zY0i _ hz))
 ·cases j with
  | succ j=>simp [zu] at hf
  | zero =>
   simp only [zY05,zY00] at hu;subst hu;have h1:=zik ho hbl;have h2:=hF.1 b hFb;omega
 ·cases j <;> cases j' <;> simp [zu] at hf hf' ⊢
def z29 (l:List Coin) (i:Int):Coin:=(l[i.toNat]?).getD z6r
noncomputable def zle:za:=spD (fun x:Int × Int × List Coin=>(0≤x.1∧x.1<x.2.2.length)∧0≤x.2.1∧x.2.1<x.2.2.length) fun x=>decide (ltP (z29 x.2.2 x.1).p (z29 x.2.2 x.2.1).p)
theorem zsw (i j:Int) (l:List Coin) (h:(0≤i∧i<l.length)∧0≤j∧j<l.length):zle [I i,I j,.l 6 (l.map zh)]=some [.b (decide (ltP (z29 l i).p (z29 l j).p))]:=ze (f:=fun x:Int × Int × List Coin=>decide (ltP (z29 x.2.2 x.1).p (z29 x.2.2 x.2.1).p)) (i,j,l) h
theorem zv7 {l:List Coin} {i:Int} (h0:0≤i) (h1:i<l.length):l[i.toNat]? = some (z29 l i):=by
 unfold z29;have h:i.toNat<l.length:=by omega
 rw [zY03 h];rfl
def z08j:T :=
 .W [.idx 2 0 0,.idx 2 0 1] [] (.W [] [.inr 6 2 1] (.W [.idx 2 1 0,.idx 2 1 1] [] (.W [.call 24 [3,4,5,.v
 6] 0] [] (.ret [7]))))
def zhe:T :=
 .W [] [.inr 6 2 0] z08j
theorem z0j3:Meets Tryz.prog zle 137 ⟨[.one,.one,.ptr 1],[(false,[.scal])],true⟩:=by
 refine zf (sp:=(zy [(24,z88)])) (sigs:=z05) (cut:=[]) (hints:=[]) (fn:=Tryz.f137) (t:=zhe) (by kernel_rfl) (by kernel_rfl) (by kernel_rfl) ?_ ?_
 ·exact (zr (L:=[(24,z88)]) ⟨z7 rfl zv3,trivial⟩)
 ·rintro ds rs hok h
  obtain ⟨⟨i,j,l⟩,⟨⟨h1,h2⟩,h3,h4⟩,rfl,rfl⟩:=zg h;clear h hok;simp only at h1 h2 h3 h4;refine ⟨⟨1,?_⟩,z04 rfl⟩
  show den _ _ zhe [I i,I j,.l 6 (l.map zh)] []=ret (decide (ltP (z29 l i).p (z29 l j).p))
  have hi:=zv7 h1 h2;have hj:=zv7 h3 h4;generalize z29 l i=x at *;generalize z29 l j=y at *;unfold zhe
  repeat' (first|refine dqc ?_|refine dqm ?_|refine dqk rfl (zhz x.p y.p) ?_|exact z5 rfl rfl|fail)
noncomputable def srT:TypeInfo:=((Tryz.prog).info? 25).get (by kernel_rfl)
noncomputable def srE:TypeInfo:=((Tryz.prog).info? 101).get (by kernel_rfl)
theorem srK (n:Nat) (h2:2≤n):Lib.swapperK n srE 25=9:=by
 have a:srE.hasPointers=true:=by kernel_rfl
 have b:srE.bytes=64:=by kernel_rfl
 unfold Lib.swapperK;rw [a,b,if_neg (by simp;omega),if_neg (by simp;omega)];rfl
theorem z0sl {w0 W:World} {F:Nat→Prop} {g b0 n cap:Nat} {dk:Array CC} (hF:∀ b,F b→W.heap[b]? = w0.heap[b]? ∧ b<W.heap.size) (hn:dk.size=n) (hcap:n≤cap) (hcm:cap≤9223372036854775807) (hH:HoldsK z1y 6 W g 0 dk) (hg:g<W.heap.size)
  (hb:W.cell? ⟨b0,0,none⟩=some (.slice (some ⟨g,0,none⟩) n cap)) (hb0:b0<W.heap.size) (hp:∀ i,i<n→shCoin.rep w0 F dk[i]!.1 (z1y dk[i]!)) {i j:Nat} (hi:i<n) (hj:j<n) (hbig:n<4611686018427387904) (hG:Glob W) :
  Calls Tryz.prog 137 (#[.int .i64 i,.int .i64 j]++#[.pointer (some ⟨b0,0,none⟩)]) W fun e W'=>e = .returned (.bool (ltCC dk[i]! dk[j]!))∧Below W.heap.size W W':=by
 have hl:(dk.toList.map (·.1)).length=n:=by simp [hn]
 have at_:∀ k,k<n→z29 (dk.toList.map (·.1)) (k:Int)=dk[k]!.1:=fun k hk=>by
  unfold z29;rw [zY21,zY0m,zY1r,getElem!_pos dk k (by omega),zY14 (by omega)];rfl
 have hs:=zsw (i:Int) (j:Int) (dk.toList.map (·.1)) ⟨⟨by omega,by rw [hl];omega⟩,by omega,by rw [hl];omega⟩;rw [at_ i hi,at_ j hj] at hs;refine zkw (F:=Lt W.heap.size) (us:=[.int .i64 i,.int .i64 j,.pointer (some ⟨b0,0,none⟩)]) rfl (z1x (fn:=Tryz.f137) (by kernel_rfl) (by kernel_rfl) (by kernel_rfl)) z0j3 ⟨fun _ h=>h,hG⟩ hs ?_;refine ⟨[I i],_,_,_,rfl,rfl,⟨_,rfl,.i _ _ (wrap_i64 ⟨by omega,by omega⟩)⟩,[I j],_,_,_,rfl,rfl,⟨_,rfl,.i _ _ (wrap_i64 ⟨by omega,by omega⟩)⟩,[.l 6 ((dk.toList.map (·.1)).map zh)],_,_,_,rfl,rfl,⟨rfl,b0,0,[.slice (some ⟨g,0,none⟩) n cap],rfl,hb0,fun k v hk=>?_,?_,trivial⟩,rfl,rfl⟩
 ·cases k with
  | zero=>simp only [zY05,zY00] at hk;subst hk;exact hb
  | succ k=>simp at hk
 ·refine .l 6 _ _ n cap g 0 (fun i j=>(z1y dk[i]!)[j]!) (by simp [hn]) (by simp [hn];omega) hcm (fun x hx=>?_) (fun _=>⟨rfl,hg⟩) (fun i j x d hx hd=>?_) (fun i j x d hx hd=>?_)
  ·obtain ⟨c,_,rfl⟩:=zY2w.1 hx
   rfl
  ·have hi:i<n:=by have:=(zY02.1 hx).1;simpa [hn] using this
   have hxe:x=zh dk[i]!.1:=by
    rw [zY0m,zY0m,zY1r,zY14 (by omega)] at hx;rw [getElem!_pos dk i (by omega)];simpa using hx.symm
   subst hxe;have hj:j<6:=(zY02.1 hd).1;exact (hH.cell (by omega) hj).1
  ·have hi:i<n:=by have:=(zY02.1 hx).1;simpa [hn] using this
   have hxe:x=zh dk[i]!.1:=by
    rw [zY0m,zY0m,zY1r,zY14 (by omega)] at hx;rw [getElem!_pos dk i (by omega)];simpa using hx.symm
   subst hxe;obtain ⟨u,hu,hr⟩:=(she_coin.to (hp i hi)).get hd;have hj:j<6:=(zY02.1 hd).1;have:(z1y dk[i]!)[j]! = u:=by rw [getElem!_pos _ _ (by rw [zew];exact hj)];rw [zY03 (by rw [zew];exact hj)] at hu;exact Option.some.inj hu
   rw [this];exact hr.mono (F':=Lt W.heap.size) (fun b hb=>(hF b hb).1) fun b hb=>(hF b hb).2
theorem z0ey {l:List Coin} (h:l.length≤1):z0w l=l:=by
 match l,h with
 | [],_=>rfl
 | [x],_=>rfl
theorem z0j4 (W:World) (os:Array Obj):Below W.heap.size W (grow W os) :=
 ⟨rfl,rfl,rfl,by show _≤(W.heap++os).size;rw [zY2v];omega,fun b hb=>Go.Sort.heap_grow_old _ _ hb⟩
theorem z0my {w0 W:World} {F:Nat→Prop} {b0 base n:Nat} {v:Value} {zs:List (Coin × List Value)} (hrow:W.ownsRow base 101 6 v n (flat zs)) (hzn:zs.length=n) (hrep:∀ z ∈ zs,shCoin.rep w0 F z.1 z.2)
  (hF:∀ b,F b→b<base∧W.heap[b]? = w0.heap[b]?) (hb0:b0<base) (hbox:W.cell? ⟨b0,0,none⟩=some v) (hbase:base≤W.heap.size) (hd:z28 (zs.map (·.1))) (hbig:n<4611686018427387904) {wg:World} (hG:Glob wg) (hbg:Below wg.heap.size wg W) (hgs:wg.heap.size≤base) :
  Calls Tryz.prog 136 #[.iface 25 v,.func (.func 137) #[] #[.pointer (some ⟨b0,0,none⟩)]] W fun e W'=>e = .returned (.tuple #[]) ∧
   ∃ zs':List (Coin × List Value),zs'.map (·.1)=z0w (zs.map (·.1))∧(∀ z ∈ zs',shCoin.rep w0 F z.1 z.2)∧W'.ownsRow base 101 6 v n (flat zs')∧Below base W W':=by
 obtain ⟨hlen,hv⟩:=hrow
 by_cases h1:n≤1
 ·have hs:z0w (zs.map (·.1))=zs.map (·.1):=z0ey (by rw [zY0y];omega)
  obtain ⟨p,c,hvp⟩:∃ p c,v = .slice p n c:=by
   rcases hv with ⟨rfl,rfl⟩|⟨g,cap,cur,rfl,-⟩
   ·exact ⟨none,0,rfl⟩
   ·exact ⟨_,_,rfl⟩
  have ht:Calls Tryz.prog 136 #[.iface 25 v,.func (.func 137) #[] #[.pointer (some ⟨b0,0,none⟩)]] W fun e w'=>e = .returned (.tuple #[])∧∃ os,w'=grow W os:=by
   rw [hvp];rcases zY1s n with h0|h0
   ·subst h0
    exact Any.sort_Slice_tiny Tryz.lays6 25 101 srT srE (by kernel_rfl) (by kernel_rfl) (by kernel_rfl) (by kernel_rfl) 25 (fun _=>by kernel_rfl) p 0 c h1 172 (by kernel_rfl) (.func 137) #[] #[.pointer (some ⟨b0,0,none⟩)] W
   ·obtain rfl:n=1:=by omega
    exact Any.sort_Slice_tiny Tryz.lays6 25 101 srT srE (by kernel_rfl) (by kernel_rfl) (by kernel_rfl) (by kernel_rfl) 25 (fun _=>by kernel_rfl) p 1 c h1 173 (by kernel_rfl) (.func 137) #[] #[.pointer (some ⟨b0,0,none⟩)] W
  refine ht.mono ?_;rintro e W' ⟨he,os,rfl⟩;have hg:=z0j4 W os;refine ⟨he,zs,hs.symm,hrep,⟨hlen,?_⟩,hg.mono hbase⟩;rcases hv with h|⟨g,cap,cur,h2,h3,h4,h5⟩
  ·exact .inl h
  ·exact .inr ⟨g,cap,cur,h2,h3,(hg.block g (by rw [zY15] at h4;exact h4.1)).trans h4,h5⟩
 ·rcases hv with ⟨-,h0⟩|⟨g,cap,cur,rfl,hgb,hh,hnc,hcm,hcs,ht⟩
  ·omega
  obtain ⟨ys,hys⟩:=z0mw hrep;have hyn:ys.length=n:=by rw [← hzn,← hys,zY0y]
  have hfl:flat zs=(flatK z1y 6 ys.toArray).toList:=by
   rw [zmt,← hys];unfold flat;rw [zY3p];rfl
  have hgl:g<W.heap.size:=by rw [zY15] at hh;exact hh.1
  have hH:HoldsK z1y 6 W g 0 ys.toArray:=by
   intro j hj;rw [size_flatK] at hj;have hj:j<n * 6:=by rw [← hyn];simpa using hj
   refine ⟨?_,by rw [zY0x];exact zly hh⟩;rw [zY0x,cell_of_row W g j cur _ (0,0) hh];have e1:(cur.toList.take (n * 6))[j]? = (flatK z1y 6 ys.toArray).toList[j]?:=by rw [ht,hfl]
   rw [zY18,if_pos hj,zY1r,zY1r] at e1;rw [e1];have h2:j<(flatK z1y 6 ys.toArray).size:=by rw [size_flatK];simp;omega
   rw [zY14 h2,getElem!_pos (flatK z1y 6 ys.toArray) j h2];rfl
  have hsz:ys.toArray.size=n:=by simpa using hyn
  have hsl:=z08h (α:=CC) Tryz.lays6 rfl rfl 25 101 srT srE (by kernel_rfl) (by kernel_rfl) (by kernel_rfl) (by kernel_rfl) 25 (fun _=>by kernel_rfl) z1y 6 zew (by kernel_rfl) (fun _=>by kernel_rfl) z0mv ltCC z0vl 137 #[.pointer (some ⟨b0,0,none⟩)]
   (enters_of Tryz.func137 (by kernel_rfl) rfl) g 0 cap ys.toArray (by rw [hsz];omega) (by rw [hsz];exact hbig) 180 (by rw [srK _ (by rw [hsz];omega)];kernel_rfl) false
   (fun args W=>run_callFunc_extern Tryz.func180 (by kernel_rfl) (by kernel_rfl) (by kernel_rfl) (e:=Extern.ReflectliteSwapper.swap false) (by kernel_rfl) args W) W hH hgl (fun y=>shCoin.rep w0 F y.1 (z1y y))
   (fun i hi=>by
    rw [getElem!_pos ys.toArray i hi];have hi':i<ys.length:=by simpa using hi
    have:=hrep (ys[i].1,z1y ys[i]) (by rw [← hys];exact zY25 (zY1w hi'));simpa using this)
   (fun dk X i j hdn hdp hbl hi hj=>by
    rw [hsz] at hdn hdp hi hj;have hXs:W.heap.size≤X.heap.size:=by have:=hbl.size;rwa [z8b] at this
    have hoth:∀ b,b<W.heap.size→b≠g→X.heap[b]? = W.heap[b]?:=fun b hb hne=>(hbl.block b hb).trans (by
     unfold putRowK putRow mapBlock;rw [zY2h,if_neg (by omega)])
    have hHX:HoldsK z1y 6 X g 0 dk:=StK.holds (p:=fun _:CC=>True) (w0:=W) (n:=n) hgl hH hsz ⟨hdn,hbl,fun _ _=>trivial⟩;have hbX:X.cell? ⟨b0,0,none⟩=some (.slice (some ⟨g,0,none⟩) n cap):=by
     rw [← hbox];unfold World.cell?;rw [hoth b0 (by omega) (by omega)]
    exact z0sl (w0:=w0) (F:=F) (fun b hb=>⟨(hoth b (by have:=(hF b hb).1;omega) (by have:=(hF b hb).1;omega)).trans (hF b hb).2,by have:=(hF b hb).1;omega⟩) hdn hnc hcm hHX (by omega) hbX (by omega) hdp hi hj hbig (hG.on ⟨hbl.os.trans hbg.os,hbl.tape.trans hbg.tape,hbl.output.trans hbg.output,by have:=hbg.size;omega,fun b hb'=>(hoth b (by omega) (by omega)).trans (hbg.block b hb')⟩))
  rw [hsz] at hsl;refine hsl.mono ?_;rintro e W' ⟨he,d,hp,hs,hb⟩;have hdy:z28 (ys.map (·.1)):=by
   have:ys.map (·.1)=zs.map (·.1):=by rw [← hys,zY3p];rfl
   rw [this];exact hd
  obtain ⟨q1,q2⟩:=z0mx (ys:=ys) (by rw [hsz];exact hp) (by rw [hsz];exact hs) hdy;have hdn:d.size=n:=hp.1.trans hsz;have hWs:W.heap.size≤W'.heap.size:=by have:=hb.size;rwa [z8b] at this
  refine ⟨he,d.toList.map (fun y=>(y.1,z1y y)),?_,?_,⟨?_,.inr ⟨g,cap,putCells id 0 (flatK z1y 6 d) cur,rfl,hgb,?_,hnc,hcm,?_,?_⟩⟩,?_⟩
  ·rw [zY3p,← hys,zY3p]
   exact q1
  ·intro z hz
   obtain ⟨y,hy,rfl⟩:=zY2w.1 hz;exact hrep _ (by rw [← hys];exact zY25 (q2.mem_iff.1 hy))
  ·have:flat (d.toList.map (fun y=>(y.1,z1y y)))=(flatK z1y 6 d).toList:=by
    have:=zmt d.toList;rw [zY1p] at this;rw [this];unfold flat;rw [zY3p];rfl
   rw [this,zY2f,size_flatK,hdn]
  ·refine (hb.block g hgl).trans ?_
   unfold putRowK putRow mapBlock;rw [zY2h,if_pos rfl,hh];rfl
  ·unfold putCells
   rw [Array.size_mapIdx];exact hcs
  ·have:flat (d.toList.map (fun y=>(y.1,z1y y)))=(flatK z1y 6 d).toList:=by
    have:=zmt d.toList;rw [zY1p] at this;rw [this];unfold flat;rw [zY3p];rfl
   rw [this];apply zY2t;intro t;rw [zY18]
   by_cases h:t<n * 6
   ·have hn6:n * 6≤cur.size:=by rw [hcs];omega
    have h2:t<(flatK z1y 6 d).size:=by rw [size_flatK,hdn];exact h
    rw [if_pos h,zY1r,zY1r,zY14 h2];unfold putCells;rw [Array.getElem?_mapIdx,zY14 (by omega),zY1a,if_pos ⟨by omega,by omega⟩,Nat.sub_zero,getElem!_pos (flatK z1y 6 d) t h2];rfl
   ·rw [if_neg h,zY2i (by rw [zY2f,size_flatK,hdn];omega)]
  ·refine ⟨hb.os,hb.tape,hb.output,hWs,fun b hb'=>(hb.block b (by omega)).trans ?_⟩
   unfold putRowK putRow mapBlock;rw [zY2h,if_neg (by omega)]
theorem z0j5 {W:World} {base e sz n:Nat} {v:Value} {xs:List Value} (h:W.ownsRow base e sz v n xs):∃ B c,v = .slice B n c:=by
 rcases h.2 with ⟨rfl,rfl⟩|⟨g,cap,cur,rfl,_⟩
 ·exact ⟨none,0,rfl⟩
 ·exact ⟨_,_,rfl⟩
noncomputable def z8c:za:=spD (fun l:List Coin=>l.length≤1000000∧z28 l) fun l=>z0w l
theorem zi2 (l:List Coin) (h:l.length≤1000000∧z28 l):z8c [.l 6 (l.map zh)]=some [.l 6 ((z0w l).map zh)]:=ze (f:=fun l:List Coin=>z0w l) l h
theorem z0ez {W:World} {base base' e sz n:Nat} {v:Value} {xs:List Value} (h:W.ownsRow base e sz v n xs) (hb:base'≤base):W.ownsRow base' e sz v n xs:=by
 refine ⟨h.1,?_⟩;rcases h.2 with h|⟨g,cap,cur,h1,h2,h3⟩
 ·exact .inl h
 ·exact .inr ⟨g,cap,cur,h1,by omega,h3⟩
theorem z0pr (xs:List Coin) (A:Option Addr) (n c:Nat) (w:World) (F:Nat→Prop) (h:Rds shCoin w F xs A n c) (hF:∀ b,F b→b<w.heap.size) (hn:n * 64≤140737488355328) (hd:z28 xs) (hG:Glob w) :
  Calls Tryz.prog 110 #[.slice A n c] w (z4i shCoin 101 w F (z0w xs) n):=by
 obtain ⟨w1,hw1⟩:∃ w1,w1=w.alloc (.cells #[.slice A n c] 25):=⟨_,rfl⟩
 have hs1:w1.heap.size=w.heap.size+1:=by rw [hw1,z5b]
 have hb1:Below w.heap.size w w1:=by rw [hw1];exact (Below.refl _ _).alloc (zY0k _) _
 have hbx:w1.heap[w.heap.size]? = some (.cells #[.slice A n c] 25 (0,0)):=by rw [hw1,zb2]
 have hag:Agree F w w1:=fun b hb=>hb1.block b (hF b hb)
 have hcl:=zop xs A n c w1 F (h.keep hag) (fun b hb=>by have:=hF b hb;omega) hn;have hxn:=h.1;have HQ:Hid (∀ (v:Value) (zs:List (Coin × List Value)) (w2:World),zs.map (·.1)=xs→(∀ z ∈ zs,shCoin.rep w1 F z.1 z.2)→w2.ownsRow w1.heap.size 101 shCoin.size v n (flat zs)→Below w1.heap.size w1 w2 →
   Calls Tryz.prog 136 #[.iface 25 v,.func (.func 137) #[] #[.pointer (some ⟨w.heap.size,0,none⟩)]] (w2.setCell ⟨w.heap.size,0,none⟩ v) fun e W'=>e = .returned (.tuple #[])∧W'.cell? ⟨w.heap.size,0,none⟩=some v∧z4i shCoin 101 w F (z0w xs) n (.returned v) W'):=by
  intro v zs w2 hz1 hz2 hz3 hz4;have hb2:w2.heap[w.heap.size]? = some (.cells #[.slice A n c] 25 (0,0)):=(hz4.block _ (by omega)).trans hbx;have hst:=heap_setCell_same w2 w.heap.size 0 _ _ v hb2;have hbox:(w2.setCell ⟨w.heap.size,0,none⟩ v).cell? ⟨w.heap.size,0,none⟩=some v:=by
   unfold World.cell?;rw [hst];rfl
  have hsz:(w2.setCell ⟨w.heap.size,0,none⟩ v).heap.size=w2.heap.size:=by simp [World.setCell]
  have hoth:∀ b,b≠w.heap.size→(w2.setCell ⟨w.heap.size,0,none⟩ v).heap[b]? = w2.heap[b]?:=fun b hb=>heap_setCell_other w2 _ b _ hb
  have hzl:zs.length=n:=by rw [← hxn,← hz1,zY0y]
  have hs2:=hz4.size;refine (z0my (w0:=w1) (F:=F) (base:=w1.heap.size) (z0c0 hz3 (p:=⟨w.heap.size,0,none⟩) (by show w.heap.size<_;omega) v) hzl hz2 (fun b hb=>⟨by have:=hF b hb;omega,(hoth b (by have:=hF b hb;omega)).trans (hz4.block b (by have:=hF b hb;omega))⟩) (by omega) hbox (by rw [hsz];exact hs2) (by rw [hz1];exact hd) (by omega) hG ⟨hz4.os.trans hb1.os,hz4.tape.trans hb1.tape,hz4.output.trans hb1.output,by rw [hsz];omega,fun b hb=>(hoth b (by omega)).trans ((hz4.block b (by omega)).trans (hb1.block b hb))⟩ (by omega)).mono ?_;rintro e W' ⟨he,zs',h1,h2,h3,h4⟩;refine ⟨he,?_,v,zs',rfl,by rw [h1,hz1],fun z hz=>shCoin.keep (fun b hb=>(hag b hb).symm) (h2 z hz),z0ez h3 (by omega),?_⟩
  ·rw [← hbox]
   unfold World.cell?;rw [h4.block w.heap.size (by omega)]
  ·refine ⟨h4.os.trans (hz4.os.trans hb1.os),h4.tape.trans (hz4.tape.trans hb1.tape),h4.output.trans (hz4.output.trans hb1.output),by have:=h4.size;omega,fun b hb=>(h4.block b (by omega)).trans ((hoth b (by omega)).trans ((hz4.block b (by omega)).trans (hb1.block b hb)))⟩
 have HX:=Lib.hid hbx;clear hbx hag h hd hG;rw [hw1] at hcl;go_enter Tryz.func110,Tryz.ntmps110;go_wp2_with (first|(go_at_call 93;refine hcl.mono ?_;rintro e w2 ⟨v,zs,rfl,hz1,hz2,hz3,hz4⟩;rw [← hw1] at hz2 hz3 hz4;have hb2:w2.heap[w.heap.size]? = some (.cells #[.slice A n c] 25 (0,0)):=(hz4.block _ (by omega)).trans HX.out;have hcc:w2.cell? ⟨w.heap.size,0,none⟩=some (.slice A n c):=(by unfold World.cell?;rw [hb2];rfl);have hff:w2.frozen? ⟨w.heap.size,0,none⟩=false:=zly hb2;obtain ⟨vB,vc,rfl⟩:=z0j5 hz3;have hq:=HQ.out _ zs w2 hz1 hz2 hz3 hz4;clear hcl hz1 hz2 hz3 hz4;simp only [])|(go_at_call 136;refine hq.mono ?_;rintro e w3 ⟨rfl,hv,hC⟩;clear hq;simp only []));go_ret;exact hC
theorem z0mz:Meets Tryz.prog z8c 110 ⟨[.one],[(false,[.fresh 101 6])],false⟩ :=
 z08i (e:=fun x:{ l:List Coin // l.length≤1000000∧z28 l }=>Enc.e x.1) (xs:=fun x=>z0w x.1) she_coin rfl rfl (by decide) (z1x (fn:=Tryz.f110) (by kernel_rfl) (by kernel_rfl) (by kernel_rfl)) fun x W F us hF h=>by
  obtain ⟨v,us,rfl,h1,h⟩:=z1a h;obtain rfl:=z1s h;obtain ⟨A,n,c,rfl,k1⟩:=z2r she_coin h1;have:=x.2.1;have:=k1.1;exact (z0pr x.1 A n c W F k1 hF.1 (by omega) x.2.2 hF.2).mono fun r W' h=>⟨n,h⟩
end
section
open Go.RowKit
set_option maxRecDepth 100000
set_option maxHeartbeats 4000000
theorem zqn (p:Point):∀ (r:List Coin) (k:Nat),(zjn p r k = -1∧z1n r p=false)∨∃ j,∃ (hj:j<r.length),zjn p r k=((k+j:Nat):Int)∧r[j].p=p
 | [],k=>.inl ⟨rfl,rfl⟩
 | c::r,k=>by
  rw [zjn]
  by_cases h:c.p=p
  ·rw [if_pos h]
   exact .inr ⟨0,by simp,by simp,h⟩
  ·rw [if_neg h]
   rcases zqn p r (k+1) with ⟨h1,h2⟩|⟨j,hj,h1,h2⟩
   ·refine .inl ⟨h1,?_⟩
    unfold z1n at h2 ⊢;rw [zY38,h2,decide_eq_false h];rfl
   ·exact .inr ⟨j+1,by simpa using hj,by rw [h1];omega,by simpa using h2⟩
theorem z8v (r:List Coin) (p:Point):(z0q r p = -1∧z1n r p=false)∨∃ j,∃ (hj:j<r.length),z0q r p=(j:Int)∧r[j].p=p:=by
 rcases zqn p r 0 with h|⟨j,hj,h1,h2⟩
 ·exact .inl h
 ·exact .inr ⟨j,hj,by unfold z0q;rw [h1];simp,h2⟩
theorem z08k {r:List Coin} (h:z28 r) (k:Nat):z28 (r.take k++r.drop (k+1)):=by
 have:(r.take k++r.drop (k+1))=r.eraseIdx k:=(List.eraseIdx_eq_take_drop_succ r k).symm;rw [this];exact h.sublist (List.eraseIdx_sublist r k)
theorem zmu {r:List Coin} {c:Coin} (h:z28 r) (hc:z1n r c.p=false):z28 (r++[c]):=by
 unfold z28 at *;rw [zY2l];refine ⟨h,List.pairwise_singleton _ _,fun a ha b hb=>?_⟩;rw [zY13.1 hb];intro e;unfold z1n at hc;rw [zY3j] at hc;exact hc a ha (by simpa using e)
def z0qi (nm:Int) (K:List Coin→List Coin × Int):List Coin→Nat→List Out→List Coin × Int
 | r,_,[]=>K r
 | r,i,o::os=>if z0q r ⟨nm,i⟩<0 then zc3 7 else if decide ((z29 r (z0q r ⟨nm,i⟩)).o=o)=true then z0qi nm K (r.take (z0q r ⟨nm,i⟩).toNat++r.drop (z0q r ⟨nm,i⟩+1).toNat) (i+1) os else zc3 7
def z0qj (ins:List In):List Coin→Nat→List Coin→List Coin × Int
 | r,_,[]=>endR (z0w r)
 | r,i,c::cs=>if z0q r c.p ≥ 0 then zc3 6 else if c.p≠((ins[i]?).getD ⟨⟨0,0⟩,[]⟩).p then zc3 6 else z0qj ins (r++[c]) (i+1) cs
def zv8 (l:List Coin) (t:Tx) (nm:Int) (u:List Coin):List Coin × Int :=
 if (u.length:Int)≠t.ins.length then zc3 4 else z0qi nm (fun r=>z0qj t.ins r 0 u) l 0 t.outs
attribute [local irreducible] z01 spD z1h zd zm z9 z0w
attribute [local irreducible] den denX z0g z0o
noncomputable def z08l:za:=spD (fun x:List Coin × Tx × Int × List Coin=>z28 x.1∧x.1.length≤1000∧x.2.1.ins.length≤1000∧x.2.1.outs.length≤1000) fun x=>zv8 x.1 x.2.1 x.2.2.1 x.2.2.2
attribute [local irreducible] z6j zaa z51 z9g z75 z8c
end
section
open Go.RowKit
theorem z0sm {r:List Coin} {i:Nat} {c:Coin} (h:r[i]? = some c):(r.take i++c::r.drop (i+1))=r:=by
 obtain ⟨hi,rfl⟩:=zY02.1 h;rw [← zY1y hi,zY10]
theorem z08m {r:List Coin} {i:Nat} {c:Coin} (h:r[i]? = some c):(c::(r.take i++r.drop (i+1))).Perm r:=by
 have hp:=(List.perm_middle (a:=c) (l₁:=r.take i) (l₂:=r.drop (i+1))).symm;rw [z0sm h] at hp;exact hp
theorem zqo {r:List Coin} (h:z28 r) {p:Point}:(z0q r p<0∧z1n (z0w r) p=false) ∨
  ∃ c,0≤z0q r p∧z1n (z0w r) p=true∧c ∈ r∧c.p=p∧z29 r (z0q r p)=c∧((z0w r)[zq (z0w r) p]?).getD z6r=c∧(z0w r)[zq (z0w r) p]? = some c∧z28 (r.take (z0q r p).toNat++r.drop (z0q r p+1).toNat)∧(r.take (z0q r p).toNat++r.drop (z0q r p+1).toNat).length≤r.length ∧
   (z0w r).take (zq (z0w r) p)++(z0w r).drop (zq (z0w r) p+1)=z0w (r.take (z0q r p).toNat++r.drop (z0q r p+1).toNat):=by
 rcases z8v r p with ⟨h1,h2⟩|⟨j,hj,h1,h2⟩
 ·exact .inl ⟨by omega,(zev (z32 r) p).trans h2⟩
 ·refine .inr ⟨r[j],?_⟩
  have hs:=z5c h;have hm:r[j] ∈ r:=zY1w hj;have hm':r[j] ∈ z0w r:=(z32 r).mem_iff.2 hm;have hp:=zpy hs hm';have e1:((j:Int)).toNat=j:=by omega
  have e2:((j:Int)+1).toNat=j+1:=by omega
  have hc:r[j]? = some r[j]:=zY03 hj;have hd:=z08k h j;rw [h2] at hp;rw [h1,e1,e2];refine ⟨by omega,hasP_mem.2 ⟨_,hm',h2⟩,hm,h2,?_,?_,hp,hd,?_,?_⟩
  ·unfold z29;rw [e1,hc];rfl
  ·rw [hp];rfl
  ·simp only [zY04,zY0f,zY11];omega
  ·refine zbi (List.Perm.cons_inv (a:=r[j]) ?_) (z85 hs _) (z5c hd)
   exact (z08m hp).trans ((z32 r).trans ((z08m hc).symm.trans ((z32 _).symm.cons _)))
theorem z0ps {r:List Coin} (h:z28 r) {c:Coin} (hc:z1n r c.p=false):z28 (r++[c])∧(z0w r).take (zq (z0w r) c.p)++[c]++(z0w r).drop (zq (z0w r) c.p)=z0w (r++[c]):=by
 have hd:=zmu h hc;refine ⟨hd,zbi ?_ (z6s (z5c h) ((zev (z32 r) _).trans hc)) (z5c hd)⟩;rw [zY1b,zY2x];refine List.perm_middle.trans ?_;rw [zY10];exact ((z32 r).cons c).trans ((List.perm_append_singleton c r).symm.trans (z32 _).symm)
theorem z0pt {r:List Coin} (h:z03 r):z0w r=r:=zbi (z32 r) (z5c (zbj h)) h
end
section
open Go.RowKit
theorem z0n0 {l seen:List In} (h:z2n l seen=0):∀ x ∈ l,z9 x.key=0:=by
 induction l generalizing seen with
 | nil=>intro x hx;cases hx
 | cons y l ih =>
  rw [z2n] at h
  by_cases hb:z4m y≠0
  ·rw [if_pos hb] at h;exact absurd h hb
  ·rw [if_neg hb] at h
   by_cases hi:0≤z4l seen y.p 0
   ·rw [if_pos hi] at h;cases h
   ·rw [if_neg hi] at h
    intro x hx;rcases zY0g.1 hx with rfl|hx
    ·have hb':z4m x=0:=zY0u.1 hb
     unfold z4m at hb'
     split at hb'
     ·cases hb'
     ·exact hb'
    ·exact ih h x hx
section
variable {ρ:Type}
def z6z (h:Int) (bad:Int→ρ) (K:List Coin→List Coin→ρ):List Coin→List Coin→List In→ρ
 | r,s,[]=>K r s
 | r,s,x::xs=>if z0q r x.p<0 then bad 7 else
   if (z29 r (z0q r x.p)).reward=true then
    if (z29 r (z0q r x.p)).height+2 > h then bad 10
    else if (z22 (z29 r (z0q r x.p)).o.lock x.key h).1=true then z6z h bad K (r.take (z0q r x.p).toNat++r.drop (z0q r x.p+1).toNat) (s++[z29 r (z0q r x.p)]) xs else bad 8
   else if (z22 (z29 r (z0q r x.p)).o.lock x.key h).1=true then z6z h bad K (r.take (z0q r x.p).toNat++r.drop (z0q r x.p+1).toNat) (s++[z29 r (z0q r x.p)]) xs else bad 8
def z5x (nm h:Int) (rw:Bool) (bad:Int→ρ) (K:List Coin→ρ):List Coin→Nat→List Out→ρ
 | r,_,[]=>K r
 | r,i,o::os=>if z0q r ⟨nm,i⟩ ≥ 0 then bad 6 else z5x nm h rw bad K (r++[⟨⟨nm,i⟩,o,h,rw⟩]) (i+1) os
theorem zhf (h:Int) (bad:Int→ρ) {K K':List Coin→List Coin→ρ} (hK:∀ r s,z28 r→K r s=K' (z0w r) s):∀ (xs:List In) (r s:List Coin),z28 r→z6z h bad K r s xs=z36 h bad K' (z0w r) s xs
 | [],r,s,hd=>by rw [z6z,z36,hK r s hd]
 | x::xs,r,s,hd=>by
  rw [z6z,z36];rcases zqo hd (p:=x.p) with ⟨h1,h2⟩|⟨d,h1,h2,h3,h4,h5,h6,_,h7,_,h8⟩
  ·rw [if_pos h1,if_neg (by rw [h2];decide)]
  ·have hn:¬ z0q r x.p<0:=by omega
   rw [if_neg hn,if_pos h2,h5,h6,h8,zhf h bad hK xs _ _ h7]
theorem zhg (nm h:Int) (rw_:Bool) (bad:Int→ρ) {K K':List Coin→ρ} (hK:∀ r,z28 r→K r=K' (z0w r)):∀ (os:List Out) (r:List Coin) (k:Nat),z28 r→z5x nm h rw_ bad K r k os=z2z nm h rw_ bad K' (z0w r) k os
 | [],r,k,hd=>by rw [z5x,z2z,hK r hd]
 | o::os,r,k,hd=>by
  rw [z5x,z2z];rcases zqo hd (p:=⟨nm,k⟩) with ⟨h1,h2⟩|⟨d,h1,h2,_⟩
  ·have hn:¬ z0q r ⟨nm,k⟩ ≥ 0:=by omega
   obtain ⟨hd',he⟩:=z0ps hd (c:=⟨⟨nm,k⟩,o,h,rw_⟩) ((zev (z32 r) _).symm.trans h2);simp only at he;rw [if_neg hn,if_neg (by rw [h2];decide),he,zhg nm h rw_ bad hK os _ _ hd']
  ·rw [if_pos h1,if_pos h2]
end
def z33 (l:List Coin) (t:Tx) (nm h:Int):List Coin × List Coin × Int :=
 if nm<1 then z1j 3 else if nm > 120 then z1j 3 else if h<1 then z1j 3 else if h > 1000 then z1j 3 else
 if (t.ins.length:Int)=0 then
  if t.height≠h then z1j 4 else z6z h z1j (fun r s=>z5x nm h (decide ((t.ins.length:Int)=0)) z1j (fun r=>z5f s (z0w r)) r 0 t.outs) l [] t.ins
 else z6z h z1j (fun r s=>if z0z t s<0 then z1j 9 else z5x nm h (decide ((t.ins.length:Int)=0)) z1j (fun r=>z5f s (z0w r)) r 0 t.outs) l [] t.ins
theorem zcs {l:List Coin} {t:Tx} {nm h:Int} (hl:zd l=0) (ht:zm t=0):z33 l t nm h=zw l t nm h:=by
 have ok:=(z12 l).1 hl;unfold z33 zw;rw [if_neg (show ¬ zd l≠0 by rw [hl];decide),if_neg (show ¬ zm t≠0 by rw [ht];decide)]
 by_cases a1:nm<1
 ·rw [if_pos a1,if_pos (show nm<1∨120<nm∨h<1∨1000<h by omega)]
 rw [if_neg a1]
 by_cases a2:nm > 120
 ·rw [if_pos a2,if_pos (show nm<1∨120<nm∨h<1∨1000<h by omega)]
 rw [if_neg a2]
 by_cases a3:h<1
 ·rw [if_pos a3,if_pos (show nm<1∨120<nm∨h<1∨1000<h by omega)]
 rw [if_neg a3]
 by_cases a4:h > 1000
 ·rw [if_pos a4,if_pos (show nm<1∨120<nm∨h<1∨1000<h by omega)]
 rw [if_neg a4,if_neg (show ¬ (nm<1∨120<nm∨h<1∨1000<h) by omega)];have hs:=z0pt ok.sorted;have hd:=zbj ok.sorted
 by_cases e:(t.ins.length:Int)=0
 ·rw [if_pos e,if_pos e]
  by_cases e2:t.height≠h
  ·rw [if_pos e2,if_pos e2]
  ·rw [if_neg e2,if_neg e2,zhf h z1j (K':=fun r s=>z2z nm h (decide ((t.ins.length:Int)=0)) z1j (z5f s) r 0 t.outs) (fun r s hr=>zhg nm h _ z1j (fun r _=>rfl) t.outs r 0 hr) t.ins l [] hd,hs]
 ·rw [if_neg e,if_neg e,zhf h z1j (K':=fun r s=>if z0z t s<0 then z1j 9 else z2z nm h (decide ((t.ins.length:Int)=0)) z1j (z5f s) r 0 t.outs) (fun r s hr=>by
   by_cases f:z0z t s<0
   ·rw [if_pos f,if_pos f]
   ·rw [if_neg f,if_neg f];exact zhg nm h _ z1j (fun r _=>rfl) t.outs r 0 hr) t.ins l [] hd,hs]
end
section
open Go.RowKit
open Go.Lib (itoa)
set_option maxRecDepth 100000
set_option maxHeartbeats 4000000
theorem zlf {l:List Coin} {t:Tx} {nm h:Int} (h0:(zw l t nm h).2.2=0):zd (zw l t nm h).1=0:=(z12 _).2 (z87 h0).choose_spec.end_
def z46 (b:Block) (ns:List Int):List Coin→List Undo→Int→List Int→List Coin × List Undo × Int
 | l,us,_,[]=>(l,us,0)
 | l,us,fees,i::r=>if i=0∧z0r (b.txs.getD 0 zTx).outs > z0i b.height+fees then ([],[],9) else
  if (z33 l (b.txs.getD i.toNat zTx) (ns.getD i.toNat 0) b.height).2.2≠0 then ([],[],(z33 l (b.txs.getD i.toNat zTx) (ns.getD i.toNat 0) b.height).2.2) else
  z46 b ns (z33 l (b.txs.getD i.toNat zTx) (ns.getD i.toNat 0) b.height).1 (us.set i.toNat ⟨(z33 l (b.txs.getD i.toNat zTx) (ns.getD i.toNat 0) b.height).2.1⟩) (if i > 0 then fees+z0z (b.txs.getD i.toNat zTx) (z33 l (b.txs.getD i.toNat zTx) (ns.getD i.toNat 0) b.height).2.1 else fees) r
def zc5 (i n:Nat):List Int:=(List.range' i n).map fun j:Nat=>(j:Int)
theorem zv9 (i:Nat):zc5 i 0=[]:=rfl
theorem zva (i n:Nat):zc5 i (n+1)=(i:Int)::zc5 (i+1) n:=by unfold zc5;rw [List.range'_succ];rfl
def zsx (ts:List (List UInt8)) (l:List Coin) (b:Block):List Coin × List Undo × Int :=
 if (z2b ts b).2.2.2≠0 then ([],[],(z2b ts b).2.2.2) else
 z46 b (z2b ts b).2.2.1 l (List.replicate b.txs.length ⟨[]⟩) 0 (zc5 1 (b.txs.length - 1)++[0])
theorem zlg {b:Block} {ns:List Int} (hb:zb b=0):∀ (m i:Nat) (l:List Coin) (us:List Undo) (fees:Int),b.txs.length=m+i→1≤i→zd l=0 →
  z46 b ns l us fees (zc5 i m++[0])=z58 b ns l us (z0i b.height+fees) i (b.txs.drop i)
 | 0,i,l,us,fees,hn,hi,hl=>by
  have ok:=z1p hb;have ht0:b.txs[0]? = some (b.txs.getD 0 zTx):=z59 _ ok.some;have hct:=ok.each _ (zY07 ht0);have e:b.txs.drop i=[]:=zY1l (by omega);rw [e,z58,zv9,zY17,z46,z46,show Int.toNat 0=0 from rfl,zcs hl hct];have ef:z0z (b.txs.getD 0 zTx) [] = -z0r (b.txs.getD 0 zTx).outs:=by rw [zdp];simp only [zi,zY2u,List.sum_nil];omega
  unfold zaz
  by_cases hbig:z0r (b.txs.getD 0 zTx).outs > z0i b.height+fees
  ·rw [if_pos ⟨rfl,hbig⟩,if_pos (show z0i b.height+fees < -z0z (b.txs.getD 0 zTx) [] by omega)]
  ·rw [if_neg (fun h=>hbig h.2),if_neg (show ¬ z0i b.height+fees < -z0z (b.txs.getD 0 zTx) [] by omega)]
 | m+1,i,l,us,fees,hn,hi,hl=>by
  have ok:=z1p hb;have hti:b.txs[i]? = some (b.txs.getD i zTx):=z59 _ (by omega);have hct:=ok.each _ (zY07 hti);have e:b.txs.drop i=b.txs.getD i zTx::b.txs.drop (i+1):=by
   rw [zY1y (by omega)];congr 1;rw [zY0w,zY03 (by omega)];rfl
  have h0:¬ ((i:Int)=0∧z0r (b.txs.getD 0 zTx).outs > z0i b.height+fees):=fun h=>by have:=h.1;omega
  rw [e,z58,zva,zY1h,z46,if_neg h0,zY21,zcs hl hct,if_pos (show (i:Int) > 0 by omega)]
  by_cases hq:(zw l (b.txs.getD i zTx) (ns.getD i 0) b.height).2.2=0
  ·rw [if_neg (fun k=>k hq),if_neg (fun k=>k hq),zlg hb m (i+1) _ _ _ (by omega) (by omega) (zlf hq),← Int.add_assoc]
  ·rw [if_pos hq,if_pos hq]
theorem z0n1 {k:Book} {l:List Coin} {b:Block} (hk:zj k=0) (hl:zd l=0):zsx k.texts l b=z18 k l b:=by
 unfold zsx z18;rw [z0iu hk,if_neg (show ¬ zd l≠0 from fun x=>x hl)]
 by_cases he:(z08 k b).2.2.2=0
 ·obtain ⟨hb,hn⟩:=zh9 he
  have ok:=z1p hb;have:=ok.some;rw [if_neg (fun k=>k he),if_neg (fun k=>k he),zlg hb (b.txs.length - 1) 1 _ _ _ (by omega) (zY0k _) hl,Int.add_zero]
 ·rw [if_pos he,if_pos he]
def z0qk:Nat→List Int
 | 0=>[]
 | i+1=>((i:Int)+1)::z0qk i
end
section
open Go.RowKit
set_option maxRecDepth 100000
set_option maxHeartbeats 8000000
attribute [local irreducible] z01 spD z1h
def zfe (r:Option (List Int)):List Int × Bool:=match r with
 | none=>([],false)
 | some s=>(s,true)
noncomputable def z6t:za:=spD (fun _:Int=>True) fun n=>decide (-1000000≤n∧n≤1000000)
theorem z0s (n:Int):z6t [I n]=some [.b (decide (-1000000≤n∧n≤1000000))]:=ze (f:=fun n:Int=>decide (-1000000≤n∧n≤1000000)) n trivial
def zsy:T :=
 .W [.B .geq 0 (.c (.i .i64 (-1000000)))] [] (.ite 1 (.W [.B .leq 0 (zI 1000000)] [] (.ret [2])) (.ret [.c (.b false)]))
def z0f0:T :=
 .ite 53 (.ret [.c (.nil 1),.c (.b false)]) (.W [.mk 1 [[49]]] [] (.W [.app 1 46 54] [] (.W [.B .add 47 (zI 1)] [] (.again 1 [44,.v
 45,55,56]))))
def z0f1:T :=
 .W [.B .geq 50 (zI 16)] [] (.ite 51 (.ret [.c (.nil 1),.c (.b false)]) (.W [.call 42 [49] 0] [] (.W [.not 52] [] z0f0)))
def z8n:T :=
 .ite 48 (.W [] [.inr 1 42 47] (.W [.idx 42 47 0] [] (.W [.len 46] [] z0f1))) (.W [.B .add 20 (zI 1)] [] (.again 0
 [44,45,46,49]))
def z0f2:T :=
 .ite 54 (.ret [.c (.nil 1),.c (.b false)]) (.W [.mk 1 [[50]]] [] (.W [.app 1 47 55] [] (.W [.B .add 48 (zI 1)] [] (.again 1 [45,.v
 46,56,57]))))
def zlh:T :=
 .W [.B .geq 51 (zI 16)] [] (.ite 52 (.ret [.c (.nil 1),.c (.b false)]) (.W [.call 42 [50] 0] [] (.W [.not 53] [] z0f2)))
def z8o:T :=
 .ite 49 (.W [] [.inr 1 43 48] (.W [.idx 43 48 0] [] (.W [.len 47] [] zlh))) (.W [.B .add 20 (zI 1)] [] (.again 0
 [45,46,47,50]))
def z0f3:T :=
 .ite 55 (.ret [.c (.nil 1),.c (.b false)]) (.W [.mk 1 [[51]]] [] (.W [.app 1 48 56] [] (.W [.B .add 49 (zI 1)] [] (.again 1 [46,.v
 47,57,58]))))
def z0f4:T :=
 .W [.B .geq 52 (zI 16)] [] (.ite 53 (.ret [.c (.nil 1),.c (.b false)]) (.W [.call 42 [51] 0] [] (.W [.not 54] [] z0f3)))
def zli:T :=
 .ite 50 (.W [] [.inr 1 44 49] (.W [.idx 44 49 0] [] (.W [.len 48] [] z0f4))) (.W [.B .add 20 (zI 1)] [] (.again 0
 [46,47,48,51]))
def z0f5:T :=
 .ite 57 (.ret [.c (.nil 1),.c (.b false)]) (.W [.mk 1 [[53]]] [] (.W [.app 1 50 58] [] (.W [.B .add 51 (zI 1)] [] (.again 1 [48,.v
 49,59,60]))))
def zjq:T :=
 .W [.B .geq 54 (zI 16)] [] (.ite 55 (.ret [.c (.nil 1),.c (.b false)]) (.W [.call 42 [53] 0] [] (.W [.not 56] [] z0f5)))
def zac:T :=
 .ite 52 (.W [] [.inr 1 46 51] (.W [.idx 46 51 0] [] (.W [.len 50] [] zjq))) (.W [.B .add 20 (zI 1)] [] (.again 0
 [48,49,50,53]))
def z08n:T :=
 .W [.B .add 34 37] [] (.W [.mk 1 [[45]]] [] (.W [.len 46] [] (.loop [17,18,40,zI 0] (.W [.B .lss 51 47] []
 zac))))
def z08o:T :=
 .ite 58 (.ret [.c (.nil 1),.c (.b false)]) (.W [.mk 1 [[54]]] [] (.W [.app 1 51 59] [] (.W [.B .add 52 (zI 1)] [] (.again 1 [49,.v
 50,60,61]))))
def z08p:T :=
 .W [.B .geq 55 (zI 16)] [] (.ite 56 (.ret [.c (.nil 1),.c (.b false)]) (.W [.call 42 [54] 0] [] (.W [.not 57] [] z08o)))
def z08q:T :=
 .ite 53 (.W [] [.inr 1 47 52] (.W [.idx 47 52 0] [] (.W [.len 51] [] z08p))) (.W [.B .add 20 (zI 1)] [] (.again 0
 [49,50,51,54]))
def z08r:T :=
 .W [.B .sub 34 37] [] (.W [.mk 1 [[46]]] [] (.W [.len 47] [] (.loop [17,18,40,zI 0] (.W [.B .lss 52 48] []
 z08q))))
def z08s:T :=
 .ite 59 (.ret [.c (.nil 1),.c (.b false)]) (.W [.mk 1 [[55]]] [] (.W [.app 1 52 60] [] (.W [.B .add 53 (zI 1)] [] (.again 1 [50,.v
 51,61,62]))))
def zjr:T :=
 .W [.B .geq 56 (zI 16)] [] (.ite 57 (.ret [.c (.nil 1),.c (.b false)]) (.W [.call 42 [55] 0] [] (.W [.not 58] [] z08s)))
def zad:T :=
 .ite 54 (.W [] [.inr 1 48 53] (.W [.idx 48 53 0] [] (.W [.len 52] [] zjr))) (.W [.B .add 20 (zI 1)] [] (.again 0
 [50,51,52,55]))
def z08t:T :=
 .ite 47 (.W [.mk 1 [[zI 1]]] [] (.W [.len 48] [] (.loop [17,18,40,zI 0] (.W [.B .lss 53 49] [] zad)))) (.W
 [.mk 1 [[zI 0]]] [] (.W [.len 48] [] (.loop [17,18,40,zI 0] (.W [.B .lss 53 49] [] zad))))
def z08u:T :=
 .ite 60 (.ret [.c (.nil 1),.c (.b false)]) (.W [.mk 1 [[56]]] [] (.W [.app 1 53 61] [] (.W [.B .add 54 (zI 1)] [] (.again 1 [51,.v
 52,62,63]))))
def zjs:T :=
 .W [.B .geq 57 (zI 16)] [] (.ite 58 (.ret [.c (.nil 1),.c (.b false)]) (.W [.call 42 [56] 0] [] (.W [.not 59] [] z08u)))
def zdu:T :=
 .ite 55 (.W [] [.inr 1 49 54] (.W [.idx 49 54 0] [] (.W [.len 53] [] zjs))) (.W [.B .add 20 (zI 1)] [] (.again 0
 [51,52,53,56]))
def z08v:T :=
 .ite 48 (.W [.mk 1 [[zI 1]]] [] (.W [.len 49] [] (.loop [17,18,40,zI 0] (.W [.B .lss 54 50] [] zdu)))) (.W
 [.mk 1 [[zI 0]]] [] (.W [.len 49] [] (.loop [17,18,40,zI 0] (.W [.B .lss 54 50] [] zdu))))
def z08w:T :=
 .ite 62 (.ret [.c (.nil 1),.c (.b false)]) (.W [.mk 1 [[58]]] [] (.W [.app 1 55 63] [] (.W [.B .add 56 (zI 1)] [] (.again 1 [53,.v
 54,64,65]))))
def zjt:T :=
 .W [.B .geq 59 (zI 16)] [] (.ite 60 (.ret [.c (.nil 1),.c (.b false)]) (.W [.call 42 [58] 0] [] (.W [.not 61] [] z08w)))
def zju:T :=
 .ite 57 (.W [] [.inr 1 51 56] (.W [.idx 51 56 0] [] (.W [.len 55] [] zjt))) (.W [.B .add 20 (zI 1)] [] (.again 0
 [53,54,55,58]))
def zjv:T :=
 .ite 50 (.W [.mk 1 [[zI 1]]] [] (.W [.len 51] [] (.loop [17,18,40,zI 0] (.W [.B .lss 56 52] [] zju)))) (.W
 [.mk 1 [[zI 0]]] [] (.W [.len 51] [] (.loop [17,18,40,zI 0] (.W [.B .lss 56 52] [] zju))))
def z08x:T :=
 .ite 57 (.W [] [.inr 1 (.c (.nil 1)) 56] (.W [.idx (.c (.nil 1)) 56 0] [] (.W [.len 55] [] zjt))) (.W [.B .add 20 (zI 1)]
 [] (.again 0 [53,54,55,58]))
def z08y:T :=
 .ite 51 (.ret [.c (.nil 1),.c (.b false)]) (.W [.len (.c (.nil 1))] [] (.loop [17,18,40,zI 0] (.W [.B .lss 56 52] [] z08x)))
def z08z:T :=
 .ite 63 (.ret [.c (.nil 1),.c (.b false)]) (.W [.mk 1 [[59]]] [] (.W [.app 1 56 64] [] (.W [.B .add 57 (zI 1)] [] (.again 1 [54,.v
 55,65,66]))))
def zjw:T :=
 .W [.B .geq 60 (zI 16)] [] (.ite 61 (.ret [.c (.nil 1),.c (.b false)]) (.W [.call 42 [59] 0] [] (.W [.not 62] [] z08z)))
def z090:T :=
 .ite 58 (.W [] [.inr 1 52 57] (.W [.idx 52 57 0] [] (.W [.len 56] [] zjw))) (.W [.B .add 20 (zI 1)] [] (.again 0
 [54,55,56,59]))
def z091:T :=
 .W [.B .add 57 (zI 104729)] [] (.W [.B .rem 58 (zI 1000003)] [] (.W [.B .add 55 (zI 1)] [] (.again 1 [59,60])))
def z092:T :=
 .ite 69 (.ret [.c (.nil 1),.c (.b false)]) (.W [.mk 1 [[65]]] [] (.W [.app 1 62 70] [] (.W [.B .add 63 (zI 1)] [] (.again 2 [60,.v
 61,71,72]))))
def z093:T :=
 .W [.B .geq 66 (zI 16)] [] (.ite 67 (.ret [.c (.nil 1),.c (.b false)]) (.W [.call 42 [65] 0] [] (.W [.not 68] [] z092)))
def z094:T :=
 .ite 64 (.W [] [.inr 1 58 63] (.W [.idx 58 63 0] [] (.W [.len 62] [] z093))) (.W [.B .add 20 (zI 1)] [] (.again 0
 [60,61,62,65]))
def z095:T :=
 .W [.B .rem 54 (zI 1000001)] [] (.W [.mk 1 [[57]]] [] (.W [.len 58] [] (.loop [17,18,40,zI 0] (.W [.B .lss 63 (.v
 59)] [] z094))))
def z096:T :=
 .loop [53,zI 0] (.W [.B .lss 55 (zI 3)] [] (.ite 56 (.W [.B .mul 54 (zI 7919)] [] z091) z095))
def z097:T :=
 .ite 58 (.W [] [.inr 1 (.c (.nil 1)) 57] (.W [.idx (.c (.nil 1)) 57 0] [] (.W [.len 56] [] zjw))) (.W [.B .add 20 (zI 1)]
 [] (.again 0 [54,55,56,59]))
def z098:T :=
 .ite 52 (.W [.B .add 34 (zI 1000000)] [] z096) (.W [.len (.c (.nil 1))] [] (.loop [17,18,40,zI 0] (.W [.B .lss 57
 53] [] z097)))
def z099:T :=
 .ite 51 (.W [.mk 1 [[2]]] [] (.W [.len 52] [] (.loop [17,18,40,zI 0] (.W [.B .lss 57 53] [] z090)))) (.W [.B
 .eql 22 (zI 13)] [] z098)
def z09a:T :=
 .W [.B .eql 22 (zI 11)] [] (.ite 50 (.W [.B .eql 34 (zI 0)] [] z08y) (.W [.B .eql 22 (zI 12)] []
 z099))
def z09b:T :=
 .ite 48 (.W [.B .mul 34 37] [] (.W [.B .neq 49 (zI 0)] [] zjv)) (.W [.B .eql 22 (zI 9)] [] (.ite 49 (.W
 [.B .eql 34 (zI 0)] [] zjv) z09a))
def z09c:T :=
 .W [.B .eql 22 (zI 8)] [] (.ite 47 (.W [.B .lss 34 37] [] z08v) (.W [.B .eql 22 (zI 10)] [] z09b))
def z09d:T :=
 .W [.B .eql 22 (zI 6)] [] (.ite 45 z08r (.W [.B .eql 22 (zI 7)] [] (.ite 46 (.W [.B .eql 34 37] []
 z08t) z09c)))
def z09e:T :=
 .ite 43 (.W [.mk 1 [[37],[34]]] [] (.W [.len 44] [] (.loop [17,18,40,zI 0] (.W [.B .lss 49 45] [] zli)))) (.W
 [.B .eql 22 (zI 5)] [] (.ite 44 z08n z09d))
def z09f:T :=
 .ite 42 (.W [.mk 1 [[34],[34]]] [] (.W [.len 43] [] (.loop [17,18,40,zI 0] (.W [.B .lss 48 44] [] z8o)))) (.W
 [.B .eql 22 (zI 3)] [] z09e)
def z09g:T :=
 .ite 41 (.W [.mk 1 [[23]]] [] (.W [.len 42] [] (.loop [17,18,40,zI 0] (.W [.B .lss 47 43] [] z8n)))) (.W [.B
 .eql 22 (zI 2)] [] z09f)
def z09h:T :=
 .W [.len 19] [] (.W [.B .sub 38 24] [] (.W [.sub 1 19 none (some 39)] [] (.W [.B .eql 22 (zI 1)] [] z09g)))
def z09i:T :=
 .W [.idx 19 33 0] [] (.W [.len 19] [] (.W [.B .sub 35 (zI 1)] [] (.W [] [.inr 1 19 36] (.W [.idx 19 36 0] []
 z09h))))
def z09j:T :=
 .ite 47 (.ret [.c (.nil 1),.c (.b false)]) (.W [.mk 1 [[43]]] [] (.W [.app 1 40 48] [] (.W [.B .add 41 (zI 1)] [] (.again 1 [38,.v
 39,49,50]))))
def z09k:T :=
 .W [.B .geq 44 (zI 16)] [] (.ite 45 (.ret [.c (.nil 1),.c (.b false)]) (.W [.call 42 [43] 0] [] (.W [.not 46] [] z09j)))
def z09l:T :=
 .ite 42 (.W [] [.inr 1 36 41] (.W [.idx 36 41 0] [] (.W [.len 40] [] z09k))) (.W [.B .add 20 (zI 1)] [] (.again 0
 [38,39,40,43]))
def z09m:T :=
 .ite 48 (.ret [.c (.nil 1),.c (.b false)]) (.W [.mk 1 [[44]]] [] (.W [.app 1 41 49] [] (.W [.B .add 42 (zI 1)] [] (.again 1 [39,.v
 40,50,51]))))
def z09n:T :=
 .W [.B .geq 45 (zI 16)] [] (.ite 46 (.ret [.c (.nil 1),.c (.b false)]) (.W [.call 42 [44] 0] [] (.W [.not 47] [] z09m)))
def zjx:T :=
 .ite 43 (.W [] [.inr 1 37 42] (.W [.idx 37 42 0] [] (.W [.len 41] [] z09n))) (.W [.B .add 20 (zI 1)] [] (.again 0
 [39,40,41,44]))
def z09o:T :=
 .ite 49 (.ret [.c (.nil 1),.c (.b false)]) (.W [.mk 1 [[45]]] [] (.W [.app 1 42 50] [] (.W [.B .add 43 (zI 1)] [] (.again 1 [40,.v
 41,51,52]))))
def z09p:T :=
 .W [.B .geq 46 (zI 16)] [] (.ite 47 (.ret [.c (.nil 1),.c (.b false)]) (.W [.call 42 [45] 0] [] (.W [.not 48] [] z09o)))
def zdv:T :=
 .ite 44 (.W [] [.inr 1 38 43] (.W [.idx 38 43 0] [] (.W [.len 42] [] z09p))) (.W [.B .add 20 (zI 1)] [] (.again 0
 [40,41,42,45]))
def z09q:T :=
 .W [.mk 1 [[zI 0],[30]]] [] (.W [.len 38] [] (.loop [17,18,34,zI 0] (.W [.B .lss 43 39] [] zdv)))
def z09r:T :=
 .ite 51 (.ret [.c (.nil 1),.c (.b false)]) (.W [.mk 1 [[47]]] [] (.W [.app 1 44 52] [] (.W [.B .add 45 (zI 1)] [] (.again 1 [42,.v
 43,53,54]))))
def z09s:T :=
 .W [.B .geq 48 (zI 16)] [] (.ite 49 (.ret [.c (.nil 1),.c (.b false)]) (.W [.call 42 [47] 0] [] (.W [.not 50] [] z09r)))
def zae:T :=
 .ite 46 (.W [] [.inr 1 40 45] (.W [.idx 40 45 0] [] (.W [.len 44] [] z09s))) (.W [.B .add 20 (zI 1)] [] (.again 0
 [42,43,44,47]))
def z09t:T :=
 .W [.B .add 30 (zI 0)] [] (.W [.mk 1 [[39]]] [] (.W [.len 40] [] (.loop [17,18,34,zI 0] (.W [.B .lss 45 41] []
 zae))))
def z09u:T :=
 .ite 52 (.ret [.c (.nil 1),.c (.b false)]) (.W [.mk 1 [[48]]] [] (.W [.app 1 45 53] [] (.W [.B .add 46 (zI 1)] [] (.again 1 [43,.v
 44,54,55]))))
def z09v:T :=
 .W [.B .geq 49 (zI 16)] [] (.ite 50 (.ret [.c (.nil 1),.c (.b false)]) (.W [.call 42 [48] 0] [] (.W [.not 51] [] z09u)))
def zdw:T :=
 .ite 47 (.W [] [.inr 1 41 46] (.W [.idx 41 46 0] [] (.W [.len 45] [] z09v))) (.W [.B .add 20 (zI 1)] [] (.again 0
 [43,44,45,48]))
def z09w:T :=
 .W [.B .sub 30 (zI 0)] [] (.W [.mk 1 [[40]]] [] (.W [.len 41] [] (.loop [17,18,34,zI 0] (.W [.B .lss 46 42] []
 zdw))))
def z09x:T :=
 .ite 41 (.W [.mk 1 [[zI 1]]] [] (.W [.len 42] [] (.loop [17,18,34,zI 0] (.W [.B .lss 47 43] [] z8n)))) (.W
 [.mk 1 [[zI 0]]] [] (.W [.len 42] [] (.loop [17,18,34,zI 0] (.W [.B .lss 47 43] [] z8n))))
def z09y:T :=
 .ite 42 (.W [.mk 1 [[zI 1]]] [] (.W [.len 43] [] (.loop [17,18,34,zI 0] (.W [.B .lss 48 44] [] z8o)))) (.W
 [.mk 1 [[zI 0]]] [] (.W [.len 43] [] (.loop [17,18,34,zI 0] (.W [.B .lss 48 44] [] z8o))))
def z09z:T :=
 .ite 56 (.ret [.c (.nil 1),.c (.b false)]) (.W [.mk 1 [[52]]] [] (.W [.app 1 49 57] [] (.W [.B .add 50 (zI 1)] [] (.again 1 [47,.v
 48,58,59]))))
def zjy:T :=
 .W [.B .geq 53 (zI 16)] [] (.ite 54 (.ret [.c (.nil 1),.c (.b false)]) (.W [.call 42 [52] 0] [] (.W [.not 55] [] z09z)))
def zaf:T :=
 .ite 51 (.W [] [.inr 1 45 50] (.W [.idx 45 50 0] [] (.W [.len 49] [] zjy))) (.W [.B .add 20 (zI 1)] [] (.again 0
 [47,48,49,52]))
def zjz:T :=
 .ite 44 (.W [.mk 1 [[zI 1]]] [] (.W [.len 45] [] (.loop [17,18,34,zI 0] (.W [.B .lss 50 46] [] zaf)))) (.W
 [.mk 1 [[zI 0]]] [] (.W [.len 45] [] (.loop [17,18,34,zI 0] (.W [.B .lss 50 46] [] zaf))))
def z0a0:T :=
 .ite 51 (.W [] [.inr 1 (.c (.nil 1)) 50] (.W [.idx (.c (.nil 1)) 50 0] [] (.W [.len 49] [] zjy))) (.W [.B .add 20 (zI 1)]
 [] (.again 0 [47,48,49,52]))
def z0a1:T :=
 .ite 45 (.ret [.c (.nil 1),.c (.b false)]) (.W [.len (.c (.nil 1))] [] (.loop [17,18,34,zI 0] (.W [.B .lss 50 46] [] z0a0)))
def z0a2:T :=
 .W [.B .add 51 (zI 104729)] [] (.W [.B .rem 52 (zI 1000003)] [] (.W [.B .add 49 (zI 1)] [] (.again 1 [53,54])))
def z0a3:T :=
 .ite 63 (.ret [.c (.nil 1),.c (.b false)]) (.W [.mk 1 [[59]]] [] (.W [.app 1 56 64] [] (.W [.B .add 57 (zI 1)] [] (.again 2 [54,.v
 55,65,66]))))
def z0a4:T :=
 .W [.B .geq 60 (zI 16)] [] (.ite 61 (.ret [.c (.nil 1),.c (.b false)]) (.W [.call 42 [59] 0] [] (.W [.not 62] [] z0a3)))
def z0a5:T :=
 .ite 58 (.W [] [.inr 1 52 57] (.W [.idx 52 57 0] [] (.W [.len 56] [] z0a4))) (.W [.B .add 20 (zI 1)] [] (.again 0
 [54,55,56,59]))
def z0a6:T :=
 .W [.B .rem 48 (zI 1000001)] [] (.W [.mk 1 [[51]]] [] (.W [.len 52] [] (.loop [17,18,34,zI 0] (.W [.B .lss 57 (.v
 53)] [] z0a5))))
def z0a7:T :=
 .loop [47,zI 0] (.W [.B .lss 49 (zI 3)] [] (.ite 50 (.W [.B .mul 48 (zI 7919)] [] z0a2) z0a6))
def z0a8:T :=
 .ite 52 (.W [] [.inr 1 (.c (.nil 1)) 51] (.W [.idx (.c (.nil 1)) 51 0] [] (.W [.len 50] [] zjq))) (.W [.B .add 20 (zI 1)]
 [] (.again 0 [48,49,50,53]))
def z0a9:T :=
 .ite 46 (.W [.B .add 30 (zI 1000000)] [] z0a7) (.W [.len (.c (.nil 1))] [] (.loop [17,18,34,zI 0] (.W [.B .lss 51
 47] [] z0a8)))
def z0aa:T :=
 .ite 45 (.W [.mk 1 [[2]]] [] (.W [.len 46] [] (.loop [17,18,34,zI 0] (.W [.B .lss 51 47] [] zac)))) (.W [.B
 .eql 22 (zI 13)] [] z0a9)
def z0ab:T :=
 .W [.B .eql 22 (zI 11)] [] (.ite 44 (.W [.B .eql 30 (zI 0)] [] z0a1) (.W [.B .eql 22 (zI 12)] []
 z0aa))
def z0ac:T :=
 .ite 42 (.W [.B .mul 30 (zI 0)] [] (.W [.B .neq 43 (zI 0)] [] zjz)) (.W [.B .eql 22 (zI 9)] [] (.ite (.v
 43) (.W [.B .eql 30 (zI 0)] [] zjz) z0ab))
def z0ad:T :=
 .W [.B .eql 22 (zI 8)] [] (.ite 41 (.W [.B .lss 30 (zI 0)] [] z09y) (.W [.B .eql 22 (zI 10)] []
 z0ac))
def z0ae:T :=
 .ite 39 z09w (.W [.B .eql 22 (zI 7)] [] (.ite 40 (.W [.B .eql 30 (zI 0)] [] z09x) z0ad))
def z0af:T :=
 .ite 37 z09q (.W [.B .eql 22 (zI 5)] [] (.ite 38 z09t (.W [.B .eql 22 (zI 6)] [] z0ae)))
def z0ag:T :=
 .ite 36 (.W [.mk 1 [[30],[30]]] [] (.W [.len 37] [] (.loop [17,18,34,zI 0] (.W [.B .lss 42 38] [] zjx)))) (.W
 [.B .eql 22 (zI 3)] [] z0af)
def z0ah:T :=
 .ite 35 (.W [.mk 1 [[23]]] [] (.W [.len 36] [] (.loop [17,18,34,zI 0] (.W [.B .lss 41 37] [] z09l)))) (.W [.B
 .eql 22 (zI 2)] [] z0ag)
def z0ai:T :=
 .W [.len 19] [] (.W [.B .sub 32 24] [] (.W [.sub 1 19 none (some 33)] [] (.W [.B .eql 22 (zI 1)] [] z0ah)))
def z0aj:T :=
 .W [.B .eql 24 (zI 2)] [] (.ite 31 (.W [.len 19] [] (.W [.B .sub 32 (zI 2)] [] (.W [] [.inr 1 19 33]
 z09i))) z0ai)
def z0ak:T :=
 .ite 50 (.ret [.c (.nil 1),.c (.b false)]) (.W [.mk 1 [[46]]] [] (.W [.app 1 43 51] [] (.W [.B .add 44 (zI 1)] [] (.again 1 [41,.v
 42,52,53]))))
def z0al:T :=
 .W [.B .geq 47 (zI 16)] [] (.ite 48 (.ret [.c (.nil 1),.c (.b false)]) (.W [.call 42 [46] 0] [] (.W [.not 49] [] z0ak)))
def z0am:T :=
 .ite 45 (.W [] [.inr 1 39 44] (.W [.idx 39 44 0] [] (.W [.len 43] [] z0al))) (.W [.B .add 20 (zI 1)] [] (.again 0
 [41,42,43,46]))
def z0an:T :=
 .W [.B .add 31 34] [] (.W [.mk 1 [[42]]] [] (.W [.len 43] [] (.loop [17,18,37,zI 0] (.W [.B .lss 48 44] []
 z8o))))
def zyl:T :=
 .W [.B .sub 31 34] [] (.W [.mk 1 [[43]]] [] (.W [.len 44] [] (.loop [17,18,37,zI 0] (.W [.B .lss 49 45] []
 zli))))
def zym:T :=
 .ite 44 (.W [.mk 1 [[zI 1]]] [] (.W [.len 45] [] (.loop [17,18,37,zI 0] (.W [.B .lss 50 46] [] zaf)))) (.W
 [.mk 1 [[zI 0]]] [] (.W [.len 45] [] (.loop [17,18,37,zI 0] (.W [.B .lss 50 46] [] zaf))))
def zyn:T :=
 .ite 45 (.W [.mk 1 [[zI 1]]] [] (.W [.len 46] [] (.loop [17,18,37,zI 0] (.W [.B .lss 51 47] [] zac)))) (.W
 [.mk 1 [[zI 0]]] [] (.W [.len 46] [] (.loop [17,18,37,zI 0] (.W [.B .lss 51 47] [] zac))))
def zi3:T :=
 .ite 47 (.W [.mk 1 [[zI 1]]] [] (.W [.len 48] [] (.loop [17,18,37,zI 0] (.W [.B .lss 53 49] [] zad)))) (.W
 [.mk 1 [[zI 0]]] [] (.W [.len 48] [] (.loop [17,18,37,zI 0] (.W [.B .lss 53 49] [] zad))))
def zyo:T :=
 .ite 54 (.W [] [.inr 1 (.c (.nil 1)) 53] (.W [.idx (.c (.nil 1)) 53 0] [] (.W [.len 52] [] zjr))) (.W [.B .add 20 (zI 1)]
 [] (.again 0 [50,51,52,55]))
def zyp:T :=
 .ite 48 (.ret [.c (.nil 1),.c (.b false)]) (.W [.len (.c (.nil 1))] [] (.loop [17,18,37,zI 0] (.W [.B .lss 53 49] [] zyo)))
def zyq:T :=
 .W [.B .add 54 (zI 104729)] [] (.W [.B .rem 55 (zI 1000003)] [] (.W [.B .add 52 (zI 1)] [] (.again 1 [56,57])))
def zyr:T :=
 .ite 66 (.ret [.c (.nil 1),.c (.b false)]) (.W [.mk 1 [[62]]] [] (.W [.app 1 59 67] [] (.W [.B .add 60 (zI 1)] [] (.again 2 [57,.v
 58,68,69]))))
def zys:T :=
 .W [.B .geq 63 (zI 16)] [] (.ite 64 (.ret [.c (.nil 1),.c (.b false)]) (.W [.call 42 [62] 0] [] (.W [.not 65] [] zyr)))
def zyt:T :=
 .ite 61 (.W [] [.inr 1 55 60] (.W [.idx 55 60 0] [] (.W [.len 59] [] zys))) (.W [.B .add 20 (zI 1)] [] (.again 0
 [57,58,59,62]))
def zyu:T :=
 .W [.B .rem 51 (zI 1000001)] [] (.W [.mk 1 [[54]]] [] (.W [.len 55] [] (.loop [17,18,37,zI 0] (.W [.B .lss 60 (.v
 56)] [] zyt))))
def zyv:T :=
 .loop [50,zI 0] (.W [.B .lss 52 (zI 3)] [] (.ite 53 (.W [.B .mul 51 (zI 7919)] [] zyq) zyu))
def zyw:T :=
 .ite 55 (.W [] [.inr 1 (.c (.nil 1)) 54] (.W [.idx (.c (.nil 1)) 54 0] [] (.W [.len 53] [] zjs))) (.W [.B .add 20 (zI 1)]
 [] (.again 0 [51,52,53,56]))
def zyx:T :=
 .ite 49 (.W [.B .add 31 (zI 1000000)] [] zyv) (.W [.len (.c (.nil 1))] [] (.loop [17,18,37,zI 0] (.W [.B .lss (.v
 54) 50] [] zyw)))
def zyy:T :=
 .ite 48 (.W [.mk 1 [[2]]] [] (.W [.len 49] [] (.loop [17,18,37,zI 0] (.W [.B .lss 54 50] [] zdu)))) (.W [.B
 .eql 22 (zI 13)] [] zyx)
def zyz:T :=
 .W [.B .eql 22 (zI 11)] [] (.ite 47 (.W [.B .eql 31 (zI 0)] [] zyp) (.W [.B .eql 22 (zI 12)] []
 zyy))
def zz0:T :=
 .ite 45 (.W [.B .mul 31 34] [] (.W [.B .neq 46 (zI 0)] [] zi3)) (.W [.B .eql 22 (zI 9)] [] (.ite 46 (.W
 [.B .eql 31 (zI 0)] [] zi3) zyz))
def zz1:T :=
 .W [.B .eql 22 (zI 8)] [] (.ite 44 (.W [.B .lss 31 34] [] zyn) (.W [.B .eql 22 (zI 10)] [] zz0))
def zz2:T :=
 .W [.B .eql 22 (zI 6)] [] (.ite 42 zyl (.W [.B .eql 22 (zI 7)] [] (.ite 43 (.W [.B .eql 31 34] []
 zym) zz1)))
def zz3:T :=
 .ite 40 (.W [.mk 1 [[34],[31]]] [] (.W [.len 41] [] (.loop [17,18,37,zI 0] (.W [.B .lss 46 42] [] zdw)))) (.W
 [.B .eql 22 (zI 5)] [] (.ite 41 z0an zz2))
def zz4:T :=
 .ite 39 (.W [.mk 1 [[31],[31]]] [] (.W [.len 40] [] (.loop [17,18,37,zI 0] (.W [.B .lss 45 41] [] zae)))) (.W
 [.B .eql 22 (zI 3)] [] zz3)
def zz5:T :=
 .ite 38 (.W [.mk 1 [[23]]] [] (.W [.len 39] [] (.loop [17,18,37,zI 0] (.W [.B .lss 44 40] [] z0am)))) (.W [.B
 .eql 22 (zI 2)] [] zz4)
def zz6:T :=
 .W [.len 19] [] (.W [.B .sub 35 24] [] (.W [.sub 1 19 none (some 36)] [] (.W [.B .eql 22 (zI 1)] [] zz5)))
def zz7:T :=
 .W [.idx 19 30 0] [] (.W [.len 19] [] (.W [.B .sub 32 (zI 1)] [] (.W [] [.inr 1 19 33] (.W [.idx 19 33 0] []
 zz6))))
def zz8:T :=
 .ite 44 (.ret [.c (.nil 1),.c (.b false)]) (.W [.mk 1 [[40]]] [] (.W [.app 1 37 45] [] (.W [.B .add 38 (zI 1)] [] (.again 1 [35,.v
 36,46,47]))))
def zz9:T :=
 .W [.B .geq 41 (zI 16)] [] (.ite 42 (.ret [.c (.nil 1),.c (.b false)]) (.W [.call 42 [40] 0] [] (.W [.not 43] [] zz8)))
def zza:T :=
 .ite 39 (.W [] [.inr 1 33 38] (.W [.idx 33 38 0] [] (.W [.len 37] [] zz9))) (.W [.B .add 20 (zI 1)] [] (.again 0
 [35,36,37,40]))
def zzb:T :=
 .ite 45 (.ret [.c (.nil 1),.c (.b false)]) (.W [.mk 1 [[41]]] [] (.W [.app 1 38 46] [] (.W [.B .add 39 (zI 1)] [] (.again 1 [36,.v
 37,47,48]))))
def zzc:T :=
 .W [.B .geq 42 (zI 16)] [] (.ite 43 (.ret [.c (.nil 1),.c (.b false)]) (.W [.call 42 [41] 0] [] (.W [.not 44] [] zzb)))
def zzd:T :=
 .ite 40 (.W [] [.inr 1 34 39] (.W [.idx 34 39 0] [] (.W [.len 38] [] zzc))) (.W [.B .add 20 (zI 1)] [] (.again 0
 [36,37,38,41]))
def zze:T :=
 .W [.mk 1 [[zI 0],[zI 0]]] [] (.W [.len 34] [] (.loop [17,18,31,zI 0] (.W [.B .lss 39 35] [] zzd)))
def zzf:T :=
 .ite 46 (.ret [.c (.nil 1),.c (.b false)]) (.W [.mk 1 [[42]]] [] (.W [.app 1 39 47] [] (.W [.B .add 40 (zI 1)] [] (.again 1 [37,.v
 38,48,49]))))
def zzg:T :=
 .W [.B .geq 43 (zI 16)] [] (.ite 44 (.ret [.c (.nil 1),.c (.b false)]) (.W [.call 42 [42] 0] [] (.W [.not 45] [] zzf)))
def zzh:T :=
 .ite 41 (.W [] [.inr 1 35 40] (.W [.idx 35 40 0] [] (.W [.len 39] [] zzg))) (.W [.B .add 20 (zI 1)] [] (.again 0
 [37,38,39,42]))
def zzi:T :=
 .W [.mk 1 [[zI 0],[zI 0]]] [] (.W [.len 35] [] (.loop [17,18,31,zI 0] (.W [.B .lss 40 36] [] zzh)))
def zzj:T :=
 .W [.B .add (zI 0) (zI 0)] [] (.W [.mk 1 [[36]]] [] (.W [.len 37] [] (.loop [17,18,31,zI 0] (.W [.B .lss 42
 38] [] zjx))))
def zzk:T :=
 .W [.B .sub (zI 0) (zI 0)] [] (.W [.mk 1 [[37]]] [] (.W [.len 38] [] (.loop [17,18,31,zI 0] (.W [.B .lss 43
 39] [] zdv))))
def zzl:T :=
 .ite 39 (.W [.mk 1 [[zI 1]]] [] (.W [.len 40] [] (.loop [17,18,31,zI 0] (.W [.B .lss 45 41] [] zae)))) (.W
 [.mk 1 [[zI 0]]] [] (.W [.len 40] [] (.loop [17,18,31,zI 0] (.W [.B .lss 45 41] [] zae))))
def zzm:T :=
 .ite 41 (.W [.mk 1 [[zI 1]]] [] (.W [.len 42] [] (.loop [17,18,31,zI 0] (.W [.B .lss 47 43] [] z8n)))) (.W
 [.mk 1 [[zI 0]]] [] (.W [.len 42] [] (.loop [17,18,31,zI 0] (.W [.B .lss 47 43] [] z8n))))
def zzn:T :=
 .W [.B .add 48 (zI 104729)] [] (.W [.B .rem 49 (zI 1000003)] [] (.W [.B .add 46 (zI 1)] [] (.again 1 [50,51])))
def zzo:T :=
 .ite 60 (.ret [.c (.nil 1),.c (.b false)]) (.W [.mk 1 [[56]]] [] (.W [.app 1 53 61] [] (.W [.B .add 54 (zI 1)] [] (.again 2 [51,.v
 52,62,63]))))
def zzp:T :=
 .W [.B .geq 57 (zI 16)] [] (.ite 58 (.ret [.c (.nil 1),.c (.b false)]) (.W [.call 42 [56] 0] [] (.W [.not 59] [] zzo)))
def zzq:T :=
 .ite 55 (.W [] [.inr 1 49 54] (.W [.idx 49 54 0] [] (.W [.len 53] [] zzp))) (.W [.B .add 20 (zI 1)] [] (.again 0
 [51,52,53,56]))
def zzr:T :=
 .W [.B .rem 45 (zI 1000001)] [] (.W [.mk 1 [[48]]] [] (.W [.len 49] [] (.loop [17,18,31,zI 0] (.W [.B .lss 54 (.v
 50)] [] zzq))))
def zzs:T :=
 .loop [44,zI 0] (.W [.B .lss 46 (zI 3)] [] (.ite 47 (.W [.B .mul 45 (zI 7919)] [] zzn) zzr))
def zzt:T :=
 .ite 49 (.W [] [.inr 1 (.c (.nil 1)) 48] (.W [.idx (.c (.nil 1)) 48 0] [] (.W [.len 47] [] zlh))) (.W [.B .add 20 (zI 1)] []
 (.again 0 [45,46,47,50]))
def zzu:T :=
 .ite 43 (.W [.B .add (zI 0) (zI 1000000)] [] zzs) (.W [.len (.c (.nil 1))] [] (.loop [17,18,31,zI 0] (.W [.B
 .lss 48 44] [] zzt)))
def zzv:T :=
 .ite 42 (.W [.mk 1 [[2]]] [] (.W [.len 43] [] (.loop [17,18,31,zI 0] (.W [.B .lss 48 44] [] z8o)))) (.W [.B .eql
 22 (zI 13)] [] zzu)
def zzw:T :=
 .ite 40 (.W [.mk 1 [[zI 1]]] [] (.W [.len 41] [] (.loop [17,18,31,zI 0] (.W [.B .lss 46 42] [] zdw)))) (.W
 [.B .eql 22 (zI 11)] [] (.ite 41 (.ret [.c (.nil 1),.c (.b false)]) (.W [.B .eql 22 (zI 12)] [] zzv)))
def zzx:T :=
 .ite 39 (.W [.B .mul (zI 0) (zI 0)] [] (.W [.B .neq 40 (zI 0)] [] zzm)) (.W [.B .eql 22 (zI 9)] []
 zzw)
def zzy:T :=
 .W [.B .eql 22 (zI 8)] [] (.ite 38 (.W [.B .lss (zI 0) (zI 0)] [] zzl) (.W [.B .eql 22 (zI 10)] []
 zzx))
def zzz:T :=
 .ite 37 (.W [.mk 1 [[zI 1]]] [] (.W [.len 38] [] (.loop [17,18,31,zI 0] (.W [.B .lss 43 39] [] zdv))))
 zzy
def z000:T :=
 .ite 35 zzj (.W [.B .eql 22 (zI 6)] [] (.ite 36 zzk (.W [.B .eql 22 (zI 7)] [] zzz)))
def z001:T :=
 .ite 33 zze (.W [.B .eql 22 (zI 3)] [] (.ite 34 zzi (.W [.B .eql 22 (zI 5)] [] z000)))
def z002:T :=
 .ite 32 (.W [.mk 1 [[23]]] [] (.W [.len 33] [] (.loop [17,18,31,zI 0] (.W [.B .lss 38 34] [] zza)))) (.W [.B
 .eql 22 (zI 2)] [] z001)
def z003:T :=
 .W [.len 19] [] (.W [.B .sub 29 24] [] (.W [.sub 1 19 none (some 30)] [] (.W [.B .eql 22 (zI 1)] [] z002)))
def z004:T :=
 .W [.B .eql 24 (zI 2)] [] (.ite 28 (.W [.len 19] [] (.W [.B .sub 29 (zI 2)] [] (.W [] [.inr 1 19 30]
 zz7))) z003)
def z005:T :=
 .ite 27 (.W [.len 19] [] (.W [.B .sub 28 (zI 1)] [] (.W [] [.inr 1 19 29] (.W [.idx 19 29 0] [] z0aj))))
 z004
def z006:T :=
 .W [.len 19] [] (.W [.B .lss 25 24] [] (.ite 26 (.ret [.c (.nil 1),.c (.b false)]) (.W [.B .eql 24 (zI 1)] [] z005)))
def z007:T :=
 .ite 21 (.W [] [.inr 2 0 20] (.W [.idx 0 20 0,.idx 0 20 1] [] (.W [.mget [.i .i64 0] 15 22 0] [] z006))) (.ret [.v
 19,.c (.b true)])
def z008:T :=
 .W [.mput 1 14 (zI 13) [zI 1]] [] (.W [.len 0] [] (.loop [.c (.nil 1),.c (.b false),4,zI 0] (.W [.B .lss 20 16] []
 z007)))
def z009:T :=
 .W [.mput 1 11 (zI 9) [zI 1]] [] (.W [.mput 1 12 (zI 10) [zI 2]] [] (.W [.mput 1 13 (zI 11) [.c (.i .i64
 1)]] [] z008))
def z00a:T :=
 .W [.mput 1 8 (zI 6) [zI 2]] [] (.W [.mput 1 9 (zI 7) [zI 2]] [] (.W [.mput 1 10 (zI 8) [zI 2]]
 [] z009))
def z00b:T :=
 .W [.mput 1 5 (zI 3) [zI 2]] [] (.W [.mput 1 6 (zI 4) [zI 1]] [] (.W [.mput 1 7 (zI 5) [zI 2]] []
 z00a))
def z0f:T :=
 .W [.mk 1 []] [] (.W [.app 1 3 1] [] (.W [.mput 1 (.c (.nil 2)) (zI 2) [zI 1]] [] z00b))
def z0f6:T :=
 .ite 8 (.W [] [.inr 1 5 (zI 0)] (.W [.idx 5 (zI 0) 0] [] (.W [.B .neq 9 (zI 0)] [] (.ret [10])))) (.ret [.c (.b
 false)])
def z0f7:T :=
 .W [.call 43 [0,3,2] 0,.call 43 [0,3,2] 1] [] (.ite 6 (.W [.len 5] [] (.W [.B .eql 7 (zI 1)] [] z0f6)) (.ret [.c
 (.b false)]))
def zk0:T :=
 .W [.call 43 [1,.c (.nil 1),2] 0,.call 43 [1,.c (.nil 1),2] 1] [] (.ite 4 z0f7 (.ret [.c (.b false)]))
theorem z0sn:Meets Tryz.prog z6t 155 ⟨[.one],[(false,[.scal])],true⟩:=by
 refine zf (sp:=(zy [])) (sigs:=z05) (cut:=[]) (hints:=[]) (fn:=Tryz.f155) (t:=zsy) (by kernel_rfl) (by kernel_rfl) (by kernel_rfl) ?_ ?_
 ·exact (zr (L:=[]) trivial)
 ·rintro ds rs - h
  obtain ⟨n,-,rfl,rfl⟩:=zg h;clear h;refine ⟨⟨1,?_⟩,z04 rfl⟩
  show den _ _ zsy [I n] []=ret (decide (-1000000≤n∧n≤1000000))
  rw [Bool.decide_and];unfold zsy
  repeat' (first|refine dq1 ?_|exact z5 rfl rfl|refine tU (fun h=>?_) fun h=>?_|fail)
noncomputable def zct:za:=spD (fun x:List Op × List Int × Int=>z9 x.1=0∧z1k x.2.1) fun x=>zfe (z2y x.2.2 x.2.1 x.1)
theorem zi4 (l:List Op) (s:List Int) (h:Int) (hl:z9 l=0) (hs:z1k s):zct [.l 2 (l.map eOp),.l 1 (s.map zk),I h]=some [.l 1 ((zfe (z2y h s l)).1.map zk),.b (zfe (z2y h s l)).2]:=ze (p:=fun x:List Op × List Int × Int=>z9 x.1=0∧z1k x.2.1) (f:=fun x:List Op × List Int × Int=>zfe (z2y x.2.2 x.2.1 x.1)) (l,s,h) ⟨hl,hs⟩
theorem z0pu {sp:Nat→za} {E:Env} {a b:Atom} {m n y:Int} (ha:a.val E=some (I m)) (hb:b.val E=some (I n)) (h:n≠0) (hy:m.tmod n=y):denX sp E (.B .rem a b)=some (I y):=by
 rw [zrj ha hb h,hy]
theorem z0n2 {o:Op} (h:z4a o=0):1≤o.kind∧o.kind≤13:=by
 unfold z4a at h
 split at h
 ·cases h
 ·split at h
  ·cases h
  ·omega
theorem z0uu {l:List Op} (h:z9 l=0):l.length≤16∧∀ o ∈ l,z4a o=0:=by
 have key:∀ l:List Op,z5p l=0→∀ o ∈ l,z4a o=0:=by
  intro l
  induction l with
  | nil=>intro _ o ho;cases ho
  | cons x l ih =>
   intro h;rw [z5p] at h
   split at h
   ·rename_i hx;exact absurd h hx
   ·rename_i hx
    intro o ho;rcases zY0g.1 ho with rfl|ho
    ·exact zY0u.1 hx
    ·exact ih h o ho
 unfold z9 at h
 split at h
 ·cases h
 ·exact ⟨by omega,key l h⟩
noncomputable def z5y:Nat→za:=zy [(42,z6t)]
def z1u:T→T
 | .W _ _ k=>z1u k
 | .loop _ b=>b
 | t=>t
def zag (l:List Op) (s0:List Int) (ht:Int):Env:=[.l 2 (l.map eOp),.l 1 (s0.map zk),I ht,.l 1 [],.l 1 (s0.map zk),.l 2 [[I 2,I 1]],.l 2 [[I 2,I 1],[I 3,I 2]],.l 2 [[I 2,I 1],[I 3,I 2],[I 4,I 1]],.l 2 [[I 2,I 1],[I 3,I 2],[I 4,I 1],[I 5,I 2]],.l 2 [[I 2,I 1],[I 3,I 2],[I 4,I 1],[I 5,I 2],[I 6,I 2]],.l 2 [[I 2,I 1],[I 3,I 2],[I 4,I 1],[I 5,I 2],[I 6,I 2],[I 7,I 2]],.l 2 [[I 2,I 1],[I 3,I 2],[I 4,I 1],[I 5,I 2],[I 6,I 2],[I 7,I 2],[I 8,I 2]],.l 2 [[I 2,I 1],[I 3,I 2],[I 4,I 1],[I 5,I 2],[I 6,I 2],[I 7,I 2],[I 8,I 2],[I 9,I 1]],.l 2 [[I 2,I 1],[I 3,I 2],[I 4,I 1],[I 5,I 2],[I 6,I 2],[I 7,I 2],[I 8,I 2],[I 9,I 1],[I 10,I 2]],.l 2 [[I 2,I 1],[I 3,I 2],[I 4,I 1],[I 5,I 2],[I 6,I 2],[I 7,I 2],[I 8,I 2],[I 9,I 1],[I 10,I 2],[I 11,I 1]],.l 2 [[I 2,I 1],[I 3,I 2],[I 4,I 1],[I 5,I 2],[I 6,I 2],[I 7,I 2],[I 8,I 2],[I 9,I 1],[I 10,I 2],[I 11,I 1],[I 13,I 1]],I l.length]
def z7e (kd:Int):Prop:=∀ (l:List Op) (s0 s:List Int) (ht nn:Int) (k:Nat) (R:List Int × Bool) (again:List Dt→Option (List Dt)),l.length≤16→s.length≤16→z1k s→k<l.length→l[k]? = some ⟨kd,nn⟩ →
 (z30 ht s ⟨kd,nn⟩=none→R=([],false))→(∀ s',z30 ht s ⟨kd,nn⟩=some s'→again [.l 1 (([]:List Int).map zk),.b false,.l 1 (s'.map zk),I ((k:Int)+1)]=ret R) →
 den z5y (l.length+6) (z1u z0f) (zag l s0 ht++[.l 1 (([]:List Int).map zk),.b false,.l 1 (s.map zk),I k]) [again]=ret R
theorem z37 {s:List Int} (hfit:z1k s):(s.length=0∧z5e s=none)∨(∃ a t,z3r a∧z5e s=some (a,t)∧(s.length:Int)=t.length+1∧s[((s.length:Int) - 1).toNat]? = some a∧s.take ((s.length:Int) - 1).toNat=t∧((t.length=0∧z5e t=none)∨∃ b u,z3r b∧z5e t=some (b,u)∧(t.length:Int)=u.length+1∧s[((s.length:Int) - 2).toNat]? = some b∧s.take ((s.length:Int) - 2).toNat=u)):=by
 by_cases h0:s.length=0
 ·exact .inl ⟨h0,zej h0⟩
 ·obtain ⟨a,t,p1,p2,p3,p4,p5⟩:=zek h0
  have f1:=z5i hfit p1;refine .inr ⟨a,t,f1.1,p1,p3,p4,p5,?_⟩
  by_cases h1:t.length=0
  ·exact .inl ⟨h1,zej h1⟩
  ·obtain ⟨b,u,q1,q2,q3,q4,q5⟩:=zek h1
   have e1:((s.length:Int) - 2).toNat=u.length:=by omega
   refine .inr ⟨b,u,(z5i f1.2 q1).1,q1,q3,?_,?_⟩
   ·rw [e1,p2,q2];simp
   ·rw [e1,p2,q2];simp
theorem zt {sp:Nat→za} {E:Env} {z:List Lit} {a ka:Atom} {j:Nat} {l:Nat} {rows:List (List Dt)} {n:Int} {d:Dt} (ha:a.val E=some (.l l rows)) (hk:ka.val E=some (I n)) (h:(match z6m n rows with|some v=>v[j]? | none=>(z[j]?).map Lit.dt)=some d):denX sp E (.mget z a ka j)=some d:=by
 simp only [denX,ha,hk,asI];exact h
end
section
open Go.RowKit
set_option maxRecDepth 100000
set_option maxHeartbeats 8000000
attribute [local irreducible] z01 spD z1h za1 z1f z6t
attribute [local irreducible] den denX z0g z0o
theorem z0so:z7e 1:=by
 intro l s0 s ht nn k R again' hl16 hsl hfit hk hx hF hO;have hcase:=z37 hfit;have hs0t:s.take (((s.length:Nat):Int) - 0).toNat=s:=(by rw [show (((s.length:Nat):Int) - 0).toNat=s.length by omega];exact zY1j);simp only [z30,Int.reduceEq,if_true,if_false] at hF hO;unfold zag;with_unfolding_all show den z5y _ (z1u z0f) [_,_,_,_,_,_,_,_,_,_,_,_,_,_,_,_,_,_,_,_,_] _=_;simp only [z0f,z1u]
 rcases hcase with ⟨c1,c2⟩|⟨a,t,fa,p1,p3,p4,p5,⟨c1,c2⟩|⟨b,u,fb,q1,q3,q4,q5⟩⟩
 ·try simp only [c2,z1i,z1q,zY0b] at hF hO
  repeat' (first|refine dq1 ?_|refine dqc ?_|refine dqm ?_|refine dqk rfl (z0s _) ?_|refine dqT ?_|refine dqF ?_|refine z0a rfl ?_|refine z0l rfl ?_|refine z4 (zt (d:=I 0) rfl rfl rfl) ?_|refine z20 (z17 rfl rfl (by omega) (by simp)) ?_|refine z4 (z14 rfl rfl (by omega) rfl rfl) ?_|refine z4 (z23 rfl rfl) ?_|exact z5 rfl (by rw [hF (by (repeat' (first|rw [z2f (by omega)]|fail)))];rfl)|exact z6 rfl rfl (hO _ (by (repeat' (first|rw [z0e (by omega) (by omega) (by omega)]|fail))))|(refine z0t rfl ?_;rw [z06])|(refine z6 rfl rfl ?_;rw [z06])|refine tZn (fun h=>?_) (fun h=>?_)|fail)
 ·try simp only [p1,c2,z1i,z1q,zY0b,zY06] at hF hO
  obtain ⟨fa1,fa2⟩:=id fa
  repeat' (first|refine dq1 ?_|refine dqc ?_|refine dqm ?_|refine dqk rfl (z0s _) ?_|refine dqT ?_|refine dqF ?_|refine z0a rfl ?_|refine z0l rfl ?_|refine z4 (zt (d:=I 0) rfl rfl rfl) ?_|refine z20 (z17 rfl rfl (by omega) (by simp)) ?_|refine z4 (z14 rfl rfl (by omega) rfl rfl) ?_|refine z4 (z23 rfl rfl) ?_|exact z5 rfl (by rw [hF (by (repeat' (first|rw [z2f (by omega)]|fail)))];rfl)|exact z6 rfl rfl (hO _ (by (repeat' (first|rw [z0e (by omega) (by omega) (by omega)]|fail))))|(refine z0t rfl ?_;rw [z06])|(refine z6 rfl rfl ?_;rw [z06])|refine tZn (fun h=>?_) (fun h=>?_)|fail)
 ·try simp only [p1,q1,z1i,z1q,zY0b,zY06] at hF hO
  obtain ⟨fa1,fa2⟩:=id fa;obtain ⟨fb1,fb2⟩:=id fb
  repeat' (first|refine dq1 ?_|refine dqc ?_|refine dqm ?_|refine dqk rfl (z0s _) ?_|refine dqT ?_|refine dqF ?_|refine z0a rfl ?_|refine z0l rfl ?_|refine z4 (zt (d:=I 0) rfl rfl rfl) ?_|refine z20 (z17 rfl rfl (by omega) (by simp)) ?_|refine z4 (z14 rfl rfl (by omega) rfl rfl) ?_|refine z4 (z23 rfl rfl) ?_|exact z5 rfl (by rw [hF (by (repeat' (first|rw [z2f (by omega)]|fail)))];rfl)|exact z6 rfl rfl (hO _ (by (repeat' (first|rw [z0e (by omega) (by omega) (by omega)]|fail))))|(refine z0t rfl ?_;rw [z06])|(refine z6 rfl rfl ?_;rw [z06])|refine z3d rfl (fun h=>?_) (fun h=>?_)|refine tZn (fun h=>?_) (fun h=>?_)|fail)
theorem z0sp:z7e 2:=by
 intro l s0 s ht nn k R again' hl16 hsl hfit hk hx hF hO;have hcase:=z37 hfit;have hs0t:s.take (((s.length:Nat):Int) - 0).toNat=s:=(by rw [show (((s.length:Nat):Int) - 0).toNat=s.length by omega];exact zY1j);simp only [z30,Int.reduceEq,if_true,if_false] at hF hO;unfold zag;with_unfolding_all show den z5y _ (z1u z0f) [_,_,_,_,_,_,_,_,_,_,_,_,_,_,_,_,_,_,_,_,_] _=_;simp only [z0f,z1u]
 rcases hcase with ⟨c1,c2⟩|⟨a,t,fa,p1,p3,p4,p5,⟨c1,c2⟩|⟨b,u,fb,q1,q3,q4,q5⟩⟩
 ·try simp only [c2,z1i,z1q,zY0b] at hF hO
  repeat' (first|refine dq1 ?_|refine dqc ?_|refine dqm ?_|refine dqT ?_|refine z4 (zt (d:=I 1) rfl rfl rfl) ?_|exact z5 rfl (by rw [hF (by (repeat' (first|simp only [zY06,zY0b]|fail)))];rfl)|fail)
 ·try simp only [p1,c2,z1i,z1q,zY0b,zY06] at hF hO
  obtain ⟨fa1,fa2⟩:=id fa
  repeat' (first|refine dq1 ?_|refine dqc ?_|refine dqm ?_|refine dqk rfl (z0s _) ?_|refine dqT ?_|refine dqF ?_|refine z0a rfl ?_|refine z0l rfl ?_|refine z64 ?_|refine z4 (zt (d:=I 1) rfl rfl rfl) ?_|refine z20 (z17 rfl rfl (by omega) (by simp)) ?_|refine z4 (z14 rfl rfl (by omega) rfl rfl) ?_|refine z4 (z1m rfl rfl (by simp)) ?_|refine z4 (z23 rfl rfl) ?_|exact z5 rfl (by rw [hF (by (repeat' (first|rfl|rw [z2f (by (simp only [zY04,zY0a,zY0q] at *;omega))]|fail)))];rfl)|exact z6 rfl rfl (hO _ (by (repeat' (first|rw [z0e (by first|omega|(simp only [zY04,zY0a,zY0q] at *;omega)) (by omega) (by omega)]|simp only [zY06,zY0b]|fail))))|(refine z0t rfl ?_;rw [z06])|(refine z6 rfl rfl ?_;rw [z06])|refine z3d rfl (fun h=>?_) (fun h=>?_)|fail)
 ·try simp only [p1,q1,z1i,z1q,zY0b,zY06] at hF hO
  obtain ⟨fa1,fa2⟩:=id fa;obtain ⟨fb1,fb2⟩:=id fb
  repeat' (first|refine dq1 ?_|refine dqc ?_|refine dqm ?_|refine dqk rfl (z0s _) ?_|refine dqT ?_|refine dqF ?_|refine z0a rfl ?_|refine z0l rfl ?_|refine z64 ?_|refine z4 (zt (d:=I 1) rfl rfl rfl) ?_|refine z20 (z17 rfl rfl (by omega) (by simp)) ?_|refine z4 (z14 rfl rfl (by omega) rfl rfl) ?_|refine z4 (z1m rfl rfl (by simp)) ?_|refine z4 (z23 rfl rfl) ?_|exact z5 rfl (by rw [hF (by (repeat' (first|rw [z2f (by (simp only [zY04,zY0a,zY0q] at *;omega))]|rw [z0e (by omega) (by omega) (by omega)]|simp only [zY06,zY0b]|fail)))];rfl)|exact z6 rfl rfl (hO _ (by (repeat' (first|rw [z0e (by omega) (by omega) (by omega)]|simp only [zY06,zY0b]|fail))))|(refine z0t rfl ?_;rw [z06])|(refine z6 rfl rfl ?_;rw [z06])|refine z3d rfl (fun h=>?_) (fun h=>?_)|fail)
theorem z0sq:z7e 3:=by
 intro l s0 s ht nn k R again' hl16 hsl hfit hk hx hF hO;have hcase:=z37 hfit;have hs0t:s.take (((s.length:Nat):Int) - 0).toNat=s:=(by rw [show (((s.length:Nat):Int) - 0).toNat=s.length by omega];exact zY1j);simp only [z30,Int.reduceEq,if_true,if_false] at hF hO;unfold zag;with_unfolding_all show den z5y _ (z1u z0f) [_,_,_,_,_,_,_,_,_,_,_,_,_,_,_,_,_,_,_,_,_] _=_;simp only [z0f,z1u]
 rcases hcase with ⟨c1,c2⟩|⟨a,t,fa,p1,p3,p4,p5,⟨c1,c2⟩|⟨b,u,fb,q1,q3,q4,q5⟩⟩
 ·try simp only [c2,z1i,z1q,zY0b] at hF hO
  repeat' (first|refine dq1 ?_|refine dqc ?_|refine dqm ?_|refine dqT ?_|refine z4 (zt (d:=I 2) rfl rfl rfl) ?_|exact z5 rfl (by rw [hF (by (repeat' (first|simp only [zY06,zY0b]|fail)))];rfl)|fail)
 ·try simp only [p1,c2,z1i,z1q,zY0b,zY06] at hF hO
  obtain ⟨fa1,fa2⟩:=id fa
  repeat' (first|refine dq1 ?_|refine dqc ?_|refine dqm ?_|refine dqT ?_|refine z4 (zt (d:=I 2) rfl rfl rfl) ?_|exact z5 rfl (by rw [hF (by (repeat' (first|simp only [zY06,zY0b]|fail)))];rfl)|fail)
 ·try simp only [p1,q1,z1i,z1q,zY0b,zY06] at hF hO
  obtain ⟨fa1,fa2⟩:=id fa;obtain ⟨fb1,fb2⟩:=id fb
  repeat' (first|refine dq1 ?_|refine dqc ?_|refine dqm ?_|refine dqk rfl (z0s _) ?_|refine dqT ?_|refine dqF ?_|refine z0a rfl ?_|refine z0l rfl ?_|refine z64 ?_|refine z4 (zt (d:=I 2) rfl rfl rfl) ?_|refine z20 (z17 rfl rfl (by omega) (by simp)) ?_|refine z4 (z14 rfl rfl (by omega) rfl rfl) ?_|refine z4 (z1m rfl rfl (by simp)) ?_|refine z4 (z23 rfl rfl) ?_|exact z5 rfl (by rw [hF (by (repeat' (first|rfl|rw [z2f (by (simp only [zY04,zY0a,zY0q] at *;omega))]|fail)))];rfl)|exact z6 rfl rfl (hO _ (by (repeat' (first|rw [z0e (by first|omega|(simp only [zY04,zY0a,zY0q] at *;omega)) (by omega) (by omega)]|simp only [zY06,zY0b]|fail))))|(refine z0t rfl ?_;rw [z06])|(refine z6 rfl rfl ?_;rw [z06])|refine z3d rfl (fun h=>?_) (fun h=>?_)|fail)
theorem z0sr:z7e 4:=by
 intro l s0 s ht nn k R again' hl16 hsl hfit hk hx hF hO;have hcase:=z37 hfit;have hs0t:s.take (((s.length:Nat):Int) - 0).toNat=s:=(by rw [show (((s.length:Nat):Int) - 0).toNat=s.length by omega];exact zY1j);simp only [z30,Int.reduceEq,if_true,if_false] at hF hO;unfold zag;with_unfolding_all show den z5y _ (z1u z0f) [_,_,_,_,_,_,_,_,_,_,_,_,_,_,_,_,_,_,_,_,_] _=_;simp only [z0f,z1u]
 rcases hcase with ⟨c1,c2⟩|⟨a,t,fa,p1,p3,p4,p5,⟨c1,c2⟩|⟨b,u,fb,q1,q3,q4,q5⟩⟩
 ·try simp only [c2,z1i,z1q,zY0b] at hF hO
  repeat' (first|refine dq1 ?_|refine dqc ?_|refine dqm ?_|refine dqT ?_|refine z4 (zt (d:=I 1) rfl rfl rfl) ?_|exact z5 rfl (by rw [hF (by (repeat' (first|simp only [zY06,zY0b]|fail)))];rfl)|fail)
 ·try simp only [p1,c2,z1i,z1q,zY0b,zY06] at hF hO
  obtain ⟨fa1,fa2⟩:=id fa
  repeat' (first|refine dq1 ?_|refine dqc ?_|refine dqm ?_|refine dqT ?_|refine dqF ?_|refine z0a rfl ?_|refine z4 (zt (d:=I 1) rfl rfl rfl) ?_|exact z6 rfl rfl (hO _ (by (repeat' (first|rfl|fail))))|(refine z0t rfl ?_;rw [z06])|fail)
 ·try simp only [p1,q1,z1i,z1q,zY0b,zY06] at hF hO
  obtain ⟨fa1,fa2⟩:=id fa;obtain ⟨fb1,fb2⟩:=id fb
  repeat' (first|refine dq1 ?_|refine dqc ?_|refine dqm ?_|refine dqT ?_|refine dqF ?_|refine z0a rfl ?_|refine z4 (zt (d:=I 1) rfl rfl rfl) ?_|exact z6 rfl rfl (hO _ (by (repeat' (first|rfl|fail))))|(refine z0t rfl ?_;rw [z06])|fail)
end
section
open Go.RowKit
set_option maxRecDepth 100000
set_option maxHeartbeats 8000000
attribute [local irreducible] z01 spD z1h za1 z1f z6t
attribute [local irreducible] den denX z0g z0o
theorem z0ss:z7e 5:=by
 intro l s0 s ht nn k R again' hl16 hsl hfit hk hx hF hO;have hcase:=z37 hfit;have hs0t:s.take (((s.length:Nat):Int) - 0).toNat=s:=(by rw [show (((s.length:Nat):Int) - 0).toNat=s.length by omega];exact zY1j);simp only [z30,Int.reduceEq,if_true,if_false] at hF hO;unfold zag;with_unfolding_all show den z5y _ (z1u z0f) [_,_,_,_,_,_,_,_,_,_,_,_,_,_,_,_,_,_,_,_,_] _=_;simp only [z0f,z1u]
 rcases hcase with ⟨c1,c2⟩|⟨a,t,fa,p1,p3,p4,p5,⟨c1,c2⟩|⟨b,u,fb,q1,q3,q4,q5⟩⟩
 ·try simp only [c2,z1i,z1q,zY0b] at hF hO
  repeat' (first|refine dq1 ?_|refine dqc ?_|refine dqm ?_|refine dqT ?_|refine z4 (zt (d:=I 2) rfl rfl rfl) ?_|exact z5 rfl (by rw [hF (by (repeat' (first|simp only [zY06,zY0b]|fail)))];rfl)|fail)
 ·try simp only [p1,c2,z1i,z1q,zY0b,zY06] at hF hO
  obtain ⟨fa1,fa2⟩:=id fa
  repeat' (first|refine dq1 ?_|refine dqc ?_|refine dqm ?_|refine dqT ?_|refine z4 (zt (d:=I 2) rfl rfl rfl) ?_|exact z5 rfl (by rw [hF (by (repeat' (first|simp only [zY06,zY0b]|fail)))];rfl)|fail)
 ·try simp only [p1,q1,z1i,z1q,zY0b,zY06] at hF hO
  obtain ⟨fa1,fa2⟩:=id fa;obtain ⟨fb1,fb2⟩:=id fb
  repeat' (first|refine dq1 ?_|refine dqc ?_|refine dqm ?_|refine dqk rfl (z0s _) ?_|refine dqT ?_|refine dqF ?_|refine z0a rfl ?_|refine z0l rfl ?_|refine z4 (zt (d:=I 2) rfl rfl rfl) ?_|refine z20 (z17 rfl rfl (by omega) (by simp)) ?_|refine z4 (z14 rfl rfl (by omega) rfl rfl) ?_|refine z4 (z23 rfl rfl) ?_|exact z5 rfl (by rw [hF (by (repeat' (first|rw [z2f (by omega)]|fail)))];rfl)|exact z6 rfl rfl (hO _ (by (repeat' (first|rw [z0e (by omega) (by omega) (by omega)]|fail))))|(refine z0t rfl ?_;rw [z06])|(refine z6 rfl rfl ?_;rw [z06])|refine tZn (fun h=>?_) (fun h=>?_)|fail)
theorem z0st:z7e 6:=by
 intro l s0 s ht nn k R again' hl16 hsl hfit hk hx hF hO;have hcase:=z37 hfit;have hs0t:s.take (((s.length:Nat):Int) - 0).toNat=s:=(by rw [show (((s.length:Nat):Int) - 0).toNat=s.length by omega];exact zY1j);simp only [z30,Int.reduceEq,if_true,if_false] at hF hO;unfold zag;with_unfolding_all show den z5y _ (z1u z0f) [_,_,_,_,_,_,_,_,_,_,_,_,_,_,_,_,_,_,_,_,_] _=_;simp only [z0f,z1u]
 rcases hcase with ⟨c1,c2⟩|⟨a,t,fa,p1,p3,p4,p5,⟨c1,c2⟩|⟨b,u,fb,q1,q3,q4,q5⟩⟩
 ·try simp only [c2,z1i,z1q,zY0b] at hF hO
  repeat' (first|refine dq1 ?_|refine dqc ?_|refine dqm ?_|refine dqT ?_|refine z4 (zt (d:=I 2) rfl rfl rfl) ?_|exact z5 rfl (by rw [hF (by (repeat' (first|simp only [zY06,zY0b]|fail)))];rfl)|fail)
 ·try simp only [p1,c2,z1i,z1q,zY0b,zY06] at hF hO
  obtain ⟨fa1,fa2⟩:=id fa
  repeat' (first|refine dq1 ?_|refine dqc ?_|refine dqm ?_|refine dqT ?_|refine z4 (zt (d:=I 2) rfl rfl rfl) ?_|exact z5 rfl (by rw [hF (by (repeat' (first|simp only [zY06,zY0b]|fail)))];rfl)|fail)
 ·try simp only [p1,q1,z1i,z1q,zY0b,zY06] at hF hO
  obtain ⟨fa1,fa2⟩:=id fa;obtain ⟨fb1,fb2⟩:=id fb
  repeat' (first|refine dq1 ?_|refine dqc ?_|refine dqm ?_|refine dqk rfl (z0s _) ?_|refine dqT ?_|refine dqF ?_|refine z0a rfl ?_|refine z0l rfl ?_|refine z4 (zt (d:=I 2) rfl rfl rfl) ?_|refine z20 (z17 rfl rfl (by omega) (by simp)) ?_|refine z4 (z14 rfl rfl (by omega) rfl rfl) ?_|refine z4 (z23 rfl rfl) ?_|exact z5 rfl (by rw [hF (by (repeat' (first|rw [z2f (by omega)]|fail)))];rfl)|exact z6 rfl rfl (hO _ (by (repeat' (first|rw [z0e (by omega) (by omega) (by omega)]|fail))))|(refine z0t rfl ?_;rw [z06])|(refine z6 rfl rfl ?_;rw [z06])|refine tZn (fun h=>?_) (fun h=>?_)|fail)
theorem z0su:z7e 7:=by
 intro l s0 s ht nn k R again' hl16 hsl hfit hk hx hF hO;have hcase:=z37 hfit;have hs0t:s.take (((s.length:Nat):Int) - 0).toNat=s:=(by rw [show (((s.length:Nat):Int) - 0).toNat=s.length by omega];exact zY1j);simp only [z30,Int.reduceEq,if_true,if_false] at hF hO;unfold zag;with_unfolding_all show den z5y _ (z1u z0f) [_,_,_,_,_,_,_,_,_,_,_,_,_,_,_,_,_,_,_,_,_] _=_;simp only [z0f,z1u]
 rcases hcase with ⟨c1,c2⟩|⟨a,t,fa,p1,p3,p4,p5,⟨c1,c2⟩|⟨b,u,fb,q1,q3,q4,q5⟩⟩
 ·try simp only [c2,z1i,z1q,zY0b] at hF hO
  repeat' (first|refine dq1 ?_|refine dqc ?_|refine dqm ?_|refine dqT ?_|refine z4 (zt (d:=I 2) rfl rfl rfl) ?_|exact z5 rfl (by rw [hF (by (repeat' (first|simp only [zY06,zY0b]|fail)))];rfl)|fail)
 ·try simp only [p1,c2,z1i,z1q,zY0b,zY06] at hF hO
  obtain ⟨fa1,fa2⟩:=id fa
  repeat' (first|refine dq1 ?_|refine dqc ?_|refine dqm ?_|refine dqT ?_|refine z4 (zt (d:=I 2) rfl rfl rfl) ?_|exact z5 rfl (by rw [hF (by (repeat' (first|simp only [zY06,zY0b]|fail)))];rfl)|fail)
 ·try simp only [p1,q1,z1i,z1q,zY0b,zY06] at hF hO
  obtain ⟨fa1,fa2⟩:=id fa;obtain ⟨fb1,fb2⟩:=id fb
  by_cases hab:b=a
  ·have e7:z1f (decide (b=a))=1:=by with_unfolding_all simp [z1f,hab]
   rw [e7] at hF hO
   repeat' (first|refine dq1 ?_|refine dqc ?_|refine dqm ?_|refine dqk rfl (z0s _) ?_|refine dqT ?_|refine dqF ?_|refine z0a rfl ?_|refine z0l rfl ?_|refine z4 (zt (d:=I 2) rfl rfl rfl) ?_|refine z20 (z17 rfl rfl (by omega) (by simp)) ?_|refine z4 (z14 rfl rfl (by omega) rfl rfl) ?_|refine z4 (z23 rfl rfl) ?_|exact z6 rfl rfl (hO _ (by (repeat' (first|rw [z0e (by omega) (by omega) (by omega)]|fail))))|(refine z0t rfl ?_;rw [z06])|(refine z6 rfl rfl ?_;rw [z06])|fail)
  ·have e7:z1f (decide (b=a))=0:=by with_unfolding_all simp [z1f,hab]
   rw [e7] at hF hO
   repeat' (first|refine dq1 ?_|refine dqc ?_|refine dqm ?_|refine dqk rfl (z0s _) ?_|refine dqT ?_|refine dqF ?_|refine z0a rfl ?_|refine z0l rfl ?_|refine z4 (zt (d:=I 2) rfl rfl rfl) ?_|refine z20 (z17 rfl rfl (by omega) (by simp)) ?_|refine z4 (z14 rfl rfl (by omega) rfl rfl) ?_|refine z4 (z23 rfl rfl) ?_|exact z6 rfl rfl (hO _ (by (repeat' (first|rw [z0e (by omega) (by omega) (by omega)]|fail))))|(refine z0t rfl ?_;rw [z06])|(refine z6 rfl rfl ?_;rw [z06])|fail)
theorem z0sv:z7e 8:=by
 intro l s0 s ht nn k R again' hl16 hsl hfit hk hx hF hO;have hcase:=z37 hfit;have hs0t:s.take (((s.length:Nat):Int) - 0).toNat=s:=(by rw [show (((s.length:Nat):Int) - 0).toNat=s.length by omega];exact zY1j);simp only [z30,Int.reduceEq,if_true,if_false] at hF hO;unfold zag;with_unfolding_all show den z5y _ (z1u z0f) [_,_,_,_,_,_,_,_,_,_,_,_,_,_,_,_,_,_,_,_,_] _=_;simp only [z0f,z1u]
 rcases hcase with ⟨c1,c2⟩|⟨a,t,fa,p1,p3,p4,p5,⟨c1,c2⟩|⟨b,u,fb,q1,q3,q4,q5⟩⟩
 ·try simp only [c2,z1i,z1q,zY0b] at hF hO
  repeat' (first|refine dq1 ?_|refine dqc ?_|refine dqm ?_|refine dqT ?_|refine z4 (zt (d:=I 2) rfl rfl rfl) ?_|exact z5 rfl (by rw [hF (by (repeat' (first|simp only [zY06,zY0b]|fail)))];rfl)|fail)
 ·try simp only [p1,c2,z1i,z1q,zY0b,zY06] at hF hO
  obtain ⟨fa1,fa2⟩:=id fa
  repeat' (first|refine dq1 ?_|refine dqc ?_|refine dqm ?_|refine dqT ?_|refine z4 (zt (d:=I 2) rfl rfl rfl) ?_|exact z5 rfl (by rw [hF (by (repeat' (first|simp only [zY06,zY0b]|fail)))];rfl)|fail)
 ·try simp only [p1,q1,z1i,z1q,zY0b,zY06] at hF hO
  obtain ⟨fa1,fa2⟩:=id fa;obtain ⟨fb1,fb2⟩:=id fb
  by_cases hab:b<a
  ·have e7:z1f (decide (b<a))=1:=by with_unfolding_all simp [z1f,hab]
   rw [e7] at hF hO
   repeat' (first|refine dq1 ?_|refine dqc ?_|refine dqm ?_|refine dqk rfl (z0s _) ?_|refine dqT ?_|refine dqF ?_|refine z0a rfl ?_|refine z0l rfl ?_|refine z4 (zt (d:=I 2) rfl rfl rfl) ?_|refine z20 (z17 rfl rfl (by omega) (by simp)) ?_|refine z4 (z14 rfl rfl (by omega) rfl rfl) ?_|refine z4 (z23 rfl rfl) ?_|exact z6 rfl rfl (hO _ (by (repeat' (first|rw [z0e (by omega) (by omega) (by omega)]|fail))))|(refine z0t rfl ?_;rw [z06])|(refine z6 rfl rfl ?_;rw [z06])|fail)
  ·have e7:z1f (decide (b<a))=0:=by with_unfolding_all simp [z1f,hab]
   rw [e7] at hF hO
   repeat' (first|refine dq1 ?_|refine dqc ?_|refine dqm ?_|refine dqk rfl (z0s _) ?_|refine dqT ?_|refine dqF ?_|refine z0a rfl ?_|refine z0l rfl ?_|refine z4 (zt (d:=I 2) rfl rfl rfl) ?_|refine z20 (z17 rfl rfl (by omega) (by simp)) ?_|refine z4 (z14 rfl rfl (by omega) rfl rfl) ?_|refine z4 (z23 rfl rfl) ?_|exact z6 rfl rfl (hO _ (by (repeat' (first|rw [z0e (by omega) (by omega) (by omega)]|fail))))|(refine z0t rfl ?_;rw [z06])|(refine z6 rfl rfl ?_;rw [z06])|fail)
end
section
open Go.RowKit
set_option maxRecDepth 100000
set_option maxHeartbeats 8000000
attribute [local irreducible] z01 spD z1h za1 z1f z6t
attribute [local irreducible] den denX z0g z0o
theorem z0sw:z7e 9:=by
 intro l s0 s ht nn k R again' hl16 hsl hfit hk hx hF hO;have hcase:=z37 hfit;have hs0t:s.take (((s.length:Nat):Int) - 0).toNat=s:=(by rw [show (((s.length:Nat):Int) - 0).toNat=s.length by omega];exact zY1j);simp only [z30,Int.reduceEq,if_true,if_false] at hF hO;unfold zag;with_unfolding_all show den z5y _ (z1u z0f) [_,_,_,_,_,_,_,_,_,_,_,_,_,_,_,_,_,_,_,_,_] _=_;simp only [z0f,z1u]
 rcases hcase with ⟨c1,c2⟩|⟨a,t,fa,p1,p3,p4,p5,-⟩
 ·try simp only [c2,z1i,z1q,zY0b] at hF hO
  repeat' (first|refine dq1 ?_|refine dqc ?_|refine dqm ?_|refine dqT ?_|refine z4 (zt (d:=I 1) rfl rfl rfl) ?_|exact z5 rfl (by rw [hF (by (repeat' (first|simp only [zY06,zY0b]|fail)))];rfl)|fail)
 ·try simp only [p1,z1i,z1q,zY0b,zY06] at hF hO
  obtain ⟨fa1,fa2⟩:=id fa
  by_cases ha0:a=0
  ·have e7:z1f (decide (a=0))=1:=by with_unfolding_all simp [z1f,ha0]
   rw [e7] at hF hO
   repeat' (first|refine dq1 ?_|refine dqc ?_|refine dqm ?_|refine dqk rfl (z0s _) ?_|refine dqT ?_|refine dqF ?_|refine z0a rfl ?_|refine z0l rfl ?_|refine z4 (zt (d:=I 1) rfl rfl rfl) ?_|refine z20 (z17 rfl rfl (by omega) (by simp)) ?_|refine z4 (z14 rfl rfl (by omega) rfl rfl) ?_|refine z4 (z23 rfl rfl) ?_|exact z6 rfl rfl (hO _ (by (repeat' (first|rw [z0e (by omega) (by omega) (by omega)]|fail))))|(refine z0t rfl ?_;rw [z06])|(refine z6 rfl rfl ?_;rw [z06])|fail)
  ·have e7:z1f (decide (a=0))=0:=by with_unfolding_all simp [z1f,ha0]
   rw [e7] at hF hO
   repeat' (first|refine dq1 ?_|refine dqc ?_|refine dqm ?_|refine dqk rfl (z0s _) ?_|refine dqT ?_|refine dqF ?_|refine z0a rfl ?_|refine z0l rfl ?_|refine z4 (zt (d:=I 1) rfl rfl rfl) ?_|refine z20 (z17 rfl rfl (by omega) (by simp)) ?_|refine z4 (z14 rfl rfl (by omega) rfl rfl) ?_|refine z4 (z23 rfl rfl) ?_|exact z6 rfl rfl (hO _ (by (repeat' (first|rw [z0e (by omega) (by omega) (by omega)]|fail))))|(refine z0t rfl ?_;rw [z06])|(refine z6 rfl rfl ?_;rw [z06])|fail)
theorem z0pv:z7e 10:=by
 intro l s0 s ht nn k R again' hl16 hsl hfit hk hx hF hO;have hcase:=z37 hfit;have hs0t:s.take (((s.length:Nat):Int) - 0).toNat=s:=(by rw [show (((s.length:Nat):Int) - 0).toNat=s.length by omega];exact zY1j);simp only [z30,Int.reduceEq,if_true,if_false] at hF hO;unfold zag;with_unfolding_all show den z5y _ (z1u z0f) [_,_,_,_,_,_,_,_,_,_,_,_,_,_,_,_,_,_,_,_,_] _=_;simp only [z0f,z1u]
 rcases hcase with ⟨c1,c2⟩|⟨a,t,fa,p1,p3,p4,p5,⟨c1,c2⟩|⟨b,u,fb,q1,q3,q4,q5⟩⟩
 ·try simp only [c2,z1i,z1q,zY0b] at hF hO
  repeat' (first|refine dq1 ?_|refine dqc ?_|refine dqm ?_|refine dqT ?_|refine z4 (zt (d:=I 2) rfl rfl rfl) ?_|exact z5 rfl (by rw [hF (by (repeat' (first|simp only [zY06,zY0b]|fail)))];rfl)|fail)
 ·try simp only [p1,c2,z1i,z1q,zY0b,zY06] at hF hO
  obtain ⟨fa1,fa2⟩:=id fa
  repeat' (first|refine dq1 ?_|refine dqc ?_|refine dqm ?_|refine dqT ?_|refine z4 (zt (d:=I 2) rfl rfl rfl) ?_|exact z5 rfl (by rw [hF (by (repeat' (first|simp only [zY06,zY0b]|fail)))];rfl)|fail)
 ·try simp only [p1,q1,z1i,z1q,zY0b,zY06] at hF hO
  obtain ⟨fa1,fa2⟩:=id fa;obtain ⟨fb1,fb2⟩:=id fb;have hm0 : -9223372036854775808≤b * a∧b * a≤9223372036854775807:=by
   have h1:(b * a).natAbs≤1000000 * 1000000:=by rw [Int.natAbs_mul];exact Nat.mul_le_mul (by omega) (by omega)
   omega
  by_cases hb0:b=0
  ·have e7:z1f (decide (b≠0) && decide (a≠0))=0:=by with_unfolding_all simp [z1f,hb0]
   rw [e7] at hF hO;have hz:¬ b * a≠0:=by rw [hb0];simp
   repeat' (first|refine dq1 ?_|refine dqc ?_|refine dqm ?_|refine dqk rfl (z0s _) ?_|refine dqT ?_|refine dqF ?_|refine z0a rfl ?_|refine z0l rfl ?_|refine z4 (zt (d:=I 2) rfl rfl rfl) ?_|refine z20 (z17 rfl rfl (by omega) (by simp)) ?_|refine z4 (z14 rfl rfl (by omega) rfl rfl) ?_|refine z4 (z23 rfl rfl) ?_|refine z4 (zfn rfl rfl (by omega)) ?_|exact z6 rfl rfl (hO _ (by (repeat' (first|rw [z0e (by omega) (by omega) (by omega)]|fail))))|(refine z0t rfl ?_;rw [z06])|(refine z6 rfl rfl ?_;rw [z06])|fail)
  ·by_cases ha0:a=0
   ·have e7:z1f (decide (b≠0) && decide (a≠0))=0:=by with_unfolding_all simp [z1f,ha0]
    rw [e7] at hF hO;have hz:¬ b * a≠0:=by rw [ha0];simp
    repeat' (first|refine dq1 ?_|refine dqc ?_|refine dqm ?_|refine dqk rfl (z0s _) ?_|refine dqT ?_|refine dqF ?_|refine z0a rfl ?_|refine z0l rfl ?_|refine z4 (zt (d:=I 2) rfl rfl rfl) ?_|refine z20 (z17 rfl rfl (by omega) (by simp)) ?_|refine z4 (z14 rfl rfl (by omega) rfl rfl) ?_|refine z4 (z23 rfl rfl) ?_|refine z4 (zfn rfl rfl (by omega)) ?_|exact z6 rfl rfl (hO _ (by (repeat' (first|rw [z0e (by omega) (by omega) (by omega)]|fail))))|(refine z0t rfl ?_;rw [z06])|(refine z6 rfl rfl ?_;rw [z06])|fail)
   ·have e7:z1f (decide (b≠0) && decide (a≠0))=1:=by with_unfolding_all simp [z1f,hb0,ha0]
    rw [e7] at hF hO;have hz:b * a≠0:=Int.mul_ne_zero hb0 ha0
    repeat' (first|refine dq1 ?_|refine dqc ?_|refine dqm ?_|refine dqk rfl (z0s _) ?_|refine dqT ?_|refine dqF ?_|refine z0a rfl ?_|refine z0l rfl ?_|refine z4 (zt (d:=I 2) rfl rfl rfl) ?_|refine z20 (z17 rfl rfl (by omega) (by simp)) ?_|refine z4 (z14 rfl rfl (by omega) rfl rfl) ?_|refine z4 (z23 rfl rfl) ?_|refine z4 (zfn rfl rfl (by omega)) ?_|exact z6 rfl rfl (hO _ (by (repeat' (first|rw [z0e (by omega) (by omega) (by omega)]|fail))))|(refine z0t rfl ?_;rw [z06])|(refine z6 rfl rfl ?_;rw [z06])|fail)
theorem z0pw:z7e 11:=by
 intro l s0 s ht nn k R again' hl16 hsl hfit hk hx hF hO;have hcase:=z37 hfit;have hs0t:s.take (((s.length:Nat):Int) - 0).toNat=s:=(by rw [show (((s.length:Nat):Int) - 0).toNat=s.length by omega];exact zY1j);simp only [z30,Int.reduceEq,if_true,if_false] at hF hO;unfold zag;with_unfolding_all show den z5y _ (z1u z0f) [_,_,_,_,_,_,_,_,_,_,_,_,_,_,_,_,_,_,_,_,_] _=_;simp only [z0f,z1u]
 rcases hcase with ⟨c1,c2⟩|⟨a,t,fa,p1,p3,p4,p5,⟨c1,c2⟩|⟨b,u,fb,q1,q3,q4,q5⟩⟩
 ·try simp only [c2,z1i,z1q,zY0b] at hF hO
  repeat' (first|refine dq1 ?_|refine dqc ?_|refine dqm ?_|refine dqT ?_|refine z4 (zt (d:=I 1) rfl rfl rfl) ?_|exact z5 rfl (by rw [hF (by (repeat' (first|simp only [zY06,zY0b]|fail)))];rfl)|fail)
 ·try simp only [p1,c2,z1i,z1q,zY0b,zY06] at hF hO
  obtain ⟨fa1,fa2⟩:=id fa
  repeat' (first|refine dq1 ?_|refine dqc ?_|refine dqm ?_|refine dqT ?_|refine dqF ?_|refine z0a rfl ?_|refine z4 (zt (d:=I 1) rfl rfl rfl) ?_|exact z5 rfl (by rw [hF (by (repeat' (first|rw [if_pos (by omega)]|fail)))];rfl)|exact z6 rfl rfl (hO _ (by (repeat' (first|rw [if_neg (by omega)]|fail))))|(refine z0t rfl ?_;rw [z06])|refine z3d rfl (fun h=>?_) (fun h=>?_)|fail)
 ·try simp only [p1,q1,z1i,z1q,zY0b,zY06] at hF hO
  obtain ⟨fa1,fa2⟩:=id fa;obtain ⟨fb1,fb2⟩:=id fb
  repeat' (first|refine dq1 ?_|refine dqc ?_|refine dqm ?_|refine dqT ?_|refine dqF ?_|refine z0a rfl ?_|refine z4 (zt (d:=I 1) rfl rfl rfl) ?_|exact z5 rfl (by rw [hF (by (repeat' (first|rw [if_pos (by omega)]|fail)))];rfl)|exact z6 rfl rfl (hO _ (by (repeat' (first|rw [if_neg (by omega)]|fail))))|(refine z0t rfl ?_;rw [z06])|refine z3d rfl (fun h=>?_) (fun h=>?_)|fail)
theorem z0px:z7e 12:=by
 intro l s0 s ht nn k R again' hl16 hsl hfit hk hx hF hO;have hcase:=z37 hfit;have hs0t:s.take (((s.length:Nat):Int) - 0).toNat=s:=(by rw [show (((s.length:Nat):Int) - 0).toNat=s.length by omega];exact zY1j);simp only [z30,Int.reduceEq,if_true,if_false] at hF hO;unfold zag;with_unfolding_all show den z5y _ (z1u z0f) [_,_,_,_,_,_,_,_,_,_,_,_,_,_,_,_,_,_,_,_,_] _=_;simp only [z0f,z1u]
 rcases hcase with ⟨c1,c2⟩|⟨a,t,fa,p1,p3,p4,p5,⟨c1,c2⟩|⟨b,u,fb,q1,q3,q4,q5⟩⟩
 ·try simp only [c2,z1i,z1q,zY0b] at hF hO
  repeat' (first|refine dq1 ?_|refine dqc ?_|refine dqm ?_|refine dqk rfl (z0s _) ?_|refine dqT ?_|refine dqF ?_|refine z0a rfl ?_|refine z0l rfl ?_|refine z4 (zt (d:=I 0) rfl rfl rfl) ?_|refine z20 (z17 rfl rfl (by omega) (by simp)) ?_|refine z4 (z14 rfl rfl (by omega) rfl rfl) ?_|refine z4 (z23 rfl rfl) ?_|exact z5 rfl (by rw [hF (by (repeat' (first|rw [z2f (by omega)]|fail)))];rfl)|exact z6 rfl rfl (hO _ (by (repeat' (first|rw [z0e (by omega) (by omega) (by omega)]|fail))))|(refine z0t rfl ?_;rw [z06])|(refine z6 rfl rfl ?_;rw [z06])|refine tZn (fun h=>?_) (fun h=>?_)|fail)
 ·try simp only [p1,c2,z1i,z1q,zY0b,zY06] at hF hO
  obtain ⟨fa1,fa2⟩:=id fa
  repeat' (first|refine dq1 ?_|refine dqc ?_|refine dqm ?_|refine dqk rfl (z0s _) ?_|refine dqT ?_|refine dqF ?_|refine z0a rfl ?_|refine z0l rfl ?_|refine z4 (zt (d:=I 0) rfl rfl rfl) ?_|refine z20 (z17 rfl rfl (by omega) (by simp)) ?_|refine z4 (z14 rfl rfl (by omega) rfl rfl) ?_|refine z4 (z23 rfl rfl) ?_|exact z5 rfl (by rw [hF (by (repeat' (first|rw [z2f (by omega)]|fail)))];rfl)|exact z6 rfl rfl (hO _ (by (repeat' (first|rw [z0e (by omega) (by omega) (by omega)]|fail))))|(refine z0t rfl ?_;rw [z06])|(refine z6 rfl rfl ?_;rw [z06])|refine tZn (fun h=>?_) (fun h=>?_)|fail)
 ·try simp only [p1,q1,z1i,z1q,zY0b,zY06] at hF hO
  obtain ⟨fa1,fa2⟩:=id fa;obtain ⟨fb1,fb2⟩:=id fb
  repeat' (first|refine dq1 ?_|refine dqc ?_|refine dqm ?_|refine dqk rfl (z0s _) ?_|refine dqT ?_|refine dqF ?_|refine z0a rfl ?_|refine z0l rfl ?_|refine z4 (zt (d:=I 0) rfl rfl rfl) ?_|refine z20 (z17 rfl rfl (by omega) (by simp)) ?_|refine z4 (z14 rfl rfl (by omega) rfl rfl) ?_|refine z4 (z23 rfl rfl) ?_|exact z5 rfl (by rw [hF (by (repeat' (first|rw [z2f (by omega)]|fail)))];rfl)|exact z6 rfl rfl (hO _ (by (repeat' (first|rw [z0e (by omega) (by omega) (by omega)]|fail))))|(refine z0t rfl ?_;rw [z06])|(refine z6 rfl rfl ?_;rw [z06])|refine z3d rfl (fun h=>?_) (fun h=>?_)|refine tZn (fun h=>?_) (fun h=>?_)|fail)
theorem zff {x:Int} (h0:0≤x):0≤z1b x∧z1b x<1000003:=by
 unfold z1b;exact ⟨zY3q _ (by omega),Int.tmod_lt_of_pos _ (by omega)⟩
theorem z0py:z7e 13:=by
 intro l s0 s ht nn k R again' hl16 hsl hfit hk hx hF hO;have hcase:=z37 hfit;have hs0t:s.take (((s.length:Nat):Int) - 0).toNat=s:=(by rw [show (((s.length:Nat):Int) - 0).toNat=s.length by omega];exact zY1j);simp only [z30,Int.reduceEq,if_true,if_false] at hF hO;unfold zag;with_unfolding_all show den z5y _ (z1u z0f) [_,_,_,_,_,_,_,_,_,_,_,_,_,_,_,_,_,_,_,_,_] _=_;simp only [z0f,z1u]
 rcases hcase with ⟨c1,c2⟩|⟨a,t,fa,p1,p3,p4,p5,-⟩
 ·try simp only [c2,z1i,z1q,zY0b] at hF hO
  repeat' (first|refine dq1 ?_|refine dqc ?_|refine dqm ?_|refine dqT ?_|refine z4 (zt (d:=I 1) rfl rfl rfl) ?_|exact z5 rfl (by rw [hF (by (repeat' (first|simp only [zY06,zY0b]|fail)))];rfl)|fail)
 ·try simp only [p1,z1i,z1q,zY0b,zY06] at hF hO
  obtain ⟨fa1,fa2⟩:=id fa;obtain ⟨x1,hx1⟩:∃ x,x=z1b (a+1000000):=⟨_,rfl⟩
  obtain ⟨x2,hx2⟩:∃ x,x=z1b x1:=⟨_,rfl⟩
  obtain ⟨x3,hx3⟩:∃ x,x=z1b x2:=⟨_,rfl⟩
  obtain ⟨x4,hx4⟩:∃ x,x=x3.tmod 1000001:=⟨_,rfl⟩
  have b1:=zff (x:=a+1000000) (by omega);rw [← hx1] at b1;have b2:=zff b1.1;rw [← hx2] at b2;have b3:=zff b2.1;rw [← hx3] at b3;have em:za1 a=x4:=by
   with_unfolding_all show (z1b (z1b (z1b (a+1000000)))).tmod 1000001=x4
   rw [← hx1,← hx2,← hx3,← hx4]
  have b4:=zY3q (1000001:Int) b3.1;have b5:=Int.tmod_lt_of_pos x3 (b:=1000001) (by omega);rw [← hx4] at b4 b5;have r1:((a+1000000) * 7919+104729).tmod 1000003=x1:=hx1.symm;have r2:(x1 * 7919+104729).tmod 1000003=x2:=hx2.symm;have r3:(x2 * 7919+104729).tmod 1000003=x3:=hx3.symm;have r4:x3.tmod 1000001=x4:=hx4.symm;rw [em] at hF hO;clear hx1 hx2 hx3 hx4 em
  repeat' (first|refine dq1 ?_|refine dqc ?_|refine dqm ?_|refine dqk rfl (z0s _) ?_|refine dqT ?_|refine dqF ?_|refine z0a rfl ?_|refine z0l rfl ?_|refine z64 ?_|refine z4 (zt (d:=I 1) rfl rfl rfl) ?_|refine z20 (z17 rfl rfl (by omega) (by simp)) ?_|refine z4 (z14 rfl rfl (by omega) rfl rfl) ?_|refine z4 (z23 rfl rfl) ?_|refine z4 (zfn rfl rfl (by omega)) ?_|refine z4 (z0pu rfl rfl (by decide) (by assumption)) ?_|exact z6 rfl rfl (hO _ (by (repeat' (first|rw [z0e (by omega) (by omega) (by omega)]|fail))))|(refine z0t rfl ?_;rw [z06])|(refine z6 rfl rfl ?_;rw [z06])|fail)
end
end Go.Proofs.YtaddehddalnliaaGreatDoor
