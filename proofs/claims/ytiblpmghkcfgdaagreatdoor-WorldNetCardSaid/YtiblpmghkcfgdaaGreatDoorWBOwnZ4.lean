/- Own texts, put together by wip/bundle.py: VR25, VW23. -/
import Derived.Test.YtiblpmghkcfgdaaGreatDoorWBOwnB
import Derived.Test.YtiblpmghkcfgdaaGreatDoorWBOwnC
import Derived.Test.YtiblpmghkcfgdaaGreatDoorWBOwnR
import Derived.Test.YtiblpmghkcfgdaaGreatDoorWBOwnS
import Derived.Test.YtiblpmghkcfgdaaGreatDoorWBOwnV2
import Derived.Test.YtiblpmghkcfgdaaGreatDoorWBOwnZ3
set_option linter.unusedVariables false
set_option linter.unusedSimpArgs false
namespace Go.Proofs.YtiblpmghkcfgdaaGreatDoor
section
open Go.RowKit
set_option maxRecDepth 100000
attribute [local irreducible] z1q z0k z13 z1k z0a z0o
theorem zoh {w:Wld} {x:Happening} {q:z7v} (h0:0≤x.k) (h1:x.k<w.net.length):z5u w x q=q:=by
 unfold z5u;rw [if_neg (by omega),if_neg (by omega)]
theorem z0sv {w:Wld} (W:WldOK w) {k:Int} (h0:0≤k) (h1:k<w.net.length):z5v w ⟨4,0,0,k,0,0,zTx⟩=(⟨w.book,w.nodes,z20 w.net k⟩,0):=by
 unfold z5v;rw [if_neg (fun q=>q (zhf W))];exact zoh (x:=⟨4,0,0,k,0,0,zTx⟩) h0 h1
theorem z0mf {w:Wld} (W:WldOK w) {k:Int} (h0:0≤k) (h1:k<w.net.length):z5v w ⟨5,0,0,k,0,0,zTx⟩=if (w.net.length:Int)=20 then (z5a,12) else (⟨w.book,w.nodes,w.net++[z2n w.net k]⟩,0):=by
 unfold z5v;rw [if_neg (fun q=>q (zhf W))];have e:z1t w ⟨5,0,0,k,0,0,zTx⟩=if (w.net.length:Int)=20 then (z5a,12) else (⟨w.book,w.nodes,z38 w.net (z2n w.net k)⟩,0):=zoh (x:=⟨5,0,0,k,0,0,zTx⟩) h0 h1
 rw [e];have:=W.net
 by_cases h:(w.net.length:Int)=20
 ·rw [if_pos h,if_pos h]
 ·rw [if_neg h,if_neg h]
  unfold z38;rw [if_pos (by omega)]
theorem zvi {w:Wld} (W:WldOK w) {k:Int} (h0:0≤k) (h1:k<w.net.length):z5v w ⟨3,0,0,k,0,0,zTx⟩=(z7t w (z2n w.net k) (z20 w.net k),0):=by
 unfold z5v;rw [if_neg (fun q=>q (zhf W))];exact zoh (x:=⟨3,0,0,k,0,0,zTx⟩) h0 h1
theorem zvj {w w':Wld} {x:Happening} (W:WldOK w) (h:z5v w x=(w',0)):Next w w':=by
 unfold z5v at h;rw [if_neg (fun q=>q (zhf W))] at h;exact zl4 W h
theorem z0sw {w:Wld} (W:WldOK w) {k:Int} (h0:0≤k) (h1:k<w.net.length) (hk:(z2n w.net k).kind=1) (D:WldOK ⟨w.book,w.nodes,w.net++[z2n w.net k]⟩) :
  ∃ o:Wld,z5v ⟨w.book,w.nodes,w.net++[z2n w.net k]⟩ ⟨3,0,0,k,0,0,zTx⟩=(o,0)∧o.nodes.length=w.nodes.length ∧
   (z0c o.nodes (z2n w.net k).to=z0c w.nodes (z2n w.net k).to∨((∀ m ∈ o.net,m ∈ w.net)∧∃ t:Wld,z5v o ⟨3,0,0,(w.net.length:Int) - 1,0,0,zTx⟩=(t,0)∧t.nodes=o.nodes∧t.book=o.book)):=by
 have hat:=z9x (l:=w.net) (i:=k) h0 h1;generalize z2n w.net k=m at *;have hm:=zY07 hat;obtain ⟨c1,c2,c3,c4,c5,c6,c7⟩:=z9k (W.msgs _ hm);have hn:=z4g (l:=w.nodes) (i:=m.to) (by omega) (by omega);have hL:((w.net++[m]).length:Int)=w.net.length+1:=by simp
 have ha:=zvi D (k:=k) h0 (by show k<((w.net++[m]).length:Int);omega);have hmm:z2n (w.net++[m]) k=m:=by
  unfold z2n;rw [zY0j (by omega),hat];rfl
 simp only [hmm] at ha;have e1:z7t ⟨w.book,w.nodes,w.net++[m]⟩ m (z20 (w.net++[m]) k)=zcn ⟨w.book,w.nodes,w.net++[m]⟩ (z20 (w.net++[m]) k) m:=if_pos hk;rw [e1] at ha;have N:=zvj D ha;refine ⟨_,ha,N.len,?_⟩;unfold zcn at N ⊢;simp only at N ⊢
 by_cases he:(z0k w.book (z0c w.nodes m.to) m.b).2.2.2=0
 ·rw [if_pos he] at N ⊢
  right;have ht:z0k w.book (z0c w.nodes m.to) m.b=((z0k w.book (z0c w.nodes m.to) m.b).1,(z0k w.book (z0c w.nodes m.to) m.b).2.1,(z0k w.book (z0c w.nodes m.to) m.b).2.2.1,0):=by rw [← he]
  have h6:=z0dg ht;generalize z0k w.book (z0c w.nodes m.to) m.b=q at *;obtain ⟨x,m',nm,e⟩:=q;simp only at *;have hdel:z20 (w.net++[m]) k=z20 w.net k++[m]:=by
   unfold z20;rw [zY13 (by omega),List.drop_append_of_le_length (by omega),zY1b]
  have hdl:=zm2 (l:=w.net) (i:=k) h0 h1;rw [hdel] at N ⊢;refine ⟨fun y hy=>?_,?_⟩
  ·rcases zY0w.1 hy with hy|hy
   ·exact zqm _ hy
   ·rw [zY0y.1 hy];exact hm
  have hb:=zvi N.ok (k:=(w.net.length:Int) - 1) (by omega) (by show (w.net.length:Int) - 1<((z20 w.net k++[m]).length:Int);rw [zY04,zY19];omega);have hmm2:z2n (z20 w.net k++[m]) ((w.net.length:Int) - 1)=m:=by
   unfold z2n;rw [show ((w.net.length:Int) - 1).toNat=(z20 w.net k).length by omega,zY0k (zY0p _),Nat.sub_self];rfl
  simp only [hmm2] at hb;refine ⟨_,hb,?_⟩;have e2:z7t ⟨⟨x⟩,w.nodes.set m.to.toNat m',z20 w.net k++[m]⟩ m (z20 (z20 w.net k++[m]) ((w.net.length:Int) - 1))=zcn ⟨⟨x⟩,w.nodes.set m.to.toNat m',z20 w.net k++[m]⟩ (z20 (z20 w.net k++[m]) ((w.net.length:Int) - 1)) m:=if_pos hk;rw [e2];unfold zcn;have hnd:z0c (w.nodes.set m.to.toNat m') m.to=m':=by
   unfold z0c;rw [zY0c (by omega)];rfl
  simp only [hnd,h6];rw [if_neg (by decide),if_neg (by decide)];exact ⟨rfl,rfl⟩
 ·left
  rw [if_neg he]
  split <;> rfl
end
section
open Go.RowKit
open Go.Lib (itoa)
set_option maxRecDepth 100000
set_option maxHeartbeats 8000000
attribute [local irreducible] z0i spD z5v z1q atI z2n z0c z20
attribute [local irreducible] den denX z0x z1c
noncomputable def z05z:z7:=spD (fun x:Wld × Int=>∀ m ∈ x.1.net,MsgFit m) fun _=>true
def zxr:T :=
 .lets [.bin .eql 26 (zI 12)] [] (.ite 28 (.lets [.len 2] [] (.lets [.bin .eql 29 (zI 20)] [] (.ret [30]))) (.ret [.c (.b false)]))
def zxs:T :=
 .lets [.call 111 [49,31] 0] [] (.ite 53 (.lets [.call 113 [48,.c (.nil 4),.c (.nil 12),30,.c (.nil 4),.c (.nil 12)] 0] [] (.ret [54])) (.ret [.c (.b
 false)]))
def zxt:T :=
 .lets [.call 109 [30,31,32,zI 3,zI 0,zI 0,47,zI 0,zI 0,zI 0,.c (.nil 3),.c (.nil 2)] 0,.call 109
 [30,31,32,zI 3,zI 0,zI 0,47,zI 0,zI 0,zI 0,.c (.nil 3),.c (.nil 2)] 1,.call 109 [30,31,.v
 32,zI 3,zI 0,zI 0,47,zI 0,zI 0,zI 0,.c (.nil 3),.c (.nil 2)] 2,.call 109 [30,31,32,.c (.i .i64
 3),zI 0,zI 0,47,zI 0,zI 0,zI 0,.c (.nil 3),.c (.nil 2)] 3] [] (.lets [.bin .eql 51 (zI 0)] [] (.ite (.v
 52) zxs (.ret [.c (.b false)])))
def zxu:T :=
 .lets [.call 91 [36,37,38,39,41,42,43,44] 0] [] (.ite 45 (.ret [.c (.b true)]) (.lets [.len 2] [] (.lets [.bin .sub 46 (.c (.i .i64
 1))] [] zxt)))
def zxv:T :=
 .lets [.idx 2 11 2] [] (.lets [] [.inr 4 1 40] (.lets [.idx 1 40 0,.idx 1 40 1,.idx 1 40 2,.idx 1 40 3] []
 zxu))
def zxw:T :=
 .lets [] [.inr 4 31 35] (.lets [.idx 31 35 0,.idx 31 35 1,.idx 31 35 2,.idx 31 35 3] [] (.lets [] [.inr 12 2 11]
 zxv))
def zxx:T :=
 .lets [.bin .neq 33 (zI 0)] [] (.ite 34 (.ret [.c (.b false)]) (.lets [] [.inr 12 2 11] (.lets [.idx 2 11 2] [] zxw)))
def zxy:T :=
 .lets [.call 109 [23,24,25,zI 3,zI 0,zI 0,11,zI 0,zI 0,zI 0,.c (.nil 3),.c (.nil 2)] 0,.call 109
 [23,24,25,zI 3,zI 0,zI 0,11,zI 0,zI 0,zI 0,.c (.nil 3),.c (.nil 2)] 1,.call 109 [23,24,.v
 25,zI 3,zI 0,zI 0,11,zI 0,zI 0,zI 0,.c (.nil 3),.c (.nil 2)] 2,.call 109 [23,24,25,.c (.i .i64
 3),zI 0,zI 0,11,zI 0,zI 0,zI 0,.c (.nil 3),.c (.nil 2)] 3] [] zxx
def zxz:T :=
 .lets [] [.inr 12 2 11] (.lets [.idx 2 11 0] [] (.lets [.bin .neq 28 (zI 1)] [] (.ite 29 (.ret [.c (.b true)]) zxy)))
def zy0:T :=
 .lets [.call 109 [0,1,2,zI 5,zI 0,zI 0,11,zI 0,zI 0,zI 0,.c (.nil 3),.c (.nil 2)] 0,.call 109 [.v
 0,1,2,zI 5,zI 0,zI 0,11,zI 0,zI 0,zI 0,.c (.nil 3),.c (.nil 2)] 1,.call 109 [0,1,2,.c
 (.i .i64 5),zI 0,zI 0,11,zI 0,zI 0,zI 0,.c (.nil 3),.c (.nil 2)] 2,.call 109 [0,1,2,zI 5,.c (.i
 .i64 0),zI 0,11,zI 0,zI 0,zI 0,.c (.nil 3),.c (.nil 2)] 3] [] (.lets [.bin .neq 26 (zI 0)] [] (.ite 27
 zxr zxz))
def zti:T :=
 .lets [.bin .neq 17 19] [] (.ite 20 (.ret [.c (.b false)]) (.lets [.call 111 [13,1] 0] [] (.lets [.not 21] [] (.ite 22 (.ret [.c (.b false)])
 zy0))))
def ztj:T :=
 .lets [.bin .neq 15 (zI 0)] [] (.ite 16 (.ret [.c (.b false)]) (.lets [.len 14] [] (.lets [.len 2] [] (.lets [.bin .sub 18 (zI 1)] []
 zti))))
def ztk:T :=
 .lets [.call 109 [0,1,2,zI 4,zI 0,zI 0,11,zI 0,zI 0,zI 0,.c (.nil 3),.c (.nil 2)] 0,.call 109 [.v
 0,1,2,zI 4,zI 0,zI 0,11,zI 0,zI 0,zI 0,.c (.nil 3),.c (.nil 2)] 1,.call 109 [0,1,2,.c
 (.i .i64 4),zI 0,zI 0,11,zI 0,zI 0,zI 0,.c (.nil 3),.c (.nil 2)] 2,.call 109 [0,1,2,zI 4,.c (.i
 .i64 0),zI 0,11,zI 0,zI 0,zI 0,.c (.nil 3),.c (.nil 2)] 3] [] ztj
def ztl:T :=
 .lets [.bin .eql 8 (zI 0)] [] (.ite 9 (.lets [.call 112 [] 0] [] (.ret [10])) (.lets [.len 2] [] (.lets [.call 42 [3,10] 0] [] ztk)))
def ztm:T :=
 .lets [.call 105 [0,1,2] 0] [] (.lets [.bin .neq 6 (zI 0)] [] (.ite 7 (.lets [.call 112 [] 0] [] (.ret [8])) (.lets [.len 2] []
 ztl)))
def zgf:T :=
 .lets [.call 112 [] 0] [] (.lets [.not 4] [] (.ite 5 (.lets [.call 112 [] 0] [] (.ret [6])) ztm))
attribute [local irreducible] zcp zl8 z72 z5k zb9 z48 zaa
theorem z09p:Meets Tryz.prog z05z 3 ⟨[.agg 3,.one],[(false,[.scal])],true⟩:=by
 refine z8 (sp:=(zr [(42,zl8),(91,z5k),(105,z48),(109,zaa),(111,zcp),(112,z72),(113,zb9)])) (sigs:=zy) (cut:=[]) (hints:=[]) (fn:=Tryz.f3) (t:=zgf) (by kernel_rfl) (by kernel_rfl) (by kernel_rfl) ?_ ?_
 ·exact (zl (L:=[(42,zl8),(91,z5k),(105,z48),(109,zaa),(111,zcp),(112,z72),(113,zb9)]) ⟨z5 rfl z0vk,z5 rfl zo5,z5 rfl zkz,z5 rfl z0lp,z5 rfl z0ph,z5 rfl z05n,z5 rfl z0me,trivial⟩)
 ·rintro ds rs - h
  obtain ⟨⟨w,k0⟩,hm,rfl,rfl⟩:=z9 h;clear h;simp only at hm;refine ⟨⟨1,?_⟩,zq rfl⟩
  show den _ _ zgf [.l 1 (w.book.texts.map z05),.l 4 (w.nodes.map z17),.l 12 (w.net.map z1p),I k0] []=ret true
  have a1:=zl5;have a2:=zd2 w;unfold zgf
  by_cases hc:z1q w=0
  rotate_left
  ·repeat' (first|refine dq1 ?_|refine dqk rfl (a1) ?_|refine dqk rfl (a2) ?_|exact z4 rfl rfl|refine dqT ?_|refine z4i rfl ?_|fail)
  have W:=zf5 hc
  by_cases hl0:(w.net.length:Int)=0
  ·repeat' (first|refine dq1 ?_|refine dqk rfl (a1) ?_|refine dqk rfl (a2) ?_|exact z4 rfl rfl|refine dqT ?_|refine dqF ?_|refine z4i rfl ?_|fail)
  have hnet:=W.net;have hb:=z0ut (k:=k0) (n:=(w.net.length:Int)) (by omega);have a3:=z0m9 k0 w.net.length (by omega);obtain ⟨hb0,hb1⟩:=hb;generalize atI k0 w.net.length=k at *;have a4:=zb7 w ⟨4,0,0,k,0,0,zTx⟩ hm;rw [z0sv W hb0 hb1] at a4;have hdl:=zm2 (l:=w.net) (i:=k) hb0 hb1;have hd1:((z20 w.net k).length:Int)=(w.net.length:Int) - 1:=by omega
  have a5:=zl3 w.nodes w.nodes;rw [decide_eq_true rfl] at a5;have a6:=zb7 w ⟨5,0,0,k,0,0,zTx⟩ hm;have hde:=z0mf W hb0 hb1;rw [hde] at a6
  by_cases h20:(w.net.length:Int)=20
  ·rw [if_pos h20] at a6
   clear hde
   repeat' (first|refine dq1 ?_|refine dqk rfl (a1) ?_|refine dqk rfl (a2) ?_|refine dqk rfl (a3) ?_|refine dqK rfl (a4) ?_|refine dqk rfl (a5) ?_|refine dqK rfl (a6) ?_|refine dqT ?_|refine dqF ?_|refine z6l rfl ?_|refine z4i rfl ?_|fail)
   all_goals (simp only [decide_eq_true h20];exact z4 rfl rfl)
  rw [if_neg h20] at a6 hde;have D:=(zvj W hde).ok;clear hde;have hat:=z9x (l:=w.net) (i:=k) hb0 hb1;have hmf:=hm _ (zY07 hat);obtain ⟨c1,c2,c3,c4,-⟩:=z9k (W.msgs _ (zY07 hat));have law:=fun h=>z0sw W hb0 hb1 h D
  have hfit:∀ m ∈ w.net++[z2n w.net k],MsgFit m:=by
   intro y hy;rcases zY0w.1 hy with hy|hy
   ·exact hm _ hy
   ·rw [zY0y.1 hy];exact hmf
  generalize hmk:z2n w.net k=m at *
  by_cases hk:m.kind=1
  rotate_left
  ·clear law
   have hx:=hat
   repeat' (first|refine dq1 ?_|refine dqc ?_|refine dqk rfl (a1) ?_|refine dqk rfl (a2) ?_|refine dqk rfl (a3) ?_|refine dqK rfl (a4) ?_|refine dqk rfl (a5) ?_|refine dqK rfl (a6) ?_|exact z4 rfl rfl|refine dqT ?_|refine dqF ?_|refine z4i rfl ?_|fail)
  obtain ⟨o,ho,hol,hcase⟩:=law hk;clear law;have a7:=zb7 ⟨w.book,w.nodes,w.net++[m]⟩ ⟨3,0,0,k,0,0,zTx⟩ hfit;rw [ho] at a7;simp only at a4 a6 a7;have hn1:=z4g (l:=w.nodes) (i:=m.to) (by omega) (by omega);have hn2:=z4g (l:=o.nodes) (i:=m.to) (by omega) (by omega);have a8:=zf7 (z0c o.nodes m.to) (z0c w.nodes m.to);rcases hcase with hs|⟨hof,t,ht,t1,t2⟩
  ·rw [decide_eq_true hs] at a8
   repeat' (first|refine dq1 ?_|refine dqc ?_|refine dqN ?_|refine dqk rfl (a1) ?_|refine dqk rfl (a2) ?_|refine dqk rfl (a3) ?_|refine dqK rfl (a4) ?_|refine dqk rfl (a5) ?_|refine dqK rfl (a6) ?_|refine dqK rfl (a7) ?_|refine dqk rfl (a8) ?_|exact z4 rfl rfl|refine dqF ?_|refine z6l rfl ?_|refine z4i rfl ?_|fail)
  ·by_cases hs:z0c o.nodes m.to=z0c w.nodes m.to
   ·rw [decide_eq_true hs] at a8
    repeat' (first|refine dq1 ?_|refine dqc ?_|refine dqN ?_|refine dqk rfl (a1) ?_|refine dqk rfl (a2) ?_|refine dqk rfl (a3) ?_|refine dqK rfl (a4) ?_|refine dqk rfl (a5) ?_|refine dqK rfl (a6) ?_|refine dqK rfl (a7) ?_|refine dqk rfl (a8) ?_|exact z4 rfl rfl|refine dqF ?_|refine z6l rfl ?_|refine z4i rfl ?_|fail)
   ·rw [decide_eq_false hs] at a8
    have a9:=zb7 o ⟨3,0,0,(w.net.length:Int) - 1,0,0,zTx⟩ fun y hy=>hm y (hof y hy)
    rw [ht,t1,t2] at a9;simp only at a9;have b1:=zl3 o.nodes o.nodes;have b2:=zxq ⟨o.book,[],[]⟩ ⟨o.book,[],[]⟩;rw [decide_eq_true rfl] at b1 b2
    repeat' (first|refine dq1 ?_|refine dqc ?_|refine dqN ?_|refine dqk rfl (a1) ?_|refine dqk rfl (a2) ?_|refine dqk rfl (a3) ?_|refine dqK rfl (a4) ?_|refine dqk rfl (a5) ?_|refine dqK rfl (a6) ?_|refine dqK rfl (a7) ?_|refine dqk rfl (a8) ?_|refine dqK rfl (a9) ?_|refine dqk rfl (b1) ?_|refine dqk rfl (b2) ?_|exact z4 rfl rfl|refine dqF ?_|refine z6l rfl ?_|refine z4i rfl ?_|fail)
theorem worldNet_walk (u:Wld) (c_u:List Value) (x:Int) (w:World) (h_u:shWld.rep w (Lt w.heap.size) u c_u) (x_0 : -9223372036854775808≤x) (x_1:x≤9223372036854775807) (z_u:∀ m ∈ u.net,MsgFit m) (hG:Glob w) :
  Calls Tryz.prog 3 #[.agg c_u.toArray,.int .i64 x] w fun e w'=>e = .returned (.bool true)∧Below w.heap.size w w' :=
 zm9 (F:=Lt w.heap.size) (us:=[.agg c_u.toArray,.int .i64 x]) rfl (z2h (fn:=Tryz.f3) (by kernel_rfl) (by kernel_rfl) (by kernel_rfl)) z09p ⟨fun _ h=>h,hG⟩ (za (f:=fun _=>true) (u,x) (z_u))
  (zhu (d1:=znw u) (she_wld.to h_u) rfl (zp1 (.i _ _ (wrap_i64 ⟨x_0,x_1⟩)) zht))
end
end Go.Proofs.YtiblpmghkcfgdaaGreatDoor
