/- Own texts, put together by wip/bundle.py: VN1, VR9, VR10, VR11, VR12, VR13, VR14, VR15, VR16, VU5, VU6, VN2, VR20, VDelM, OpF, VN4, VR21, VN3, VN5, VC7, VN6, VR23, VR22, VR24, VN7M, VN8, VShW, OpW, VW22, VSB, VW7, VN9. -/
import Derived.SizedLaws
import Derived.Test.YtiblpmghkcfgdaaGreatDoorWBOwnB
import Derived.Test.YtiblpmghkcfgdaaGreatDoorWBOwnC
import Derived.Test.YtiblpmghkcfgdaaGreatDoorWBOwnR
import Derived.Test.YtiblpmghkcfgdaaGreatDoorWBOwnS
import Derived.Test.YtiblpmghkcfgdaaGreatDoorWBOwnV2
import Derived.Test.YtiblpmghkcfgdaaGreatDoorWBOwnZ2
set_option linter.unusedVariables false
set_option linter.unusedSimpArgs false
namespace Go.Proofs.YtiblpmghkcfgdaaGreatDoor
section
open Go.RowKit
open Go.Lib (itoa)
set_option maxRecDepth 100000
set_option maxHeartbeats 4000000
theorem zkr {t:Tree} (h:(z16 t).2=0):TreeOK t.names t.blocks:=by
 unfold z16 at h
 by_cases h0:zx t=0
 ·exact (z03 t.names t.blocks).1 h0
 ·rw [if_pos h0] at h;exact absurd h h0
theorem zdo {k:Book}:∀ {l:List Tx},z3a k l=true→∀ t ∈ l,zj t=0∧(zu t).1 ∈ k.texts
 | [],_,t,ht=>by cases ht
 | x::l,h,t,ht=>by
  rw [z3a] at h
  by_cases h1:(zu x).2=0
  rotate_left
  ·rw [if_pos h1] at h;cases h
  rw [if_neg (fun k=>k h1)] at h
  by_cases h2:(zu x).1 ∈ k.texts
  rotate_left
  ·rw [if_neg h2] at h;cases h
  rw [if_pos h2] at h;rcases zY0f.1 ht with rfl|ht
  ·refine ⟨?_,h2⟩
   by_cases hc:zj t=0
   ·exact hc
   ·have e:zu t=([],zj t):=by unfold zu;exact if_pos hc
    rw [e] at h1;exact h1
  ·exact zdo h t ht
theorem zhc {k:Book} {n:Node} (h:z0p k n=0):TreeOK n.t.names n.t.blocks∧n.pool.length≤8∧∀ t ∈ n.pool,zj t=0:=by
 unfold z0p at h
 by_cases h1:zg k=0
 rotate_left
 ·rw [if_pos h1] at h;exact absurd h h1
 rw [if_neg (fun k=>k h1)] at h
 by_cases h2:(z16 n.t).2=0
 rotate_left
 ·rw [if_pos h2] at h;exact absurd h h2
 rw [if_neg (fun k=>k h2)] at h
 by_cases h3:(z16 n.t).1≠n.tip
 ·rw [if_pos h3] at h;exact absurd h (by decide)
 rw [if_neg h3] at h;have key:∀ (r:List Int) (i:Nat),zex k n.t (z5t k n) i r=0→z5t k n=0:=by
  intro r
  induction r with
  | nil=>intro i h;exact h
  | cons nm r ih =>
   intro i h;rw [zex] at h
   split at h
   ·exact absurd h (by decide)
   split at h
   ·exact absurd h (by decide)
   split at h
   ·exact absurd h (by decide)
   split at h
   ·rename_i hc;exact absurd h hc
   ·exact ih _ h
 have hp:=key _ _ h;refine ⟨zkr h2,?_⟩;unfold z5t at hp
 split at hp
 ·rename_i hc;exact absurd hp hc
 split at hp
 ·rename_i h0
  have:n.pool=[]:=zY06 (by omega);rw [this];exact ⟨by simp,fun t ht=>by cases ht⟩
 split at hp
 ·exact absurd hp (by decide)
 rename_i hn
 split at hp
 ·rename_i hc;exact absurd hp hc
 rename_i hs
 split at hp
 ·exact absurd hp (by decide)
 rename_i hl;have:=(zdn k (ze k n.t n.tip).1 n.pool (zk n.t n.tip+1)).1;exact ⟨by omega,fun t ht=>(zdo (by simpa using hn) t ht).1⟩
theorem zv9 {k:Book} {t:Tree} {n:Int} (h:(ze k t n).2=0):0≤zk t n∧zk t n≤24:=by
 have:=zew (k:=k) (t:=t) (n:=n) (l:=(ze k t n).1) (by rw [← h]);exact ⟨this.2.2.1,this.2.2.2.1⟩
attribute [local irreducible] z0i spD zu z0q zg z16 z0a z0o ze zt z4v z4w zk z01 z2j z0y
attribute [local irreducible] den denX z0x z1c
noncomputable def z32:z7:=spD (fun _:Tree × Int=>True) fun x=>zk x.1 x.2
theorem z94 (t:Tree) (n:Int):z32 [.l 1 (t.names.map zf),.l 5 (t.blocks.map zi),I n]=some [I (zk t n)]:=za (f:=fun x:Tree × Int=>zk x.1 x.2) (t,n) trivial
def zip:T :=
 .lets [.call 65 [0,1,2] 0,.call 65 [0,1,2] 1,.call 65 [0,1,2] 2,.call 65 [0,1,2] 3,.call 65 [0,1,2] 4,.call 65 [0,.v
 1,2] 5] [] (.lets [.bin .neq 8 (zI 0)] [] (.ite 9 (.ret [zI 0]) (.ret [4])))
attribute [local irreducible] z1z
theorem zdp:Meets Tryz.prog z32 72 ⟨[.agg 2,.one],[(false,[.scal])],true⟩:=by
 refine z8 (sp:=(zr [(65,z1z)])) (sigs:=zy) (cut:=[]) (hints:=[]) (fn:=Tryz.f72) (t:=zip) (by kernel_rfl) (by kernel_rfl) (by kernel_rfl) ?_ ?_
 ·exact (zl (L:=[(65,z1z)]) ⟨z5 rfl zc5,trivial⟩)
 ·rintro ds rs - h
  obtain ⟨⟨t,n⟩,-,rfl,rfl⟩:=z9 h;clear h;refine ⟨⟨1,?_⟩,zq rfl⟩
  show den _ _ zip [.l 1 (t.names.map zf),.l 5 (t.blocks.map zi),I n] []=ret (zk t n)
  have a1:=z83 t n;rw [show zk t n=if z0o t n≠0 then 0 else (z0a t n).height by with_unfolding_all rfl];unfold zip;generalize z0a t n=b at *;generalize z0o t n=e at *
  repeat' (first|refine dq1 ?_|refine dqK rfl (a1) ?_|exact z4 rfl rfl|refine tR (fun h=>?_) fun h=>?_|fail)
theorem z0d1 (k:Book) (x:Tx) (r:List Tx):z3a k (x::r)=if (zu x).2≠0 then false else if z2u k.texts (zu x).1=true then z3a k r else false:=by
 rw [z3a];unfold z2u;simp only [decide_eq_true_eq]
noncomputable def zdq:z7:=spD (fun _:Book × List Tx=>True) fun x=>z3a x.1 x.2
theorem zj7 (k:Book) (l:List Tx):zdq [.l 1 (k.texts.map z05),.l 3 (l.map eTx)]=some [.b (z3a k l)]:=za (f:=fun x:Book × List Tx=>z3a x.1 x.2) (k,l) trivial
def z08e:T :=
 .ite 13 (.lets [.bin .geq 4 (zI 0)] [] (.lets [.not 14] [] (.ret [15]))) (.lets [.bin .add 4 (zI 1)] [] (.again 0 [3,14]))
def z08f:T :=
 .ite 11 (.lets [.bin .geq 4 (zI 0)] [] (.lets [.not 12] [] (.ret [13]))) (.lets [.call 80 [0,9] 0] [] (.lets [.not 12] [] z08e))
def z08g:T :=
 .lets [.idx 1 4 0,.idx 1 4 1,.idx 1 4 2] [] (.lets [.call 43 [6,7,8] 0,.call 43 [6,7,8] 1] [] (.lets [.bin .neq 10 (.c
 (.i .i64 0))] [] z08f))
def z08h:T :=
 .lets [.bin .lss 4 2] [] (.ite 5 (.lets [] [.inr 3 1 4] z08g) (.lets [.bin .geq (.c (.i .i64 (-1))) (zI 0)] [] (.lets [.not 6] []
 (.ret [7]))))
def zks:T :=
 .lets [.len 1] [] (.loop [zI 0,zI 0] z08h)
attribute [local irreducible] zey z3l
theorem z0jk:Meets Tryz.prog zdq 70 ⟨[.agg 1,.one],[(false,[.scal])],true⟩:=by
 refine z4q (sp:=(zr [(43,z3l),(80,zey)])) (sigs:=zy) (cut:=[]) (hints:=[]) (fns:=[z2k 119 Tryz.f119 [] [],z2k 160 Tryz.f160 [⟨2,[.t 4,.t 8]⟩] [],z2k 120 Tryz.f120 [] []]) (dep:=4) (pool:=400) (fn:=Tryz.f70) (t:=zks) (by kernel_rfl) (by kernel_rfl) (by kernel_rfl) ?_ ?_ ?_
 ·exact (z07 (fn:=Tryz.f119) (by kernel_rfl) (by kernel_rfl) (by kernel_rfl) (by kernel_rfl) (by kernel_rfl) (z07 (fn:=Tryz.f160) (by kernel_rfl) (by kernel_rfl) (by kernel_rfl) (by kernel_rfl) (by kernel_rfl) (z07 (fn:=Tryz.f120) (by kernel_rfl) (by kernel_rfl) (by kernel_rfl) (by kernel_rfl) (by kernel_rfl) z5o)))
 ·exact (zl (L:=[(43,z3l),(80,zey)]) ⟨z5 rfl zk7,z5 rfl z0s2,trivial⟩)
 ·rintro ds rs hok h
  obtain ⟨⟨k,l⟩,-,rfl,rfl⟩:=z9 h;clear h;have hll:=z98 (hok (.l 3 (l.map eTx)) (zY2y _ (zY0y.2 rfl)));refine ⟨⟨l.length+1,?_⟩,zq rfl⟩
  show den _ _ zks [.l 1 (k.texts.map z05),.l 3 (l.map eTx)] []=ret (z3a k l)
  unfold zks
  repeat' (first|refine dq1 ?_|fail)
  (refine zm (fun (_:Unit) k=>[I 0,I k]) (fun (_:Unit) _ (r:List Tx)=>z3a k r) (fun _ _=>True) () l ?_ ?_ ?_ ?_ ?_;rfl;exact trivial;exact zY1i _)
  ·rintro _ i x r hx hd hk - again hag
   rw [z0d1];have a1:=zbm x;have a2:=z08d k.texts (zu x).1;have hag':=hag () trivial;generalize zu x=p at *;obtain ⟨s,e⟩:=p;simp only at *;generalize z2u k.texts s=b at *
   cases b
   ·rw [if_neg (by decide:¬ false=true)]
    repeat' (first|refine dq1 ?_|refine dqc ?_|refine dqm ?_|refine dqK rfl (a1) ?_|refine dqk rfl (a2) ?_|exact z4 rfl rfl|refine tR (fun h=>?_) fun h=>?_|refine dqT ?_|refine z6l rfl ?_|fail)
   ·rw [if_pos rfl]
    repeat' (first|refine dq1 ?_|refine dqc ?_|refine dqm ?_|refine dqK rfl (a1) ?_|refine dqk rfl (a2) ?_|exact z4 rfl rfl|refine tR (fun h=>?_) fun h=>?_|refine dqT ?_|refine z4i rfl ?_|fail)
    exact zb rfl rfl hag'
  ·rintro _ - again
   rw [z3a]
   repeat' (first|refine dq1 ?_|exact z4 rfl rfl|refine dqF ?_|fail)
theorem zqe (b:Block):z40 [I b.parent,I b.height,I b.work,I b.nonce,.l 3 (b.txs.map eTx)]=some [.s (z0q b).1,I (z0q b).2]:=zfp b
noncomputable def z37:z7:=spD (fun _:Book × Node=>True) fun x=>z0p x.1 x.2
theorem z9r (k:Book) (n:Node):z37 [.l 1 (k.texts.map z05),.l 1 (n.t.names.map zf),.l 5 (n.t.blocks.map zi),.l 3 (n.pool.map eTx),I n.tip]=some [I (z0p k n)]:=za (f:=fun x:Book × Node=>z0p x.1 x.2) (k,n) trivial
def z08i:T :=
 .lets [.call 70 [0,1,2,15] 0,.call 70 [0,1,2,15] 1] [] (.lets [.bin .neq 31 (zI 0)] [] (.ite 32 (.ret [31]) (.lets [.bin .add
 13 (zI 1)] [] (.again 0 [12,33]))))
def z08j:T :=
 .lets [] [.inr 5 2 13] (.lets [.idx 2 13 4] [] (.lets [.call 84 [0,27] 0] [] (.lets [.not 28] [] (.ite 29 (.ret [zI 5])
 z08i))))
def z08k:T :=
 .lets [.bin .neq 24 (zI 0)] [] (.ite 25 (.ret [zI 5]) (.lets [.bin .neq 23 21] [] (.ite 26 (.ret [zI 5]) z08j)))
def z08l:T :=
 .lets [.call 44 [16,17,18,19,20] 0,.call 44 [16,17,18,19,20] 1] [] (.lets [.call 78 [0,15] 0,.call 78 [0,15] 1] [] z08k)
def z08m:T :=
 .lets [] [.inr 5 2 13] (.lets [.idx 2 13 0,.idx 2 13 1,.idx 2 13 2,.idx 2 13 3,.idx 2 13 4] [] z08l)
def z08n:T :=
 .ite 29 (.ret [28]) (.lets [.len 25] [] (.lets [.len 3] [] (.lets [.bin .neq 30 31] [] (.ite 32 (.ret [zI 7]) (.ret [zI 0])))))
def z08o:T :=
 .lets [.call 72 [0,15,3,23] 0,.call 72 [0,15,3,23] 1,.call 72 [0,15,3,23] 2,.call 72 [0,15,3,23] 3,.call 72 [0,.v
 15,3,23] 4] [] (.lets [.bin .neq 28 (zI 0)] [] z08n)
def z08p:T :=
 .lets [.not 20] [] (.ite 21 (.ret [zI 5]) (.lets [.call 83 [1,2,4] 0] [] (.lets [.bin .add 22 (zI 1)] [] z08o)))
def z08q:T :=
 .ite 17 (.ret [16]) (.lets [.len 3] [] (.lets [.bin .eql 18 (zI 0)] [] (.ite 19 (.ret [zI 0]) (.lets [.call 84 [0,3] 0] []
 z08p))))
def z08r:T :=
 .ite 14 (.lets [] [.inr 1 1 13] (.lets [.idx 1 13 0] [] z08m)) (.lets [.call 70 [0,1,2,4] 0,.call 70 [0,1,2,4] 1] []
 (.lets [.bin .neq 16 (zI 0)] [] z08q))
def z04y:T :=
 .lets [.bin .neq 7 4] [] (.ite 10 (.ret [zI 4]) (.lets [.len 1] [] (.loop [zI 0,zI 0] (.lets [.bin .lss 13 11] []
 z08r))))
def z04z:T :=
 .ite 6 (.ret [5]) (.lets [.call 76 [1,2] 0,.call 76 [1,2] 1] [] (.lets [.bin .neq 8 (zI 0)] [] (.ite 9 (.ret [8]) z04y)))
def zkt:T :=
 .lets [.call 49 [0] 0] [] (.lets [.bin .neq 5 (zI 0)] [] z04z)
attribute [local irreducible] z40 z1o z9h z2t z2l z6g
theorem zfs:Meets Tryz.prog z37 31 ⟨[.agg 1,.agg 4],[(false,[.scal])],true⟩:=by
 refine z8 (sp:=(zr [(44,z40),(49,z1o),(70,z2t),(72,z2l),(76,z6g),(78,z9h),(83,z32),(84,zdq)])) (sigs:=zy) (cut:=[]) (hints:=[⟨10,[.t 4,.t 43]⟩]) (fn:=Tryz.f31) (t:=zkt) (by kernel_rfl) (by kernel_rfl) (by kernel_rfl) ?_ ?_
 ·exact (zl (L:=[(44,z40),(49,z1o),(70,z2t),(72,z2l),(76,z6g),(78,z9h),(83,z32),(84,zdq)]) ⟨z5 rfl zpt,z5 rfl zc3,z5 rfl zfr,z5 rfl zc8,z5 rfl zpz,z5 rfl z0d0,z5 rfl zdp,z5 rfl z0jk,trivial⟩)
 ·rintro ds rs hok h
  obtain ⟨⟨k,n⟩,-,rfl,rfl⟩:=z9 h;clear h;refine ⟨⟨100,?_⟩,zq rfl⟩
  show den _ _ zkt [.l 1 (k.texts.map z05),.l 1 (n.t.names.map zf),.l 5 (n.t.blocks.map zi),.l 3 (n.pool.map eTx),I n.tip] []=ret (z0p k n)
  have a1:=z81 k;have a2:=zh8 n.t;have hok2:=fun h=>zkr (t:=n.t) h
  unfold zkt z0p;generalize zg k=e1 at *;generalize z16 n.t=pb at *;obtain ⟨bt,e2⟩:=pb;simp only at *
  repeat' (first|refine dq1 ?_|refine dqk rfl (a1) ?_|refine dqK rfl (a2) ?_|exact z4 rfl rfl|refine tR (fun h=>?_) fun h=>?_|fail)
  have ok:=hok2 (by omega);have hnl:=ok.len;have hnle:=ok.le;clear hok2
  (refine zm (fun (_:Unit) i=>[I 0,I i]) (fun (_:Unit) i (r:List Int)=>zex k n.t (z5t k n) i r) (fun _ _=>True) () n.t.names ?_ ?_ ?_ ?_ ?_;rfl;exact trivial;omega)
  ·rintro _ i nm r hx hd hk - again hag
   have hb:n.t.blocks[((i:Int)).toNat]? = some (z08 n.t.blocks i):=by
    rw [zY1z];unfold z08;rw [zY1z,zY03 (by omega)];rfl
   rw [zex];have hag':=hag () trivial;generalize hbb:z08 n.t.blocks i=b at *;have b1:=zqe b;have b2:=zt4 k nm;have b3:=zj7 k b.txs;have b4:=z7j k n.t nm;generalize z0q b=pb at *;obtain ⟨s,e⟩:=pb;generalize ze k n.t nm=q at *;obtain ⟨l,e4⟩:=q;simp only at *;generalize z3a k b.txs=d at *;generalize z4v k nm=ls at *;generalize z4w k nm=le at *
   cases d
   ·rw [if_pos (rfl:false=false)]
    repeat' (first|refine dq1 ?_|refine dqc ?_|refine dqm ?_|refine dqK rfl (b1) ?_|refine dqK rfl (b2) ?_|refine dqk rfl (b3) ?_|exact z4 rfl rfl|refine tR (fun h=>?_) fun h=>?_|refine dqT ?_|refine z6l rfl ?_|fail)
   ·rw [if_neg (by decide:¬ true=false)]
    repeat' (first|refine dq1 ?_|refine dqc ?_|refine dqm ?_|refine dqK rfl (b1) ?_|refine dqK rfl (b2) ?_|refine dqk rfl (b3) ?_|refine dqK rfl (b4) ?_|exact z4 rfl rfl|refine tR (fun h=>?_) fun h=>?_|refine dqT ?_|refine z4i rfl ?_|fail)
    exact zb rfl rfl hag'
  ·rintro _ - again
   rw [zex];unfold z5t;have b1:=z7j k n.t n.tip;have b2:=zj7 k n.pool;have b3:=z94 n.t n.tip;have hh:=fun h=>zv9 (k:=k) (t:=n.t) (n:=n.tip) h
   generalize ze k n.t n.tip=q at *;obtain ⟨l,e4⟩:=q;have b4:=z67 k.texts l n.pool (zk n.t n.tip+1);simp only at *;have hkk:(⟨k.texts⟩:Book)=k:=rfl;rw [hkk] at b4;generalize zt k l n.pool (zk n.t n.tip+1)=w at *;obtain ⟨wx,ws,wm,wf,we⟩:=w;simp only at *;generalize z3a k n.pool=d at *;generalize zk n.t n.tip=hgt at *
   by_cases h4:e4=0
   ·have hh:=hh h4
    cases d
    ·rw [if_pos (rfl:false=false)]
     repeat' (first|refine dq1 ?_|refine dqK rfl (b1) ?_|refine dqk rfl (b2) ?_|exact z4 rfl rfl|refine tR (fun h=>?_) fun h=>?_|refine dqF ?_|refine z6l rfl ?_|fail)
     all_goals omega
    ·rw [if_neg (by decide:¬ true=false)]
     repeat' (first|refine dq1 ?_|refine dqK rfl (b1) ?_|refine dqk rfl (b2) ?_|refine dqk rfl (b3) ?_|refine dqK rfl (b4) ?_|exact z4 rfl rfl|refine tR (fun h=>?_) fun h=>?_|refine dqF ?_|refine z4i rfl ?_|fail)
     all_goals omega
   ·clear hh
    rw [if_pos h4]
    repeat' (first|refine dq1 ?_|refine dqK rfl (b1) ?_|exact z4 rfl rfl|refine dqT ?_|refine dqF ?_|fail)
    all_goals omega
theorem z0s3 {α:Type} {l:List α} {i:Nat} {x:α} (h:l[i]? = some x):l.set i x=l:=by
 rw [← (zY02.1 h).2];exact List.set_getElem_self _
noncomputable def z5j:z7:=spD (fun n:Node=>TreeOK n.t.names n.t.blocks∧n.pool.length≤8∧∀ t ∈ n.pool,zj t=0) fun n=>n
theorem zez (n:Node) (h:TreeOK n.t.names n.t.blocks∧n.pool.length≤8∧∀ t ∈ n.pool,zj t=0):z5j [.l 1 (n.t.names.map zf),.l 5 (n.t.blocks.map zi),.l 3 (n.pool.map eTx),I n.tip]=some [.l 1 (n.t.names.map zf),.l 5 (n.t.blocks.map zi),.l 3 (n.pool.map eTx),I n.tip]:=za (p:=fun n:Node=>TreeOK n.t.names n.t.blocks∧n.pool.length≤8∧∀ t ∈ n.pool,zj t=0) (f:=fun n:Node=>n) n h
def z0d2:T :=
 .lets [.call 67 [11,12,13] 0,.call 67 [11,12,13] 1,.call 67 [11,12,13] 2] [] (.lets [] [.inr 3 9 8] (.lets [.set 9 8 0 [14,
 .v 15,16]] [] (.lets [.bin .add 8 (zI 1)] [] (.again 0 [18,17]))))
def z0d3:T :=
 .ite 10 (.lets [] [.inr 3 9 8] (.lets [.idx 9 8 0,.idx 9 8 1,.idx 9 8 2] [] z0d2)) (.ret [4,5,9,3])
def zno:T :=
 .lets [.call 81 [0,1] 0,.call 81 [0,1] 1] [] (.lets [.call 82 [2] 0] [] (.lets [.len 6] [] (.loop [zI 0,6] (.lets [.bin .lss 8 7] []
 z0d3))))
attribute [local irreducible] z93 z5f z2d
theorem znp:Meets Tryz.prog z5j 66 ⟨[.agg 4],[(true,[.pure,.pure,.pure,.scal])],false⟩:=by
 refine z8 (sp:=(zr [(67,z2d),(81,z5f),(82,z93)])) (sigs:=zy) (cut:=[]) (hints:=[⟨4,[.t 16,.o 11]⟩]) (fn:=Tryz.f66) (t:=zno) (by kernel_rfl) (by kernel_rfl) (by kernel_rfl) ?_ ?_
 ·exact (zl (L:=[(67,z2d),(81,z5f),(82,z93)]) ⟨z5 rfl zes,z5 rfl zpw,z5 rfl z0it,trivial⟩)
 ·rintro ds rs hok h
  obtain ⟨n,⟨h1,h2,h3⟩,rfl,rfl⟩:=z9 h;clear h;refine ⟨⟨20,?_⟩,z10 ⟨rfl,trivial⟩⟩
  show den _ _ zno [.l 1 (n.t.names.map zf),.l 5 (n.t.blocks.map zi),.l 3 (n.pool.map eTx),I n.tip] []=ret n
  have a1:z5f [.l 1 (n.t.names.map zf),.l 5 (n.t.blocks.map zi)]=some [.l 1 (n.t.names.map zf),.l 5 (n.t.blocks.map zi)]:=zh4 n.t (zq0 h1);have a2:=z0cg n.pool (by omega);unfold zno
  repeat' (first|refine dq1 ?_|refine dqK rfl (a1) ?_|refine dqk rfl (a2) ?_|fail)
  (refine zm (fun (_:Unit) i=>[I i,.l 3 (n.pool.map eTx)]) (fun (_:Unit) i (r:List Tx)=>n) (fun _ _=>True) () n.pool ?_ ?_ ?_ ?_ ?_;rfl;exact trivial;omega)
  ·rintro _ i x r hx hd hk - again hag
   have hx':n.pool[((i:Int)).toNat]? = some x:=by rw [zY1z];exact hx
   have b1:=zer x (z52 (h3 x (zY07 hx)));have hag':=hag () trivial;have hs:=z0s3 hx;have hset:∀ {sp:Nat→z7} {E:Env} {a b:Atom} {vs:List Atom},a.val E=some (.l 3 (n.pool.map eTx))→b.val E=some (I (i:Int))→vals E vs=some (eTx x)→denX sp E (.set a b 0 vs)=some (.l 3 (n.pool.map eTx)):=by
    intro sp E a b vs ha hb hv;have:=zlv (sp:=sp) (l:=n.pool) (x:=x) (y:=x) (n:=i) (m:=(i:Int)) (j:=0) (by omega) ha hb hv (by omega) (by show 0+3≤3;decide) hx rfl;rw [hs] at this;exact this
   repeat' (first|refine dq1 ?_|refine dqc ?_|refine dqm ?_|refine dqK rfl (b1) ?_|refine z6 (hset rfl rfl rfl) ?_|refine dqT ?_|fail)
   exact zb rfl rfl hag'
  ·rintro _ - again
   repeat' (first|refine dq1 ?_|exact z4 rfl rfl|refine dqF ?_|fail)
noncomputable def z4t:z7:=spD (fun _:Book × Node × Block=>True) fun x=>z0k x.1 x.2.1 x.2.2
theorem zf0 (k:Book) (n:Node) (b:Block):z4t [.l 1 (k.texts.map z05),.l 1 (n.t.names.map zf),.l 5 (n.t.blocks.map zi),.l 3 (n.pool.map eTx),I n.tip,I b.parent,I b.height,I b.work,I b.nonce,.l 3 (b.txs.map eTx)]=some [.l 1 ((z0k k n b).1.map z05),.l 1 ((z0k k n b).2.1.t.names.map zf),.l 5 ((z0k k n b).2.1.t.blocks.map zi),.l 3 ((z0k k n b).2.1.pool.map eTx),I (z0k k n b).2.1.tip,I (z0k k n b).2.2.1,I (z0k k n b).2.2.2]:=za (f:=fun x:Book × Node × Block=>z0k x.1 x.2.1 x.2.2) (k,n,b) trivial
theorem zhd (x:List (List UInt8)) (t:Tree) (n:Int):z2t [.l 1 (x.map z05),.l 1 (t.names.map zf),.l 5 (t.blocks.map zi),I n]=some [.l 6 ((ze ⟨x⟩ t n).1.map z04),I (ze ⟨x⟩ t n).2]:=z7j ⟨x⟩ t n
theorem zqf (t:Tree) (n:Int) : -9223372036854775808≤zk t n+1∧zk t n+1≤9223372036854775807:=by
 have e:zk t n=if z0o t n≠0 then 0 else (z0a t n).height:=by with_unfolding_all rfl
 rw [e]
 split
 ·omega
 ·rename_i h
  have h0:z0o t n=0:=zY0i.1 h;have hc:zx t=0:=by
   apply Classical.byContradiction;intro hc;have:z0o t n=zx t:=by with_unfolding_all exact if_pos hc
   exact hc (this ▸ h0)
  have hi:0≤idx t.names n:=by
   apply Classical.byContradiction;intro hi;have:z0o t n=5:=by
    have e:z0o t n=if zx t≠0 then zx t else if idx t.names n<0 then 5 else 0:=by with_unfolding_all rfl
    rw [e,if_neg (fun k=>k hc),if_pos (by omega)]
   rw [this] at h0;exact absurd h0 (by decide)
  have ok:=(z03 _ _).1 hc;obtain ⟨p1,p2,p3⟩:=z3n ok hi;have hl:=zci ok (.inr hi);rw [p3,zga ok _ n (zY0p _) hi];omega
def z0d4:T :=
 .lets [.call 72 [12,35,26,31] 0,.call 72 [12,35,26,31] 1,.call 72 [12,35,26,31] 2,.call 72 [12,35,26,31] 3,.call 72
 [12,35,26,31] 4] [] (.ret [37,17,18,38,28,13,zI 0])
def z0d5:T :=
 .ite 34 (.lets [.call 70 [12,17,18,28] 0,.call 70 [12,17,18,28] 1] [] z0d4) (.ret [12,17,18,26,28,13,.c (.i .i64
 0)])
def z0d6:T :=
 .lets [.bin .gtr 32 (zI 0)] [] (.ite 33 (.lets [.bin .leq 31 (zI 1000)] [] z0d5) (.ret [12,17,18,26,28,13,.c (.i
 .i64 0)]))
def z0d7:T :=
 .lets [.call 76 [17,18] 0,.call 76 [17,18] 1] [] (.lets [.call 83 [17,18,28] 0] [] (.lets [.bin .add 30 (zI 1)] [] (.lets [.len 26] []
 z0d6)))
def z0d8:T :=
 .lets [.call 86 [1,2,3,4] 0,.call 86 [1,2,3,4] 1,.call 86 [1,2,3,4] 2,.call 86 [1,2,3,4] 3] [] z0d7
def z0d9:T :=
 .lets [.bin .neq 22 (zI 0)] [] (.ite 23 (.ret [.c (.nil 1),.c (.nil 1),.c (.nil 5),.c (.nil 3),zI 0,zI 0,22]) z0d8)
def z0da:T :=
 .ite 20 (.ret [.c (.nil 1),.c (.nil 1),.c (.nil 5),.c (.nil 3),zI 0,zI 0,19]) (.lets [.call 70 [12,17,18,13] 0,.call 70 [12,.v
 17,18,13] 1] [] z0d9)
def z0db:T :=
 .lets [.call 66 [1,2,13,5,6,7,8,9] 0,.call 66 [1,2,13,5,6,7,8,9] 1,.call 66 [1,2,13,5,6,7,.v
 8,9] 2] [] (.lets [.bin .neq 19 (zI 0)] [] z0da)
def z0dc:T :=
 .lets [.bin .neq 15 (zI 0)] [] (.ite 16 (.ret [.c (.nil 1),.c (.nil 1),.c (.nil 5),.c (.nil 3),zI 0,zI 0,15]) z0db)
def z0dd:T :=
 .lets [.call 52 [0,5,6,7,8,9] 0,.call 52 [0,5,6,7,8,9] 1,.call 52 [0,5,6,7,8,9] 2,.call 52 [0,5,6,
 .v 7,8,9] 3] [] z0dc
def z08s:T :=
 .lets [.bin .neq 10 (zI 0)] [] (.ite 11 (.ret [.c (.nil 1),.c (.nil 1),.c (.nil 5),.c (.nil 3),zI 0,zI 0,10]) z0dd)
def znq:T :=
 .lets [.call 85 [0,1,2,3,4] 0] [] z08s
attribute [local irreducible] z5e zb0
theorem znr:Meets Tryz.prog z4t 65 ⟨[.agg 1,.agg 4,.agg 5],[(true,[.pure]),(true,[.pure,.pure,.pure,.scal]),(false,[.scal]),(false,[.scal])],false⟩:=by
 refine z4q (sp:=(zr [(52,z5e),(66,zb0),(70,z2t),(72,z2l),(76,z6g),(83,z32),(85,z37),(86,z5j)])) (sigs:=zy) (cut:=[]) (hints:=[]) (fns:=[z2k 110 Tryz.f110 [] [],z2k 113 Tryz.f113 [] []]) (dep:=2) (pool:=600) (fn:=Tryz.f65) (t:=znq) (by kernel_rfl) (by kernel_rfl) (by kernel_rfl) ?_ ?_ ?_
 ·exact (z07 (fn:=Tryz.f110) (by kernel_rfl) (by kernel_rfl) (by kernel_rfl) (by kernel_rfl) (by kernel_rfl) (z07 (fn:=Tryz.f113) (by kernel_rfl) (by kernel_rfl) (by kernel_rfl) (by kernel_rfl) (by kernel_rfl) z5o))
 ·exact (zl (L:=[(52,z5e),(66,zb0),(70,z2t),(72,z2l),(76,z6g),(83,z32),(85,z37),(86,z5j)]) ⟨z5 rfl zpv,z5 rfl z0iu,z5 rfl zfr,z5 rfl zc8,z5 rfl zpz,z5 rfl zdp,z5 rfl zfs,z5 rfl znp,trivial⟩)
 ·rintro ds rs hok h
  obtain ⟨⟨k,n,b⟩,-,rfl,rfl⟩:=z9 h;clear h;refine ⟨⟨1,?_⟩,z10 ⟨rfl,rfl,rfl,trivial⟩⟩
  show den _ _ znq [.l 1 (k.texts.map z05),.l 1 (n.t.names.map zf),.l 5 (n.t.blocks.map zi),.l 3 (n.pool.map eTx),I n.tip,I b.parent,I b.height,I b.work,I b.nonce,.l 3 (b.txs.map eTx)] []=ret (z0k k n b)
  have a1:=z9r k n;have a2:=zh1 k b;have a5:=fun h=>zez n (zhc (k:=k) h)
  unfold znq z0k;generalize z0p k n=e1 at *;generalize z01 k b=q at *;obtain ⟨x,nm,ns,e2⟩:=q;simp only at *;have a3:=zx2 n.t nm b;generalize z2j n.t nm b=t at *;generalize z0y n.t nm b=e3 at *;have a4:=zhd x t nm;generalize ze ⟨x⟩ t nm=c at *;obtain ⟨cl,ce⟩:=c;have a6:=zh8 t;generalize z16 t=pb at *;obtain ⟨tip,be⟩:=pb;simp only at *;have a7:=z94 t tip;have hh:=zqf t tip;have a8:=zhd x t tip;unfold zlx;generalize ze ⟨x⟩ t tip=c at *;obtain ⟨tl,te⟩:=c;simp only at *;have a9:=z67 x tl n.pool (zk t tip+1);generalize zt ⟨x⟩ tl n.pool (zk t tip+1)=w at *;obtain ⟨wx,ws,wm,wf,we⟩:=w;generalize zk t tip=hgt at *;simp only at *
  by_cases h1:e1=0
  ·have a5:=a5 h1
   repeat' (first|refine dq1 ?_|refine dqk rfl (a1) ?_|refine dqK rfl (a2) ?_|refine dqK rfl (a3) ?_|refine dqK rfl (a4) ?_|refine dqK rfl (a5) ?_|refine dqK rfl (a6) ?_|refine dqk rfl (a7) ?_|refine dqK rfl (a8) ?_|refine dqK rfl (a9) ?_|exact z4 rfl rfl|refine tR (fun h=>?_) fun h=>?_|fail)
   all_goals omega
  ·clear a5
   repeat' (first|refine dq1 ?_|refine dqk rfl (a1) ?_|exact z4 rfl rfl|refine tR (fun h=>?_) fun h=>?_|fail)
   all_goals omega
noncomputable def z0de:z7:=spD (fun _:Book × Node=>True) fun x=>z0al x.1 x.2
end
section
open Go.RowKit
set_option maxRecDepth 100000
structure BlkIn (k:Book) (b:Block):Prop where
 ok:zd b=0
 own:0≤idx k.texts (z1s b)∧(z1s b).length≤4000
 txs:∀ s ∈ z3d b,0≤idx k.texts s∧s.length≤4000
theorem BlkIn.more {k k':Book} {b:Block} (h:BlkIn k b) (hp:k.texts <+: k'.texts):BlkIn k' b :=
 ⟨h.ok,⟨zcx hp h.own.1,h.own.2⟩,fun s hs=>⟨zcx hp (h.txs s hs).1,(h.txs s hs).2⟩⟩
theorem BlkIn.names {k:Book} {b:Block} (h:BlkIn k b) (hk:z11 k.texts):z01 k b=(k.texts,idx k.texts (z1s b)+1,(z3d b).map (fun s=>idx k.texts s+1),0):=zxm h.ok hk h.own.1 h.own.2 h.txs
theorem z0jl {k k':Book} {b:Block} (h:BlkIn k b) (hk:z11 k.texts) (hk':z11 k'.texts) (hp:k.texts <+: k'.texts) (l:List Coin):z28 k' l b=z28 k l b:=by
 have e1:=h.names hk;have e2:=(h.more hp).names hk';have em:(z3d b).map (fun s=>idx k'.texts s+1)=(z3d b).map (fun s=>idx k.texts s+1):=List.map_congr_left fun s hs=>by rw [z45 hp (h.txs s hs).1]
 rw [em] at e2;unfold z28;rw [e1,e2]
theorem zqg {k k':Book} {t:Tree} (hk:z11 k.texts) (hk':z11 k'.texts) (hp:k.texts <+: k'.texts):∀ (r:List Int) (l:List Coin),(∀ n ∈ r,BlkIn k (z0a t n))→z0w k' t l r=z0w k t l r
 | [],l,_=>rfl
 | n::r,l,h=>by
  rw [z0w,z0w,z0jl (h n (by simp)) hk hk' hp]
  split
  ·rfl
  ·exact zqg hk hk' hp r _ fun m hm=>h m (zY08 _ hm)
theorem z79 {k k':Book} {t:Tree} {n:Int} (ok:TreeOK t.names t.blocks) (hk:z11 k.texts) (hk':z11 k'.texts) (hp:k.texts <+: k'.texts) (hn:n=0∨0≤idx t.names n) (h:∀ m,0≤idx t.names m→BlkIn k (z0a t m)):ze k' t n=ze k t n:=by
 rw [z5h ((z0e _).2 hk') ok hn,z5h ((z0e _).2 hk) ok hn];exact zqg hk hk' hp _ _ fun m hm=>h m (z9v ok hn m hm)
structure NodeOK (k:Book) (n:Node):Prop where
 book:z11 k.texts
 tree:TreeOK n.t.names n.t.blocks
 tip:(z16 n.t).1=n.tip
 at_:∀ m,0≤idx n.t.names m→BlkIn k (z0a n.t m)∧m=idx k.texts (z1s (z0a n.t m))+1
 coins:∀ m,0≤idx n.t.names m→(ze k n.t m).2=0
 pool:z5t k n=0
theorem z0s5 {k:Book} {n:Int} {s:List UInt8} (h1:z4w k n=0) (h2:z4v k n=s):0≤idx k.texts s∧n=idx k.texts s+1∧s.length≤4000:=by
 unfold z4w at h1;unfold z4v at h2
 by_cases hc:zg k=0
 rotate_left
 ·rw [if_pos hc] at h1;exact absurd h1 hc
 rw [if_neg (fun k=>k hc)] at h1 h2
 by_cases hr:n<1∨(k.texts.length:Int)<n
 ·rw [if_pos hr] at h1;exact absurd h1 (by decide)
 rw [if_neg hr] at h2;have ok:=(z0e k.texts).1 hc;have hlt:(n - 1).toNat<k.texts.length:=by omega
 rw [zY03 hlt] at h2;have hs:k.texts[(n - 1).toNat]=s:=h2;have hm:s ∈ k.texts:=hs ▸ zY1l hlt;have hi:=(z0v k.texts s).2 hm;obtain ⟨j,hj,hjs⟩:=z8f hi;obtain ⟨hj2,hj3⟩:=zY02.1 hjs;have:(n - 1).toNat=j:=by
  rcases Nat.lt_trichotomy (n - 1).toNat j with h|h|h
  ·exact absurd (hs.trans hj3.symm) (zY22.1 ok.2.2 _ _ hlt hj2 h)
  ·exact h
  ·exact absurd (hj3.trans hs.symm) (zY22.1 ok.2.2 _ _ hj2 hlt h)
 exact ⟨hi,by omega,ok.2.1 s hm⟩
theorem z0ot {k:Book} {b:Block} (hk:z11 k.texts) (h:z3a k b.txs=true):∀ s ∈ z3d b,0≤idx k.texts s∧s.length≤4000:=by
 intro s hs;unfold z3d at hs;obtain ⟨t,ht,rfl⟩:=zY2w.1 hs;have:=(zdo h t ht).2;exact ⟨(z0v _ _).2 this,hk.2.1 _ this⟩
theorem z0an {k:Book} {t:Tree} {K:Int} (ok:TreeOK t.names t.blocks) (hk:z11 k.texts):∀ (r:List Int) (i:Nat),t.names.drop i=r→zex k t K i r=0→K=0∧∀ m ∈ r,BlkIn k (z0a t m)∧m=idx k.texts (z1s (z0a t m))+1∧(ze k t m).2=0
 | [],i,_,h=>⟨h,fun m hm=>by cases hm⟩
 | nm::r,i,hd,h=>by
  have hx:t.names[i]? = some nm:=by
   have:(t.names.drop i)[0]? = some nm:=by rw [hd];rfl
   rwa [zY1e,zY21] at this
  have hlt:=(zY02.1 hx).1;have hni:z0d t.names i=nm:=by simp [z0d,hx]
  have hidx:idx t.names nm=i:=by rw [← hni];exact zf2 ok hlt
  have hpb:=(z3n ok (n:=nm) (by omega)).2.2;rw [hidx] at hpb;have hbc:zd (z08 t.blocks i)=0:=by
   refine z5y (t:=t) ((z03 _ _).2 ok) _ ?_;have:=ok.len;unfold z08;rw [zY1z,zY03 (by omega)];exact zY1l _
  rw [zex] at h
  split at h
  ·exact absurd h (by decide)
  rename_i h1
  split at h
  ·exact absurd h (by decide)
  rename_i h2
  split at h
  ·exact absurd h (by decide)
  rename_i h3
  split at h
  ·rename_i hc;exact absurd h hc
  rename_i h4;obtain ⟨i1,i2⟩:=z0an ok hk r (i+1) (by rw [← zY33,hd];rfl) h;rw [z7p hbc] at h2;obtain ⟨l1,l2,l3⟩:=z0s5 (zY0i.1 h1) (zY0i.1 h2);refine ⟨i1,fun m hm=>?_⟩;rcases zY0f.1 hm with rfl|hm
  ·rw [hpb]
   exact ⟨⟨hbc,⟨l1,l3⟩,z0ot hk (by simpa using h3)⟩,l2,zY0i.1 h4⟩
  ·exact i2 m hm
theorem z7a {k:Book} {n:Node} (h:z0p k n=0):NodeOK k n:=by
 unfold z0p at h
 by_cases h1:zg k=0
 rotate_left
 ·rw [if_pos h1] at h;exact absurd h h1
 rw [if_neg (fun k=>k h1)] at h
 by_cases h2:(z16 n.t).2=0
 rotate_left
 ·rw [if_pos h2] at h;exact absurd h h2
 rw [if_neg (fun k=>k h2)] at h
 by_cases h3:(z16 n.t).1≠n.tip
 ·rw [if_pos h3] at h;exact absurd h (by decide)
 rw [if_neg h3] at h;have ok:=zkr h2;have hk:=(z0e k.texts).1 h1;obtain ⟨g1,g2⟩:=z0an ok hk n.t.names 0 rfl h;exact ⟨hk,ok,zY0i.1 h3,fun m hm=>⟨(g2 m ((z0v _ _).1 hm)).1,(g2 m ((z0v _ _).1 hm)).2.1⟩,fun m hm=>(g2 m ((z0v _ _).1 hm)).2.2,g1⟩
end
section
open Go.RowKit
set_option maxRecDepth 100000
theorem zku {k:Book}:∀ {l:List Tx},(∀ t ∈ l,zj t=0∧0≤idx k.texts (z1n t))→z3a k l=true
 | [],_=>rfl
 | t::l,h=>by
  obtain ⟨h1,h2⟩:=h t (by simp);rw [z3a,z90 h1,if_neg (fun k=>k rfl),if_pos ((z0v _ _).1 h2)];exact zku fun x hx=>h x (zY08 _ hx)
theorem BlkIn.named {k:Book} {b:Block} (h:BlkIn k b):z3a k b.txs=true:=by
 refine zku fun t ht=>?_
 have hc:=(z3z h.ok).each t ht;refine ⟨hc,?_⟩;have:=(h.txs ((zu t).1) (zY2a ht)).1
 rwa [z90 hc] at this
theorem z050 {k:Book} {n:Node} {K:Int} (N:NodeOK k n):∀ (r:List Int) (i:Nat),n.t.names.drop i=r→zex k n.t K i r=K
 | [],i,_=>rfl
 | nm::r,i,hd=>by
  have hx:n.t.names[i]? = some nm:=by
   have:(n.t.names.drop i)[0]? = some nm:=by rw [hd];rfl
   rwa [zY1e,zY21] at this
  have hlt:=(zY02.1 hx).1;have hni:z0d n.t.names i=nm:=by simp [z0d,hx]
  have hidx:idx n.t.names nm=i:=by rw [← hni];exact zf2 N.tree hlt
  have hpb:=(z3n N.tree (n:=nm) (by omega)).2.2;rw [hidx] at hpb;obtain ⟨a1,a2⟩:=N.at_ nm (by omega);rw [hpb] at a1 a2;have hl:=zmg N.book a1.own.1;have hkk:(⟨k.texts⟩:Book)=k:=rfl;rw [hkk,← a2] at hl;rw [zex,hl.2,if_neg (fun k=>k rfl),hl.1,z7p a1.ok,if_neg (fun k=>k rfl),a1.named,if_neg (by decide),N.coins nm (by omega),if_neg (fun k=>k rfl)];exact z050 N r (i+1) (by rw [← zY33,hd];rfl)
theorem z6j {k:Book} {n:Node} (N:NodeOK k n):z0p k n=0:=by
 have hb:(z16 n.t).2=0:=by
  unfold z16;rw [if_neg (fun k=>k ((z03 _ _).2 N.tree))]
 unfold z0p;rw [if_neg (fun k=>k ((z0e _).2 N.book)),if_neg (fun k=>k hb),if_neg (fun k=>k N.tip),z050 N n.t.names 0 rfl,N.pool]
end
section
open Go.RowKit
set_option maxRecDepth 100000
theorem z8m {t:Tree} {m:Int} (ok:TreeOK t.names t.blocks) (hm:0≤idx t.names m):z0a t m=z08 t.blocks (idx t.names m):=(z3n ok hm).2.2
theorem zqh {t u:Tree} (h:SubT t.names t.blocks u.names u.blocks) (ok:TreeOK t.names t.blocks) (ok':TreeOK u.names u.blocks) {m:Int} (hm:0≤idx t.names m):z0a u m=z0a t m:=by
 rw [z8m ok hm,z8m ok' (h m hm).1];exact (h m hm).2.symm
theorem zqi {k:Book} {t u:Tree} (h:SubT t.names t.blocks u.names u.blocks) (ok:TreeOK t.names t.blocks) (ok':TreeOK u.names u.blocks):∀ (r:List Int) (l:List Coin),(∀ m ∈ r,0≤idx t.names m)→z0w k u l r=z0w k t l r
 | [],l,_=>rfl
 | n::r,l,hr=>by
  rw [z0w,z0w,zqh h ok ok' (hr n (by simp))]
  split
  ·rfl
  ·exact zqi h ok ok' r _ fun m hm=>hr m (zY08 _ hm)
theorem z0jm {k:Book} {t u:Tree} (hk:z11 k.texts) (h:SubT t.names t.blocks u.names u.blocks) (ok:TreeOK t.names t.blocks) (ok':TreeOK u.names u.blocks) {n:Int} (hn:n=0∨0≤idx t.names n):ze k u n=ze k t n:=by
 have hc:=(z0e _).2 hk;rw [z5h hc ok' (hn.imp id fun h0=>(h n h0).1),z5h hc ok hn,← h.paths ok ok' hn];exact zqi h ok ok' _ _ fun m hm=>z9v ok hn m hm
theorem NodeOK.later {k k':Book} {n:Node} (N:NodeOK k n) (hk':z11 k'.texts) (hp:k.texts <+: k'.texts) (hpool:z5t k' n=0):NodeOK k' n:=by
 refine ⟨hk',N.tree,N.tip,fun m hm=>?_,fun m hm=>?_,hpool⟩
 ·obtain ⟨a1,a2⟩:=N.at_ m hm
  exact ⟨a1.more hp,by rw [z45 hp a1.own.1];exact a2⟩
 ·rw [z79 N.tree N.book hk' hp (.inr hm) fun m hm=>(N.at_ m hm).1]
  exact N.coins m hm
theorem zkv {k:Book} {n:Node} (hc:(ze k n.t n.tip).2=0) (h:n.pool=[]):z5t k n=0:=by
 unfold z5t;rw [if_neg (fun k=>k hc),h];exact if_pos rfl
theorem znt {k:Book} {n:Node} {l m:List Coin} {f:Int} (hk:z11 k.texts) (hc:ze k n.t n.tip=(l,0)) (hl:n.pool.length≤8) (R:RunC (zk n.t n.tip+1) k.texts l n.pool m f):z5t k n=0:=by
 have hs:=zew hc;unfold z5t;rw [hc,if_neg (fun k=>k rfl)]
 by_cases h0:(n.pool.length:Int)=0
 ·rw [if_pos h0]
 have hn:z3a k n.pool=true:=by
  refine zku ?_;clear hl h0 hc hs;generalize n.pool=p at *;generalize zk n.t n.tip+1=hh at *;generalize k.texts=y at *
  induction R with
  | nil m=>intro t ht;cases ht
  | cons g1 g2 g3 g4 g5 _ ih =>
   intro t ht;rcases zY0f.1 ht with rfl|ht
   ·exact ⟨g1,g4⟩
   ·exact ih t ht
 have hsw:=zmr hk hs.1 (by omega) (by omega) hl R;have hkk:(⟨k.texts⟩:Book)=k:=rfl;rw [hkk] at hsw;simp only;rw [if_neg h0,hn,if_neg (by decide),hsw,if_neg (fun k=>k rfl),if_neg (fun k=>k rfl)]
theorem zdz {k:Book} {n m:Node} {b:Block} {x:List z1l} {nm:Int} (h:z0k k n b=(x,m,nm,0)) :
  NodeOK k n∧NodeOK ⟨x⟩ m∧k.texts <+: x∧BlkIn ⟨x⟩ b∧nm=idx x (z1s b)+1∧z0y n.t nm b=0∧m.t=⟨n.t.names++[nm],n.t.blocks++[b]⟩:=by
 unfold z0k at h
 by_cases h1:z0p k n=0
 rotate_left
 ·rw [if_pos h1] at h;exact absurd (congrArg (fun x=>x.2.2.2) h) h1
 rw [if_neg (fun k=>k h1)] at h;have N:=z7a h1;generalize hq:z01 k b=q at *;obtain ⟨x1,nm',ns,e⟩:=q;simp only at h
 by_cases he:e=0
 rotate_left
 ·rw [if_pos he] at h;exact absurd (congrArg (fun x=>x.2.2.2) h) he
 subst he;rw [if_neg (fun k=>k rfl)] at h;obtain ⟨g1,g2,g3,g4,g5,g6,g7,g8,g9⟩:=zj6 hq
 by_cases ha:z0y n.t nm' b=0
 rotate_left
 ·rw [if_pos ha] at h;exact absurd (congrArg (fun x=>x.2.2.2) h) ha
 rw [if_neg (fun k=>k ha)] at h;have hT:z2j n.t nm' b=⟨n.t.names++[nm'],n.t.blocks++[b]⟩:=by unfold z2j;rw [if_pos ha]
 rw [hT] at h;have okT:=zb6 ha;have hsub:=z9i (name:=nm') (b:=b) N.tree;have hnew:=z6i (b:=b) N.tree (z68 ha).2.2.2.1
 by_cases hc:(ze ⟨x1⟩ ⟨n.t.names++[nm'],n.t.blocks++[b]⟩ nm').2=0
 rotate_left
 ·rw [if_pos hc] at h;exact absurd (congrArg (fun x=>x.2.2.2) h) hc
 rw [if_neg (fun k=>k hc)] at h;have B1:BlkIn ⟨x1⟩ b:=⟨g1,⟨g5,g6⟩,g8⟩
 generalize hu:(⟨n.t.names++[nm'],n.t.blocks++[b]⟩:Tree)=u at *;have hun:u.names=n.t.names++[nm']:=by rw [← hu]
 have hub:u.blocks=n.t.blocks++[b]:=by rw [← hu]
 rw [← hun,← hub] at okT hsub hnew;have hcase:∀ w,0≤idx u.names w→w=nm'∨0≤idx n.t.names w:=by
  intro w hw;have:=(z0v _ _).1 hw;rw [hun] at this;rcases zY0w.1 this with h0|h0
  ·exact .inr ((z0v _ _).2 h0)
  ·exact .inl (zY0y.1 h0)
 have hpn:z0a u nm'=b:=by rw [z8m okT hnew.1];exact hnew.2
 have at1:∀ w,0≤idx u.names w→BlkIn ⟨x1⟩ (z0a u w)∧w=idx x1 (z1s (z0a u w))+1:=by
  intro w hw;rcases hcase w hw with rfl|h0
  ·rw [hpn];exact ⟨B1,g7⟩
  ·rw [zqh hsub N.tree okT h0]
   obtain ⟨a1,a2⟩:=N.at_ w h0;exact ⟨a1.more g4,by rw [z45 g4 a1.own.1];exact a2⟩
 have co1:∀ w,0≤idx u.names w→(ze ⟨x1⟩ u w).2=0:=by
  intro w hw;rcases hcase w hw with rfl|h0
  ·exact hc
  ·rw [z0jm (k:=⟨x1⟩) g3 hsub N.tree okT (.inr h0),z79 (k':=⟨x1⟩) N.tree N.book g3 g4 (.inr h0) fun m hm=>(N.at_ m hm).1]
   exact N.coins w h0
 have hnd:=zhc h1;have hbest:(z16 u).1=0∨0≤idx u.names (z16 u).1:=by
  unfold z16;rw [if_neg (fun k=>k ((z03 _ _).2 okT))];exact z0am u.blocks
 have hct:(ze ⟨x1⟩ u (z16 u).1).2=0:=by
  rcases hbest with h0|h0
  ·rw [h0,z5h ((z0e _).2 g3) okT (.inl rfl),z1r];rfl
  ·exact co1 _ h0
 have hcp:ze ⟨x1⟩ u (z16 u).1=((ze ⟨x1⟩ u (z16 u).1).1,0):=by rw [← hct]
 have hsup:=zew hcp;unfold zlx at h
 by_cases hp0:(n.pool.length:Int) > 0
 ·rw [if_pos hp0,if_pos (by omega)] at h
  generalize hsw:zt ⟨x1⟩ (ze ⟨x1⟩ u (z16 u).1).1 n.pool (zk u (z16 u).1+1)=sw at *;obtain ⟨wx,wst,wm,wf,we⟩:=sw;simp only [zY0r,and_true] at h;obtain ⟨rfl,rfl,rfl⟩:=h;have hwe:we=0:=by
   have hz:=hsw;unfold zt at hz;rw [if_neg (fun k=>k ((z0e _).2 g3)),if_neg (fun k=>k ((z0r _).2 hsup.1)),if_neg (by omega),if_neg (by omega),if_neg (by omega)] at hz;have key:∀ (r:List Tx) (hh:Int) (a:Sw),(z29 hh a r).2.2.2.2=0:=by
    intro r
    induction r with
    | nil=>intro hh a;rfl
    | cons t r ih =>
     intro hh a;rw [z29]
     split
     ·exact ih _ _
     ·exact ih _ _
   have:=key n.pool (zk u (z16 u).1+1) ⟨x1,[],(ze ⟨x1⟩ u (z16 u).1).1,0⟩;rw [show z29 (zk u (z16 u).1+1) ⟨x1,[],(ze ⟨x1⟩ u (z16 u).1).1,0⟩ n.pool=(wx,wst,wm,wf,we) from hz] at this;exact this
  subst hwe;obtain ⟨q1,q2,q3,q4,q5,R⟩:=z7s hsw;have hpre:x1 <+: wx:=by
   have hz:=hsw;unfold zt at hz;rw [if_neg (fun k=>k ((z0e _).2 g3)),if_neg (fun k=>k ((z0r _).2 hsup.1)),if_neg (by omega),if_neg (by omega),if_neg (by omega)] at hz;exact (zcm (w0:=(ze ⟨x1⟩ u (z16 u).1).1) n.pool ⟨x1,[],(ze ⟨x1⟩ u (z16 u).1).1,0⟩ g3 (.nil _) hz).2.1
  have hcw:ze ⟨wx⟩ u (z16 u).1=((ze ⟨x1⟩ u (z16 u).1).1,0):=by
   rw [z79 (k:=⟨x1⟩) (k':=⟨wx⟩) okT g3 q1 hpre hbest fun m hm=>(at1 m hm).1];exact hcp
  refine ⟨N,⟨q1,okT,rfl,fun w hw=>?_,fun w hw=>?_,?_⟩,g4.trans hpre,B1.more hpre,by rw [z45 hpre g5];exact g7,ha,hu.symm⟩
  ·obtain ⟨a1,a2⟩:=at1 w hw
   exact ⟨a1.more (k':=⟨wx⟩) hpre,by rw [z45 hpre a1.own.1];exact a2⟩
  ·rw [z79 (k:=⟨x1⟩) (k':=⟨wx⟩) okT g3 q1 hpre (.inr hw) fun m hm=>(at1 m hm).1]
   exact co1 w hw
  ·exact znt (k:=⟨wx⟩) (n:=⟨u,wst,(z16 u).1⟩) q1 hcw q5 R
 ·rw [if_neg hp0] at h
  simp only [zY0r,and_true] at h;obtain ⟨rfl,rfl,rfl⟩:=h;have hnil:n.pool=[]:=zY06 (by omega);exact ⟨N,⟨g3,okT,rfl,at1,co1,zkv (n:=⟨u,n.pool,(z16 u).1⟩) hct hnil⟩,g4,B1,g7,ha,hu.symm⟩
end
section
open Go.RowKit
set_option maxRecDepth 100000
theorem z0jn {k:Book} {l:List Coin} {p:List Tx} {h:Int} {x:List z1l} {s:List Tx} {m:List Coin} {f:Int} (h0:zt k l p h=(x,s,m,f,0)):k.texts <+: x:=by
 obtain ⟨q1,q2,q3,q4,q5,-⟩:=z7s h0;unfold zt at h0
 by_cases h1:zg k=0
 rotate_left
 ·rw [if_pos h1] at h0;exact absurd (congrArg (fun x=>x.2.2.2.2) h0) h1
 rw [if_neg (fun k=>k h1),if_neg (fun k=>k ((z0r l).2 q2)),if_neg (by omega),if_neg (by omega)] at h0
 by_cases h5:(p.length:Int) > 8
 ·rw [if_pos h5] at h0;exact absurd (congrArg (fun x=>x.2.2.2.2) h0) (by show ¬ (2:Int)=0;decide)
 rw [if_neg h5] at h0;exact (zcm (w0:=l) p ⟨k.texts,[],l,0⟩ ((z0e _).1 h1) (.nil _) h0).2.1
theorem z0df {k:Book} {l:List Coin} {p:List Tx} {t:Tx} {h:Int} {x:List z1l} {more:List Tx} (h0:z21 k l p t h=(x,more,0)):k.texts <+: x:=by
 unfold z21 at h0;generalize hq:zt k l p h=q at *;obtain ⟨x0,stay,m,f,e⟩:=q;simp only at h0
 by_cases he:e=0
 rotate_left
 ·rw [if_pos he] at h0;exact absurd (congrArg (fun x=>x.2.2) h0) he
 subst he;rw [if_neg (fun k=>k rfl)] at h0
 by_cases hm:t ∈ stay
 ·rw [if_pos hm] at h0;exact absurd (congrArg (fun x=>x.2.2) h0) (by show ¬ (6:Int)=0;decide)
 rw [if_neg hm] at h0;unfold zcl at h0
 by_cases hp:(z0j x0 m t h).2.2.2=0
 rotate_left
 ·rw [if_pos hp] at h0;exact absurd (congrArg (fun x=>x.2.2) h0) hp
 rw [if_neg (fun k=>k hp)] at h0
 by_cases h8:(stay.length:Int)=8
 ·rw [if_pos h8] at h0;exact absurd (congrArg (fun x=>x.2.2) h0) (by show ¬ (12:Int)=0;decide)
 rw [if_neg h8] at h0;have hx:(z0j x0 m t h).1=x:=congrArg (fun x=>x.1) h0;have hpp:z0j x0 m t h=(x,(z0j x0 m t h).2.1,(z0j x0 m t h).2.2.1,0):=by rw [← hp,← hx]
 exact (z0jn hq).trans (zlw (z7s hq).1 hpp).2.1
theorem znu {k:Book} {n m:Node} {t:Tx} {x:List z1l} (h:z13 k n t=(x,m,0)):NodeOK k n∧NodeOK ⟨x⟩ m∧k.texts <+: x∧0<m.pool.length∧(z13 ⟨x⟩ m t).2.2=6:=by
 unfold z13 at h
 by_cases h1:z0p k n=0
 rotate_left
 ·rw [if_pos h1] at h;exact absurd (congrArg (fun x=>x.2.2) h) h1
 rw [if_neg (fun k=>k h1)] at h;have N:=z7a h1;generalize hc:ze k n.t n.tip=c at *;obtain ⟨l,e⟩:=c;simp only at h
 by_cases he:e=0
 rotate_left
 ·rw [if_pos he] at h;exact absurd (congrArg (fun x=>x.2.2) h) he
 subst he;rw [if_neg (fun k=>k rfl)] at h;generalize ha:z21 k l n.pool t (zk n.t n.tip+1)=a at *;obtain ⟨x',more,e⟩:=a;simp only at h
 by_cases he:e=0
 rotate_left
 ·rw [if_pos he] at h;exact absurd (congrArg (fun x=>x.2.2) h) he
 subst he;rw [if_neg (fun k=>k rfl)] at h;simp only [zY0r,and_true] at h;obtain ⟨rfl,rfl⟩:=h;obtain ⟨x0,stay,m0,m1,f,f1,b1,b2,b3,b4,b5⟩:=zqd ha;have hpre:=z0df ha;obtain ⟨q1,q2,q3,q4,q5,R⟩:=z7s b4;have htip:n.tip=0∨0≤idx n.t.names n.tip:=(zik hc).2.2.1;have hcx:ze ⟨x'⟩ n.t n.tip=(l,0):=by
  rw [z79 (k':=⟨x'⟩) N.tree N.book q1 hpre htip fun m hm=>(N.at_ m hm).1];exact hc
 have hp:z5t ⟨x'⟩ ⟨n.t,more,n.tip⟩=0:=znt (k:=⟨x'⟩) (n:=⟨n.t,more,n.tip⟩) q1 hcx b3 R;have M:NodeOK ⟨x'⟩ ⟨n.t,more,n.tip⟩:=by
  refine ⟨q1,N.tree,N.tip,fun w hw=>?_,fun w hw=>?_,hp⟩
  ·obtain ⟨a1,a2⟩:=N.at_ w hw
   exact ⟨a1.more (k':=⟨x'⟩) hpre,by rw [z45 hpre a1.own.1];exact a2⟩
  ·rw [z79 (k':=⟨x'⟩) N.tree N.book q1 hpre (.inr hw) fun m hm=>(N.at_ m hm).1]
   exact N.coins w hw
 refine ⟨N,M,hpre,by rw [b2];simp,?_⟩;unfold z13;rw [z6j M,if_neg (fun k=>k rfl)];simp only;rw [hcx,if_neg (fun k=>k rfl)];simp only;rw [b5,if_pos (by decide)]
end
section
open Go.RowKit
set_option maxRecDepth 100000
theorem z0jo {t:Tree} {nm:Int} {b:Block} (h:z0y t nm b=0):z0y ⟨t.names++[nm],t.blocks++[b]⟩ nm b=6:=by
 obtain ⟨h1,h2,h3,h4,h5,h6⟩:=z68 h;have okT:=zb6 h;have hin:0≤idx (t.names++[nm]) nm:=(z0v _ _).2 (by simp);unfold z0y;rw [if_neg (fun k=>k ((z03 _ _).2 okT))];simp only;rw [if_neg (by unfold z91;rw [decide_eq_true_iff];omega),if_neg (fun k=>k h3),if_pos (by first|exact hin|(unfold z2u;exact decide_eq_true ((z0v _ _).1 hin))|omega)]
theorem z0dg {k:Book} {n m:Node} {b:Block} {x:List z1l} {nm:Int} (h:z0k k n b=(x,m,nm,0)):(z0k ⟨x⟩ m b).2.2.2=6:=by
 obtain ⟨N,M,hp,B,e1,e2,e3⟩:=zdz h;have hn:=B.names M.book;have h6:z0y m.t nm b=6:=by rw [e3];exact z0jo e2
 unfold z0k;rw [z6j M,if_neg (fun k=>k rfl),hn];simp only;rw [if_neg (fun k=>k rfl),← e1,h6,if_pos (by decide)]
end
section
open Go.RowKit
set_option maxRecDepth 100000
theorem ziq {t:Tree} (ok:TreeOK t.names t.blocks):z16 t=((z95 t.names t.blocks).1,0):=by
 unfold z16;rw [if_neg (fun k=>k ((z03 _ _).2 ok)),z0op]
theorem z0ou {t:Tree} {nm:Int} {b:Block} (h:z0y t nm b=0) (hp:b.parent=(z16 t).1):(z16 ⟨t.names++[nm],t.blocks++[b]⟩).1=nm:=by
 obtain ⟨h1,h2,h3,h4,h5,h6⟩:=z68 h;have ok:=(z03 t.names t.blocks).1 h1;have ok':=zb6 h;have hsub:=z9i (name:=nm) (b:=b) ok;obtain ⟨hn,hbl⟩:=z6i (b:=b) ok h4;have hpar:b.parent=0∨0≤idx t.names b.parent:=by
  rcases zdg h5 with ⟨e,_⟩|⟨_,j,_,e,_⟩
  ·exact .inl e
  ·exact .inr (by omega)
 have hpo:z0g (t.names++[nm]) (t.blocks++[b]) nm=b.parent:=by
  have:=hbl;unfold z9s at this;unfold z0g;rw [this]
 have hpath:z0s (t.names++[nm]) (t.blocks++[b]) nm=z0s t.names t.blocks b.parent++[nm]:=by
  rw [(z36 ok' hn).1,hpo,← hsub.paths ok ok' hpar]
 have hpw:pw (t.names++[nm]) (t.blocks++[b]) nm=pw t.names t.blocks b.parent+b.work:=by
  unfold pw;rw [hpath,z02r,← hsub.work _ (z9v ok hpar)];have:=hbl;unfold z9s at this;simp only [z2s];rw [this];omega
 rw [ziq ok] at hp;rw [ziq (t:=⟨t.names++[nm],t.blocks++[b]⟩) ok'];simp only at hp ⊢;obtain ⟨a1,a2,a3,a4⟩:=zft t.names t.blocks;obtain ⟨b1,b2,b3,b4⟩:=zft (t.names++[nm]) (t.blocks++[b]);have hw:=zt6 h3;have c1:=(b4 nm (by simp)).1;rw [hpw,hp,← a1] at c1;rcases b3 with b3|b3
 ·rw [b3,zt5] at b1
  omega
 ·rcases zY0w.1 b3 with b3|b3
  ·have hi:=(z0v _ _).2 b3
   have:=(a4 _ b3).1;rw [hsub.pw ok ok' (.inr hi)] at this;omega
  ·exact zY0y.1 b3
theorem z051 {k:Book} {n m:Node} {w nonce:Int} {o:List Op} {x:List z1l} {b:Block} (h:z1k k n w nonce o=(x,m,b,0)) :
  ∃ nm,z0k k n b=(x,m,nm,0)∧b.parent=n.tip∧z0o m.t m.tip=0∧z0a m.t m.tip=b:=by
 unfold z1k at h
 by_cases h1:z0p k n=0
 rotate_left
 ·rw [if_pos h1] at h;exact absurd (congrArg (fun x=>x.2.2.2) h) h1
 rw [if_neg (fun k=>k h1)] at h
 by_cases h2:(ze k n.t n.tip).2=0
 rotate_left
 ·rw [if_pos h2] at h;exact absurd (congrArg (fun x=>x.2.2.2) h) h2
 rw [if_neg (fun k=>k h2)] at h;generalize hmk:z3k k (ze k n.t n.tip).1 n.pool n.tip (zk n.t n.tip) w nonce o=mk at *;obtain ⟨b',e⟩:=mk;simp only at h
 by_cases he:e=0
 rotate_left
 ·rw [if_pos he] at h;exact absurd (congrArg (fun x=>x.2.2.2) h) he
 subst he;rw [if_neg (fun k=>k rfl)] at h;generalize htk:z0k k n b'=tk at *;obtain ⟨x',m',nm,e⟩:=tk;simp only at h
 by_cases he:e=0
 rotate_left
 ·rw [if_pos he] at h;exact absurd (congrArg (fun x=>x.2.2.2) h) he
 subst he;rw [if_neg (fun k=>k rfl)] at h;simp only [zY0r,and_true] at h;obtain ⟨rfl,rfl,rfl⟩:=h;have hpar:b'.parent=n.tip:=by
  unfold z3k at hmk
  split at hmk
  ·rename_i hx;exact absurd (congrArg (fun x=>x.2) hmk) hx
  split at hmk
  ·rename_i hx;exact absurd (congrArg (fun x=>x.2) hmk) hx
  unfold zss at hmk
  split at hmk
  ·rename_i hx;exact absurd (congrArg (fun x=>x.2) hmk) hx
  split at hmk
  ·exact absurd (congrArg (fun x=>x.2) hmk) (by show ¬ (9:Int)=0;decide)
  split at hmk
  ·rename_i hx;exact absurd (congrArg (fun x=>x.2) hmk) hx
  ·exact (congrArg (fun x=>x.1.parent) hmk).symm
 obtain ⟨N,M,hp,B,e1,e2,e3⟩:=zdz htk;have htip:m'.tip=nm:=by
  rw [← M.tip,e3];exact z0ou e2 (by rw [hpar,N.tip])
 have hnew:=z6i (b:=b') N.tree (z68 e2).2.2.2.1;have okM:=M.tree;have hi:0≤idx m'.t.names nm:=by rw [e3];exact hnew.1
 refine ⟨nm,htk,hpar,?_,?_⟩
 ·rw [htip];exact (z3n okM hi).2.1
 ·rw [htip,z8m okM hi,e3];exact hnew.2
end
section
open Go.RowKit
set_option maxRecDepth 100000
theorem SubT.add {t u:Tree} {nm:Int} {b:Block} (ok:TreeOK t.names t.blocks) (hn:idx t.names nm<0) (h:SubT t.names t.blocks u.names u.blocks) (h0:0≤idx u.names nm) (hb:z9s u.names u.blocks nm=b):SubT (t.names++[nm]) (t.blocks++[b]) u.names u.blocks:=by
 intro m hm;have:=(z0v _ _).1 hm;rcases zY0w.1 this with h1|h1
 ·have hi:=(z0v _ _).2 h1
  exact ⟨(h m hi).1,((z9i (name:=nm) (b:=b) ok) m hi).2.symm.trans (h m hi).2⟩
 ·obtain rfl:=zY0y.1 h1
  exact ⟨h0,(z6i ok hn).2.trans hb.symm⟩
theorem zf3 {k:Book} {n:Node} (N:NodeOK k n):n.tip=0∨0≤idx n.t.names n.tip:=by
 rw [← N.tip,ziq N.tree];exact z0am n.t.blocks
theorem zva {k:Book} {n:Node} (N:NodeOK k n):(ze k n.t n.tip).2=0:=by
 rcases zf3 N with h0|h0
 ·rw [h0,z5h ((z0e _).2 N.book) N.tree (.inl rfl),z1r];rfl
 ·exact N.coins _ h0
end
section
open Go.RowKit
set_option maxRecDepth 100000
theorem zly {t:Tree} {n:Int} (ok:TreeOK t.names t.blocks) (hn:n=0∨0≤idx t.names n):z80 t n=(pw t.names t.blocks n,0):=z0or ((z03 _ _).2 ok) hn
theorem z0ov {k:Book} {n m:Node} {b:Block} {x:List z1l} {nm:Int} (h:z0k k n b=(x,m,nm,0)) :
  z0o m.t nm=0∧z0a m.t nm=b∧(∃ v w,z80 n.t n.tip=(v,0)∧z80 m.t m.tip=(w,0)∧v≤w)∧z4w ⟨x⟩ nm=0∧z4v ⟨x⟩ nm=(z0q b).1∧(z0q b).2=0∧m.t.names=n.t.names++[nm]∧z0p ⟨x⟩ m=0:=by
 obtain ⟨N,M,hp,B,e1,e2,e3⟩:=zdz h;have hnew:=z6i (b:=b) N.tree (z68 e2).2.2.2.1;have okM:=M.tree;have hi:0≤idx m.t.names nm:=by rw [e3];exact hnew.1
 have hsub:SubT n.t.names n.t.blocks m.t.names m.t.blocks:=by rw [e3];exact z9i N.tree
 have hl:=zmg M.book B.own.1;rw [← e1] at hl;have hpr:=z7p B.ok;refine ⟨(z3n okM hi).2.1,by rw [z8m okM hi,e3];exact hnew.2,⟨_,_,zly N.tree (zf3 N),zly okM (zf3 M),?_⟩,hl.2,by rw [hl.1,hpr],by rw [hpr],by rw [e3],z6j M⟩;obtain ⟨b1,b2,b3,b4⟩:=zft m.t.names m.t.blocks;have htm:(z95 m.t.names m.t.blocks).1=m.tip:=by rw [← M.tip,ziq okM]
 rw [htm] at b1;rw [← b1];rcases zf3 N with h0|h0
 ·rw [h0,zt5];exact b2
 ·rw [hsub.pw N.tree okM (.inr h0)]
  exact (b4 _ ((z0v _ _).1 (hsub _ h0).1)).1
end
section
open Go.RowKit
set_option maxRecDepth 100000
set_option maxHeartbeats 4000000
attribute [local irreducible] z0i spD z35
end
section
open Go.RowKit
set_option maxRecDepth 100000
set_option maxHeartbeats 4000000
attribute [local irreducible] z0i spD z35 z8u
def ofGo (k:List Op):List Int→List Coin→List Int
 | a,[]=>a
 | a,c::r=>if decide (c.o.lock=k)=true then ofGo k (a++[c.o.coin]) r else ofGo k a r
def ofOf (l:List Coin) (k:List Op):Int × Int:=if z00 l≠0 then (0,z00 l) else z8u (ofGo k [] l)
noncomputable def z0s6:z7:=spD (fun _:List Coin × List Op=>True) fun x=>ofOf x.1 x.2
end
section
open Go.RowKit
open Go.Lib (itoa)
set_option maxRecDepth 100000
set_option maxHeartbeats 4000000
attribute [local irreducible] z0i spD ze zk z0p z0k z3k z0al ofOf
attribute [local irreducible] den denX z0x z1c
noncomputable def z6y:z7:=spD (fun x:Book × Node × Int × Int × List Op=>x.2.2.2.2.length≤8796093022208) fun x=>z1k x.1 x.2.1 x.2.2.1 x.2.2.2.1 x.2.2.2.2
theorem zkw (k:Book) (n:Node) (a b:Int) (o:List Op) (h:o.length≤8796093022208):z6y [.l 1 (k.texts.map z05),.l 1 (n.t.names.map zf),.l 5 (n.t.blocks.map zi),.l 3 (n.pool.map eTx),I n.tip,I a,I b,.l 2 (o.map eOp)]=some [.l 1 ((z1k k n a b o).1.map z05),.l 1 ((z1k k n a b o).2.1.t.names.map zf),.l 5 ((z1k k n a b o).2.1.t.blocks.map zi),.l 3 ((z1k k n a b o).2.1.pool.map eTx),I (z1k k n a b o).2.1.tip,I (z1k k n a b o).2.2.1.parent,I (z1k k n a b o).2.2.1.height,I (z1k k n a b o).2.2.1.work,I (z1k k n a b o).2.2.1.nonce,.l 3 ((z1k k n a b o).2.2.1.txs.map eTx),I (z1k k n a b o).2.2.2] :=
 za (p:=fun x:Book × Node × Int × Int × List Op=>x.2.2.2.2.length≤8796093022208) (f:=fun x:Book × Node × Int × Int × List Op=>z1k x.1 x.2.1 x.2.2.1 x.2.2.2.1 x.2.2.2.2) (k,n,a,b,o) h
def z0dh:T :=
 .ite 28 (.ret [.c (.nil 1),.c (.nil 1),.c (.nil 5),.c (.nil 3),zI 0,zI 0,zI 0,zI 0,zI 0,.c (.nil 3),27]) (.ret
 [21,22,23,24,25,14,15,16,17,18,zI 0])
def z0di:T :=
 .lets [.call 87 [0,1,2,3,4,14,15,16,17,18] 0,.call 87 [0,1,2,3,4,14,15,16,17,18] 1,.call 87 [0,.v
 1,2,3,4,14,15,16,17,18] 2,.call 87 [0,1,2,3,4,14,15,16,17,18] 3,.call 87 [0,1,2,3,4,.v
 14,15,16,17,18] 4,.call 87 [0,1,2,3,4,14,15,16,17,18] 5,.call 87 [0,1,2,3,4,14,15,16,17,
 .v 18] 6] [] (.lets [.bin .neq 27 (zI 0)] [] z0dh)
def z0dj:T :=
 .ite 20 (.ret [.c (.nil 1),.c (.nil 1),.c (.nil 5),.c (.nil 3),zI 0,zI 0,zI 0,zI 0,zI 0,.c (.nil 3),19])
 z0di
def z0dk:T :=
 .lets [.call 74 [0,10,3,4,13,5,6,7] 0,.call 74 [0,10,3,4,13,5,6,7] 1,.call 74 [0,10,3,4,13,5,
 .v 6,7] 2,.call 74 [0,10,3,4,13,5,6,7] 3,.call 74 [0,10,3,4,13,5,6,7] 4,.call 74 [0,10,3,4,.v
 13,5,6,7] 5] [] (.lets [.bin .neq 19 (zI 0)] [] z0dj)
def z0dl:T :=
 .ite 12 (.ret [.c (.nil 1),.c (.nil 1),.c (.nil 5),.c (.nil 3),zI 0,zI 0,zI 0,zI 0,zI 0,.c (.nil 3),11]) (.lets
 [.call 83 [1,2,4] 0] [] z0dk)
def z0dm:T :=
 .ite 9 (.ret [.c (.nil 1),.c (.nil 1),.c (.nil 5),.c (.nil 3),zI 0,zI 0,zI 0,zI 0,zI 0,.c (.nil 3),8]) (.lets
 [.call 70 [0,1,2,4] 0,.call 70 [0,1,2,4] 1] [] (.lets [.bin .neq 11 (zI 0)] [] z0dl))
def znv:T :=
 .lets [.call 85 [0,1,2,3,4] 0] [] (.lets [.bin .neq 8 (zI 0)] [] z0dm)
attribute [local irreducible] z2t z37 z32 z4t z9g
theorem z052:Meets Tryz.prog z6y 88 ⟨[.agg 1,.agg 4,.one,.one,.one],[(true,[.pure]),(true,[.pure,.pure,.pure,.scal]),(true,[.scal,.scal,.scal,.scal,.pure]),(false,[.scal])],false⟩:=by
 refine z4q (sp:=(zr [(70,z2t),(74,z9g),(83,z32),(85,z37),(87,z4t)])) (sigs:=zy) (cut:=[]) (hints:=[]) (fns:=[z2k 133 Tryz.f133 [] []]) (dep:=2) (pool:=600) (fn:=Tryz.f88) (t:=znv) (by kernel_rfl) (by kernel_rfl) (by kernel_rfl) ?_ ?_ ?_
 ·exact (z07 (fn:=Tryz.f133) (by kernel_rfl) (by kernel_rfl) (by kernel_rfl) (by kernel_rfl) (by kernel_rfl) z5o)
 ·exact (zl (L:=[(70,z2t),(74,z9g),(83,z32),(85,z37),(87,z4t)]) ⟨z5 rfl zfr,z5 rfl z0cz,z5 rfl zdp,z5 rfl zfs,z5 rfl znr,trivial⟩)
 ·rintro ds rs hok h
  obtain ⟨⟨k,n,a,b,o⟩,ho,rfl,rfl⟩:=z9 h;clear h;simp only at ho;refine ⟨⟨1,?_⟩,z10 ⟨rfl,rfl,rfl,rfl,rfl,rfl,trivial⟩⟩
  show den _ _ znv [.l 1 (k.texts.map z05),.l 1 (n.t.names.map zf),.l 5 (n.t.blocks.map zi),.l 3 (n.pool.map eTx),I n.tip,I a,I b,.l 2 (o.map eOp)] []=ret (z1k k n a b o)
  have a1:=z9r k n;have a2:=z7j k n.t n.tip;have a3:=z94 n.t n.tip;have hh:=fun h=>zv9 (k:=k) (t:=n.t) (n:=n.tip) h
  unfold znv z1k;generalize z0p k n=e1 at *;generalize ze k n.t n.tip=c at *;obtain ⟨l,e2⟩:=c;generalize zk n.t n.tip=hgt at *;simp only at *;have a4:=fun h=>zt3 k.texts l n.pool n.tip hgt a b o h ho
  have hkk:(⟨k.texts⟩:Book)=k:=rfl;rw [hkk] at a4;generalize z3k k l n.pool n.tip hgt a b o=m at *;obtain ⟨mb,e3⟩:=m;simp only at *;have a5:=zf0 k n mb;generalize z0k k n mb=q at *;obtain ⟨x,n2,nm,e4⟩:=q;simp only at *
  by_cases h2:e2=0
  ·have hh:=hh h2
   have a4:=a4 ⟨by omega,by omega⟩
   repeat' (first|refine dq1 ?_|refine dqk rfl (a1) ?_|refine dqK rfl (a2) ?_|refine dqk rfl (a3) ?_|refine dqK rfl (a4) ?_|refine dqK rfl (a5) ?_|exact z4 rfl rfl|refine tR (fun h=>?_) fun h=>?_|fail)
   all_goals omega
  ·clear hh a4
   repeat' (first|refine dq1 ?_|refine dqk rfl (a1) ?_|refine dqK rfl (a2) ?_|exact z4 rfl rfl|refine tR (fun h=>?_) fun h=>?_|fail)
   all_goals omega
attribute [local irreducible] z0de z0s6
end
section
open Go.RowKit
set_option maxRecDepth 100000
def z1p (m:Message):List Dt:=[I m.kind,I m.src,I m.to,I m.name,I m.b.parent,I m.b.height,I m.b.work,I m.b.nonce,.l 3 (m.b.txs.map eTx),I m.t.height,.l 3 (m.t.ins.map eIn),.l 2 (m.t.outs.map z0z)]
theorem z053 (x y:Message) (h:z1p x=z1p y):x=y:=by
 obtain ⟨k,s,t,n,⟨p,hh,w,nc,txs⟩,⟨th,ins,outs⟩⟩:=x;obtain ⟨k',s',t',n',⟨p',hh',w',nc',txs'⟩,⟨th',ins',outs'⟩⟩:=y;unfold z1p at h;simp only [zY1o,Dt.l.injEq,Dt.i.injEq,true_and,and_true] at h;obtain ⟨h1,h2,h3,h4,h5,h6,h7,h8,h9,h10,h11,h12⟩:=h;subst h1 h2 h3 h4 h5 h6 h7 h8 h10;obtain rfl:=z2e zln h9;obtain rfl:=z2e zlm h11;obtain rfl:=z2e zhs h12;rfl
instance:Enc Message:=⟨z1p,12,fun _=>rfl,z053⟩
def znw (w:Wld):List Dt:=[.l 1 (w.book.texts.map z05),.l 4 (w.nodes.map z17),.l 12 (w.net.map z1p)]
theorem z0ox (x y:Wld) (h:znw x=znw y):x=y:=by
 obtain ⟨⟨k⟩,n,m⟩:=x;obtain ⟨⟨k'⟩,n',m'⟩:=y;unfold znw at h;simp only [zY1o,Dt.l.injEq,true_and,and_true] at h;obtain ⟨h1,h2,h3⟩:=h;obtain rfl:=z2e zn4 h1;obtain rfl:=z2e zv8 h2;obtain rfl:=z2e z053 h3;rfl
instance:Enc Wld:=⟨znw,3,fun _=>rfl,z0ox⟩
def zbq (x:Happening):List Dt:=[I x.kind,I x.node,I x.to,I x.k,I x.work,I x.n,I x.t.height,.l 3 (x.t.ins.map eIn),.l 2 (x.t.outs.map z0z)]
theorem z0oy (x y:Happening) (h:zbq x=zbq y):x=y:=by
 obtain ⟨k,s,t,n,w,q,⟨th,ins,outs⟩⟩:=x;obtain ⟨k',s',t',n',w',q',⟨th',ins',outs'⟩⟩:=y;unfold zbq at h;simp only [zY1o,Dt.l.injEq,Dt.i.injEq,true_and,and_true] at h;obtain ⟨h1,h2,h3,h4,h5,h6,h10,h11,h12⟩:=h;subst h1 h2 h3 h4 h5 h6 h10;obtain rfl:=z2e zlm h11;obtain rfl:=z2e zhs h12;rfl
instance:Enc Happening:=⟨zbq,9,fun _=>rfl,z0oy⟩
def z5a:Wld:=⟨⟨[]⟩,[],[]⟩
def z1i (m:Message) (n:Int):Int :=
 if m.kind<1 then 3 else if m.kind > 3 then 3 else if m.src<0 then 3 else if m.src ≥ n then 3 else if m.to<0 then 3 else if m.to ≥ n then 3 else if m.src=m.to then 3 else
 if m.kind=1 then zd m.b else if m.kind=3 then zj m.t else if m.name<1 then 3 else if m.name > 120 then 3 else 0
def z9j (n:Int):List Message→Int
 | []=>0
 | m::r=>if z1i m n≠0 then z1i m n else z9j n r
def z96 (k:Book) (K:Int):List Node→Int
 | []=>K
 | n::r=>if z0p k n≠0 then z0p k n else z96 k K r
def z1q (w:Wld):Int :=
 if (w.nodes.length:Int)<1 then 3 else if (w.nodes.length:Int) > 4 then 3 else if zg w.book≠0 then zg w.book else if (w.net.length:Int) > 20 then 2 else
 z96 w.book (z9j w.nodes.length w.net) w.nodes
def z0c (l:List Node) (i:Int):Node:=(l[i.toNat]?).getD z84
def zMsg:Message:=⟨0,0,0,0,z24,zTx⟩
def z2n (l:List Message) (i:Int):Message:=(l[i.toNat]?).getD zMsg
def z38 (net:List Message) (m:Message):List Message:=if (net.length:Int)<20 then net++[m] else net
def z47 (src:Int) (f:Int→Message):Nat→List Node→List Message→List Message
 | _,[],net=>net
 | k,_::r,net=>if (k:Int)≠src then z47 src f (k+1) r (z38 net (f k)) else z47 src f (k+1) r net
def z20 (l:List Message) (i:Int):List Message:=l.take i.toNat++l.drop (i+1).toNat
abbrev z7v:=Wld × Int
def zhe (w:Wld) (x:Happening):z7v :=
 if (z1k w.book (z0c w.nodes x.node) x.work x.k [⟨1,x.n⟩,⟨7,0⟩]).2.2.2≠0 then (z5a,(z1k w.book (z0c w.nodes x.node) x.work x.k [⟨1,x.n⟩,⟨7,0⟩]).2.2.2) else
 (⟨⟨(z1k w.book (z0c w.nodes x.node) x.work x.k [⟨1,x.n⟩,⟨7,0⟩]).1⟩,w.nodes.set x.node.toNat (z1k w.book (z0c w.nodes x.node) x.work x.k [⟨1,x.n⟩,⟨7,0⟩]).2.1,
  z47 x.node (fun k=>⟨1,x.node,k,0,(z1k w.book (z0c w.nodes x.node) x.work x.k [⟨1,x.n⟩,⟨7,0⟩]).2.2.1,zTx⟩) 0 (w.nodes.set x.node.toNat (z1k w.book (z0c w.nodes x.node) x.work x.k [⟨1,x.n⟩,⟨7,0⟩]).2.1) w.net⟩,0)
def zir (w:Wld) (x:Happening):z7v :=
 if (z13 w.book (z0c w.nodes x.node) x.t).2.2≠0 then (z5a,(z13 w.book (z0c w.nodes x.node) x.t).2.2) else
 (⟨⟨(z13 w.book (z0c w.nodes x.node) x.t).1⟩,w.nodes.set x.node.toNat (z13 w.book (z0c w.nodes x.node) x.t).2.1,
  z47 x.node (fun k=>⟨3,x.node,k,0,z24,x.t⟩) 0 (w.nodes.set x.node.toNat (z13 w.book (z0c w.nodes x.node) x.t).2.1) w.net⟩,0)
def znx (w:Wld) (x:Happening):z7v:=(⟨w.book,w.nodes.set x.node.toNat ⟨(z0c w.nodes x.node).t,[],(z0c w.nodes x.node).tip⟩,w.net⟩,0)
def zlz (w:Wld) (x:Happening):z7v :=
 if z0o (z0c w.nodes x.node).t (z0c w.nodes x.node).tip≠0 then (z5a,z0o (z0c w.nodes x.node).t (z0c w.nodes x.node).tip) else
 (⟨w.book,w.nodes,z38 w.net ⟨1,x.node,x.to,0,z0a (z0c w.nodes x.node).t (z0c w.nodes x.node).tip,zTx⟩⟩,0)
def zm0 (w:Wld) (x:Happening):z7v:=if x.k<1 then (z5a,3) else if x.k > 120 then (z5a,3) else (⟨w.book,w.nodes,z38 w.net ⟨2,x.node,x.to,x.k,z24,zTx⟩⟩,0)
def zcn (w:Wld) (net:List Message) (m:Message):Wld :=
 if (z0k w.book (z0c w.nodes m.to) m.b).2.2.2=0 then ⟨⟨(z0k w.book (z0c w.nodes m.to) m.b).1⟩,w.nodes.set m.to.toNat (z0k w.book (z0c w.nodes m.to) m.b).2.1,net⟩ else
 if (z0k w.book (z0c w.nodes m.to) m.b).2.2.2=5 then ⟨w.book,w.nodes,z38 net ⟨2,m.to,m.src,m.b.parent,z24,zTx⟩⟩ else ⟨w.book,w.nodes,net⟩
def zt7 (w:Wld) (net:List Message) (m:Message):Wld :=
 if z0o (z0c w.nodes m.to).t m.name≠0 then ⟨w.book,w.nodes,net⟩ else ⟨w.book,w.nodes,z38 net ⟨1,m.to,m.src,0,z0a (z0c w.nodes m.to).t m.name,zTx⟩⟩
def z054 (w:Wld) (net:List Message) (m:Message):Wld :=
 if (z13 w.book (z0c w.nodes m.to) m.t).2.2≠0 then ⟨w.book,w.nodes,net⟩ else ⟨⟨(z13 w.book (z0c w.nodes m.to) m.t).1⟩,w.nodes.set m.to.toNat (z13 w.book (z0c w.nodes m.to) m.t).2.1,net⟩
def z7t (w:Wld) (m:Message) (net:List Message):Wld:=if m.kind=1 then zcn w net m else if m.kind=2 then zt7 w net m else if m.kind=3 then z054 w net m else ⟨w.book,w.nodes,net⟩
def z7b (w:Wld) (x:Happening) (q:z7v):z7v:=if x.node<0 then (z5a,5) else if x.node ≥ w.nodes.length then (z5a,5) else q
def zfu (w:Wld) (x:Happening) (q:z7v):z7v:=if x.to<0 then (z5a,5) else if x.to ≥ w.nodes.length then (z5a,5) else if x.to=x.node then (z5a,6) else if (w.net.length:Int)=20 then (z5a,12) else q
def z5u (w:Wld) (x:Happening) (q:z7v):z7v:=if x.k<0 then (z5a,5) else if x.k ≥ w.net.length then (z5a,5) else q
def z1t (w:Wld) (x:Happening):z7v :=
 if x.kind=1 then z7b w x (zhe w x) else if x.kind=2 then z7b w x (zir w x) else if x.kind=7 then z7b w x (znx w x) else
 if x.kind=6 then z7b w x (zfu w x (zlz w x)) else if x.kind=8 then z7b w x (zfu w x (zm0 w x)) else
 if x.kind=3 then z5u w x (z7t w (z2n w.net x.k) (z20 w.net x.k),0) else
 if x.kind=4 then z5u w x (⟨w.book,w.nodes,z20 w.net x.k⟩,0) else
 if x.kind=5 then z5u w x (if (w.net.length:Int)=20 then (z5a,12) else (⟨w.book,w.nodes,z38 w.net (z2n w.net x.k)⟩,0)) else (z5a,4)
def z5v (w:Wld) (x:Happening):z7v:=if z1q w≠0 then (z5a,z1q w) else z1t w x
def z3o (n:Int):z7v:=if n<1 then (z5a,3) else if n > 4 then (z5a,3) else (⟨⟨[]⟩,List.replicate n.toNat z84,[]⟩,0)
def z3q:Wld→List Int→List Happening→Wld × List Int
 | w,said,[]=>(w,said)
 | w,said,x::r=>if (z1t w x).2=0 then z3q (z1t w x).1 (said++[(z1t w x).2]) r else z3q w (said++[(z1t w x).2]) r
def z53 (n:Int) (s:List Happening):Wld × List Int × Int :=
 if (z3o n).2≠0 then (z5a,[],(z3o n).2) else if (s.length:Int) > 60 then (z5a,[],2) else ((z3q (z3o n).1 [] s).1,(z3q (z3o n).1 [] s).2,0)
end
section
open Go.RowKit
set_option maxRecDepth 100000
set_option maxHeartbeats 4000000
theorem z0jp {W:World} {g n cap i j:Nat} {vs:List Value} (hg:W.heap[g]? = some (.cells vs.toArray 53 (0,0))) (hn:n≤cap) (hm:cap≤maxLen) (hcs:vs.length=cap * 12) (h1:∀ u ∈ vs.take (n * 12),u.oneCell'=true) (hij:i<j) (hj:j≤n) :
  Calls Tryz.prog 79 #[.slice (some ⟨g,0,none⟩) n cap,.int .i64 i,.int .i64 j] W fun e w'=>e = .returned (.slice (some ⟨g,0,none⟩) (n - (j - i)) cap) ∧
   w'=((W.drewN 1).setCells g (i * 12) ((vs.take (n * 12)).drop (j * 12))).setCells g ((i+(n - j)) * 12) (Builtin.zeroCells #[.int .i64 0,.int .i64 0,.int .i64 0,.int .i64 0,.int .i64 0,.int .i64 0,.int .i64 0,.int .i64 0,.slice none 0 0,.int .i64 0,.slice none 0 0,.slice none 0 0] (j - i)).toList:=by
 have hm':cap≤9223372036854775807:=hm;obtain ⟨news,hnews⟩:∃ news,news=(vs.take (n * 12)).drop (j * 12):=⟨_,rfl⟩
 have hlen:news.length=(n - j) * 12:=by rw [hnews,zY10,zY0d];omega
 have hg1:W.drew.heap[g]? = some (.cells vs.toArray 53 (0,0)):=hg;obtain ⟨A,hA,hsrc⟩:∃ A:Addr,(if cap=j then some (⟨g,0,none⟩:Addr) else some ⟨g,j * 12,none⟩)=some A∧Hid (∀ t u,news[t]? = some u→W.drew.cell? (A.add t)=some u):=by
  by_cases h:cap=j
  ·refine ⟨⟨g,0,none⟩,by simp [h],fun t u hu=>?_⟩
   have:=(zY02.1 hu).1;omega
  ·refine ⟨⟨g,j * 12,none⟩,by simp [h],fun t u hu=>?_⟩
   have ht:=(zY02.1 hu).1;rw [hnews,zY1e,zY18,if_pos (by omega)] at hu;rw [z55,cell_of_row _ g _ _ 53 (0,0) hg1];simpa using hu
 have s1:Hid (news.length=(n - j) * 12):=hlen;have s2:Hid (∀ u ∈ news,u.oneCell'=true):=by
  intro u hu;rw [hnews] at hu;exact h1 u (zY23 hu)
 have s3:Hid (∀ t,t<news.length→(W.drew.cell? ⟨g,0+i * 12+t,none⟩).isSome=true∧W.drew.frozen? ⟨g,0+i * 12+t,none⟩=false):=by
  intro t ht;have:=zgi (fr:=(0,0)) hg1 (o:=0+i * 12) (n:=news.length) (by omega);exact this t ht
 obtain ⟨W1,hW1⟩:∃ W1,W1=W.drew.setCells g (0+i * 12) news:=⟨_,rfl⟩
 have hg2:W1.heap[g]? = some (.cells (z25 vs (0+i * 12) news).toArray 53 (0,0)):=by rw [hW1];exact z2a _ _ _ _ hg1
 have hcl:∀ ty,(Builtin.clear_ #[26] ty #[.slice (some ⟨g,(i+(n - j)) * 12,none⟩) (n - (i+(n - j))) (cap - (i+(n - j)))]).run Tryz.prog W1 = .ok (.tuple #[]) (W1.setCells g ((i+(n - j)) * 12) (Builtin.zeroCells #[.int .i64 0,.int .i64 0,.int .i64 0,.int .i64 0,.int .i64 0,.int .i64 0,.int .i64 0,.int .i64 0,.slice none 0 0,.int .i64 0,.slice none 0 0,.slice none 0 0] (n - (i+(n - j)))).toList) :=
  fun ty=>zuz (sz:=12) Tryz.underlying26 Tryz.zeroValue53 rfl (by simp [Value.cells,Value.oneCell']) hg2 (by rw [z26];omega)
 have hW:Hid (W1=W.drew.setCells g (0+i * 12) news):=hW1;have hic:i≤cap:=by omega
 have hjc:j≤cap:=by omega
 have hnews:=Lib.hid hnews;clear hW1 hg2 hg hg1 hlen;go_enter Tryz.func79,Tryz.ntmps79;go_wp2_with fail;obtain ⟨ht,ie,zv,he,hz0,hsz,hbz,hzs⟩:=z0c5;go_region_law (refine step_append_room rfl (.tmp 22) (.tmp 25) 26 rfl 53 ie 12 ht he hsz g 0 i cap (by simp [Act.eval,Act.put]) A (n - j) (cap - j) news (by simp [Act.eval,Act.put,hA]) s1.out hsrc.out s2.out (by omega) s3.out ?_;rw [← hW.out]);go_wp2;go_ret;refine ⟨by rw [show n - (j - i)=i+(n - j) by omega];rfl,?_⟩;rw [hW.out,zY0s,hnews.out,show n - (i+(n - j))=j - i by omega];rfl
theorem z0jq {W:World} {A:Option Addr} {n cap i:Nat} (hi:i≤n) (hn:n≤cap) (hm:cap≤maxLen):Calls Tryz.prog 79 #[.slice A n cap,.int .i64 i,.int .i64 i] W fun r W'=>r = .returned (.slice A n cap)∧W'=W:=by
 have hm':cap≤9223372036854775807:=hm;have hic:i≤cap:=by omega
 go_enter Tryz.func79,Tryz.ntmps79;go_wp2_with fail
 all_goals (go_ret;exact ⟨rfl,rfl⟩)
noncomputable def z6z:z7:=spD (fun x:List Message × Int × Int=>0≤x.2.1∧x.2.1≤x.2.2∧x.2.2≤x.1.length) fun x=>x.1.take x.2.1.toNat++x.1.drop x.2.2.toNat
theorem z055:Meets Tryz.prog z6z 79 ⟨[.mine 53 12,.one,.one],[(false,[.fresh 53 12])],false⟩ :=
 zv0 rfl (by decide) (z2h (fn:=Tryz.f79) (by kernel_rfl) (by kernel_rfl) (by kernel_rfl)) #[.int .i64 0,.int .i64 0,.int .i64 0,.int .i64 0,.int .i64 0,.int .i64 0,.int .i64 0,.int .i64 0,.slice none 0 0,.int .i64 0,.slice none 0 0,.slice none 0 0] rfl (fun W A n cap i h1 h2 h3=>z0jq h1 h2 h3) (fun W g n cap i j vs h1 h2 h3 h4 h5 h6 h7=>z0jp h1 h2 h3 h4 h5 h6 h7)
end
section
open Go.RowKit Go.ChangeShapes Go.WideShapes
structure OpensF {α:Type} (P:Program) (S:Sh α) (fit:α→Prop) (t:TypeId):Prop where
 go:∀ {H:Type} {enc:TypeId × Value→H} {w:World} {base:Nat} {spare:Nat→Bool} {held:Bool} {fuel:Nat} {cs:List Value} {x:DataW H × List MemPlace},
  DataW.trod enc P w base spare held fuel t cs=some x→(x.1.weights P t).all (fun n=>decide (n≤reachBytes))=true→∃ a,S.rep w (Lt w.heap.size) a cs∧fit a
structure OpensR {α:Type} (P:Program) (S:Sh α) (fit:α→Prop) (fs:List Field) (off:Nat):Prop where
 go:∀ {H:Type} {enc:TypeId × Value→H} {w:World} {base:Nat} {spare:Nat→Bool} {held:Bool} {n:Nat} {cs:List Value} {xs:List (DataW H × List MemPlace)},cs.length=off+S.size→xs.length=fs.length →
  (∀ (i:Nat) (f:Field),fs[i]? = some f→DataW.trod enc P w base spare held n f.type ((cs.drop f.offset).take (P.cellsOf f.type))=xs[i]?) →
  (DataW.weightsEach P (fs.map (·.type)) (xs.map (·.1))).all (fun n=>decide (n≤reachBytes))=true→∃ a,S.rep w (Lt w.heap.size) a (cs.drop off)∧fit a
section
variable {P:Program} {t:TypeId}
theorem z0jx {H:Type} {e:TypeId}:∀ {l:List (DataW H)},(DataW.weightsAll P e l).all (fun n=>decide (n≤reachBytes))=true→∀ d ∈ l,(d.weights P e).all (fun n=>decide (n≤reachBytes))=true
 | [],_,d,hd=>by cases hd
 | x::l,h,d,hd=>by
  simp only [DataW.weightsAll,zY3g,zY0e] at h;rcases zY0f.1 hd with rfl|hd
  ·exact h.1
  ·exact z0jx h.2 d hd
theorem ze0 {α:Type} {S:Sh α} (h:z0t P S t):OpensF P S (fun _=>True) t:=by
 refine ⟨?_⟩;intro H enc w base spare held fuel cs x h1 _;obtain ⟨a,ha⟩:=h h1;exact ⟨a,ha,trivial⟩
theorem zco {α:Type} {S:Sh α} {p:α→Prop} {e:TypeId} {z q:Nat} (ht:P.underlying t=some (.slice e)) (hs:P.cellsOf e=S.size) (h0:0<S.size) (hz:P.bytesOf e=z) (hq:∀ n:Nat,n * z≤140737488351232→n≤q) (he:OpensF P S p e):OpensF P (z0l S) (fun l=>l.length≤q∧∀ x ∈ l,p x) t:=by
 refine ⟨?_⟩;intro H enc w base spare held fuel cs x h hwt;rcases Go.Deep.open_slice ht h with ⟨rfl,_⟩|⟨a,len,cap,m,n,D,Pl,rfl,_,hl,hm,hmm,hx,hi⟩
 ·exact ⟨[],⟨_,_,_,rfl,Rds.nil _ _ _⟩,by simp,fun x hx=>by cases hx⟩
 rw [hx] at hwt;simp only [DataW.weights,ht,zY3o,zY3g,zY0e,decide_eq_true_eq] at hwt;obtain ⟨hw1,hw2,-⟩:=hwt;have hlz:len * z≤140737488351232:=by
  rw [hz,zY15,List.length_range] at hw1;refine Nat.le_trans (zY1p z (Nat.le_add_right _ _)) (Nat.le_trans hw1 ?_);decide
 ·have hlm:len≤m:=by rw [hmm];split <;> omega
  have key:∀ i,i<len→∃ y:α × List Value,(S.rep w (Lt w.heap.size) y.1 y.2∧p y.1)∧∀ j,j<S.size→w.cell? (a.add (i * S.size+j))=y.2[j]?:=by
   intro i hlt;obtain ⟨cs',hc,ht'⟩:=hi i (by omega);obtain ⟨y,hy,hp⟩:=he.go ht' (z0jx hw2 (D i) (zY2w.2 ⟨i,zY2c.2 hlt,rfl⟩));obtain ⟨_,hcl,hat⟩:=World.cells?_some hc;refine ⟨(y,cs'),⟨hy,hp⟩,fun j hj=>?_⟩;have:=hat j (by omega);rw [hs,Go.Deep.add_add] at this;exact this
  have key2:∃ ys:List (α × List Value),ys.length=len∧∀ i (hi:i<ys.length),(S.rep w (Lt w.heap.size) ys[i].1 ys[i].2∧p ys[i].1)∧∀ j,j<S.size→w.cell? (a.add (i * S.size+j))=ys[i].2[j]?:=by
   clear hi hmm hlm hl h hx hw1 hw2 hlz
   induction len with
   | zero=>exact ⟨[],rfl,fun i hi=>by simp at hi⟩
   | succ l ih =>
    obtain ⟨ys,hy1,hy2⟩:=ih (fun i hi=>key i (by omega));obtain ⟨y,hy⟩:=key l (by omega);refine ⟨ys++[y],by simp [hy1],fun i hi=>?_⟩
    by_cases h':i<ys.length
    ·rw [List.getElem_append_left h'];exact hy2 i h'
    ·have:i=l:=by simp at hi;omega
     subst this;rw [List.getElem_append_right (by omega)];simpa [hy1] using hy
  obtain ⟨ys,hy1,hy2⟩:=key2;refine ⟨ys.map (·.1),⟨_,_,_,rfl,by simp [hy1],hl,by unfold maxLen at hm;omega,fun hn=>?_⟩,by rw [zY15,hy1];exact hq _ hlz,fun x hx=>?_⟩
  rotate_left
  ·obtain ⟨y,hy,rfl⟩:=zY2w.1 hx
   obtain ⟨i,hi,rfl⟩:=List.mem_iff_getElem.1 hy;exact (hy2 i hi).1.2
  have c0:=(hy2 0 (by omega)).2 0 h0;have hl0:=S.len (hy2 0 (by omega)).1.1;have hspot:a.spot=none:=by
   have:(ys[0]'(by omega)).2[0]? = some ((ys[0]'(by omega)).2[0]'(by omega)):=zY03 (by omega);rw [this] at c0;have:=World.cell?_spot c0;simpa [Addr.add] using this
  obtain ⟨b,off,spot⟩:=a;simp only at hspot;subst hspot;have hadd:∀ k,(Addr.mk b off none).add k=⟨b,off+k,none⟩:=by
   intro k;unfold Addr.add;split <;> simp_all
  refine ⟨b,off,rfl,?_,fun i hi=>?_⟩
  ·show b<w.heap.size
   rcases zY1n b w.heap.size with h'|h'
   ·exact h'
   ·have e:w.cell? ((Addr.mk b off none).add (0 * S.size+0))=none:=by
     rw [hadd];simp [World.cell?,zY16 h']
    rw [e] at c0;have:(ys[0]'(by omega)).2[0]? = some ((ys[0]'(by omega)).2[0]'(by omega)):=zY03 (by omega);rw [this] at c0;cases c0
  ·have hi':i<ys.length:=by simpa using hi
   refine ⟨ys[i].2,by simpa using (hy2 i hi').1.1,fun j v hj=>?_⟩;have hjl:j<S.size:=by
    have:=S.len (hy2 i hi').1.1;have:=(zY02.1 hj).1;omega
   have:=(hy2 i hi').2 j hjl;rw [hadd,hj] at this;rw [← this,zY2t]
theorem zbr {α:Type} {S0:Sh α} {p0:α→Prop} {f0:Field} {off:Nat} (o0:f0.offset=off) (c0:P.cellsOf f0.type=S0.size) (h0:OpensF P S0 p0 f0.type):OpensR P S0 p0 [f0] off:=by
 refine ⟨?_⟩;intro H enc w base spare held n cs xs hl hx hf hw
 match xs,hx with
 | [x0],_ =>
  have g0:=hf 0 f0 rfl;rw [o0,c0,zY0n (by simp;omega)] at g0;simp only [zY1q,zY2v,DataW.weightsEach,zY27] at hw;exact h0.go g0 hw
theorem z22 {α β τ:Type} {S0:Sh α} {S1:Sh β} {f:α→β→τ} {p0:α→Prop} {p1:β→Prop} {fit:τ→Prop} {f0:Field} {fs:List Field} {off:Nat} (o0:f0.offset=off) (c0:P.cellsOf f0.type=S0.size) (h0:OpensF P S0 p0 f0.type) (h1:OpensR P S1 p1 fs (off+S0.size))
  (hfit:∀ a b,p0 a→p1 b→fit (f a b)):OpensR P (z2p S0 S1 f) fit (f0::fs) off:=by
 refine ⟨?_⟩;intro H enc w base spare held n cs xs hl hx hf hw
 match xs,hx with
 | x0::xs,hx =>
  have g0:=hf 0 f0 rfl;rw [o0,c0] at g0;simp only [zY1q,DataW.weightsEach,zY3g,zY0e] at hw;obtain ⟨a,ha,hpa⟩:=h0.go g0 hw.1;have hl':cs.length=off+S0.size+S1.size:=by rw [hl];show off+(S0.size+S1.size)=_;omega
  obtain ⟨b,hb,hpb⟩:=h1.go (cs:=cs) (xs:=xs) (n:=n) hl' (by simpa using hx) (fun i f h=>by simpa using hf (i+1) f (by simpa using h)) hw.2;refine ⟨f a b,⟨a,b,_,_,rfl,?_,ha,hb⟩,hfit a b hpa hpb⟩;rw [← zY33,zY14]
theorem z7c {α:Type} {S:Sh α} {fit:α→Prop} {fs:Array Field} (ht:P.underlying t=some (.struct fs)) (hc:P.cellsOf t=S.size) (h:OpensR P S fit fs.toList 0):OpensF P S fit t:=by
 refine ⟨?_⟩;intro H enc w base spare held fuel cs x hx hw;obtain ⟨xs,n,_,rfl,hl,hxl,hf⟩:=DataW.trod_struct ht hx;simp only [DataW.weights,ht] at hw;obtain ⟨a,ha,hp⟩:=h.go (cs:=cs) (xs:=xs) (n:=n) (by rw [hl,hc];omega) (by rw [hxl];simp) (fun i f h=>hf i f (by simpa using h)) hw;exact ⟨a,by simpa using ha,hp⟩
end
def MsgFit (m:Message):Prop:=z6r m.b∧z6m m.t
theorem z49:OpensF Tryz.prog shInt (fun _=>True) 3:=ze0 z69
theorem z0ao:OpensF Tryz.prog (z0l shOp) (fun l=>l.length≤8796093021952∧∀ x ∈ l,True) 73:=zco (z:=16) Tryz.underlying73 (by kernel_rfl) (by decide) (by kernel_rfl) (fun n h=>by omega) (ze0 z0q2)
theorem z0up:OpensF Tryz.prog shIn (fun x=>x.key.length≤8796093021952) 75:=z7c Tryz.underlying75 (by kernel_rfl) (z22 rfl (by kernel_rfl) (ze0 zny) (zbr rfl (by kernel_rfl) z0ao) fun _ _ _ h=>h.1)
theorem z0sg:OpensF Tryz.prog shOut (fun x=>x.lock.length≤8796093021952) 81:=z7c Tryz.underlying81 (by kernel_rfl) (z22 rfl (by kernel_rfl) z49 (zbr rfl (by kernel_rfl) z0ao) fun _ _ _ h=>h.1)
theorem z0sh:OpensF Tryz.prog (z0l shIn) (fun l=>l.length≤3518437208780∧∀ x ∈ l,x.key.length≤8796093021952) 35:=zco (z:=40) Tryz.underlying35 (by kernel_rfl) (by decide) (by kernel_rfl) (fun n h=>by omega) z0up
theorem z0p3:OpensF Tryz.prog (z0l shOut) (fun l=>l.length≤4398046510976∧∀ x ∈ l,x.lock.length≤8796093021952) 36:=zco (z:=32) Tryz.underlying36 (by kernel_rfl) (by decide) (by kernel_rfl) (fun n h=>by omega) z0sg
theorem z0jy:OpensF Tryz.prog shTx z6m 38:=z7c Tryz.underlying38 (by kernel_rfl) (z22 (p1:=fun q:List In × List Out=>(q.1.length≤3518437208780∧∀ x ∈ q.1,x.key.length≤8796093021952)∧(q.2.length≤4398046510976∧∀ x ∈ q.2,x.lock.length≤8796093021952)) rfl (by kernel_rfl) z49 (z22 rfl (by kernel_rfl) z0sh (zbr rfl (by kernel_rfl) z0p3) fun _ _ h k=>⟨h,k⟩) fun _ _ _ h=>h)
theorem z0si:OpensF Tryz.prog (z0l shTx) (fun l=>l.length≤2513169434843∧∀ x ∈ l,z6m x) 46:=zco (z:=56) Tryz.underlying46 (by kernel_rfl) (by decide) (by kernel_rfl) (fun n h=>by omega) z0jy
theorem z0jz:OpensF Tryz.prog shBlock z6r 51:=z7c Tryz.underlying51 (by kernel_rfl) (z22 (p1:=fun q:Int × Int × Int × List Tx=>q.2.2.2.length≤2513169434843∧∀ x ∈ q.2.2.2,z6m x) rfl (by kernel_rfl) z49 (z22 (p1:=fun q:Int × Int × List Tx=>q.2.2.length≤2513169434843∧∀ x ∈ q.2.2,z6m x) rfl (by kernel_rfl) z49 (z22 (p1:=fun q:Int × List Tx=>q.2.length≤2513169434843∧∀ x ∈ q.2,z6m x) rfl (by kernel_rfl) z49 (z22 rfl (by kernel_rfl) z49 (zbr rfl (by kernel_rfl) z0si) fun _ _ _ h=>h) fun _ _ _ h=>h) fun _ _ _ h=>h) fun _ _ _ h=>h)
theorem z0sj:OpensF Tryz.prog zfe MsgFit 53:=z7c Tryz.underlying53 (by kernel_rfl) (z22 (p1:=fun q:Int × Int × Int × Block × Tx=>z6r q.2.2.2.1∧z6m q.2.2.2.2) rfl (by kernel_rfl) z49 (z22 (p1:=fun q:Int × Int × Block × Tx=>z6r q.2.2.1∧z6m q.2.2.2) rfl (by kernel_rfl) z49 (z22 (p1:=fun q:Int × Block × Tx=>z6r q.2.1∧z6m q.2.2) rfl (by kernel_rfl) z49 (z22 (p1:=fun q:Block × Tx=>z6r q.1∧z6m q.2) rfl (by kernel_rfl) z49 (z22 rfl (by kernel_rfl) z0jz (zbr rfl (by kernel_rfl) z0jy) fun _ _ h k=>⟨h,k⟩) fun _ _ _ h=>h) fun _ _ _ h=>h) fun _ _ _ h=>h) fun _ _ _ h=>h)
theorem z0p4:OpensF Tryz.prog (z0l zfe) (fun l=>l.length≤977343669105∧∀ x ∈ l,MsgFit x) 26:=zco (z:=144) Tryz.underlying26 (by kernel_rfl) (by decide) (by kernel_rfl) (fun n h=>by omega) z0sj
theorem z0p5:z0t Tryz.prog (z0l zoz) 25:=z41 Tryz.underlying25 (by kernel_rfl) (by decide) z0sf
theorem opf_wld:OpensF Tryz.prog shWld (fun w=>∀ m ∈ w.net,MsgFit m) 28:=z7c Tryz.underlying28 (by kernel_rfl) (z22 (p1:=fun q:List Node × List Message=>∀ m ∈ q.2,MsgFit m) rfl (by kernel_rfl) (ze0 z0sa) (z22 rfl (by kernel_rfl) (ze0 z0p5) (zbr rfl (by kernel_rfl) z0p4) fun _ _ _ h=>h.2) fun _ _ _ h=>h)
theorem opf_hap:OpensF Tryz.prog shHappening (fun _=>True) 40:=z7c Tryz.underlying40 (by kernel_rfl) (z22 (p1:=fun _=>True) rfl (by kernel_rfl) z49 (z22 (p1:=fun _=>True) rfl (by kernel_rfl) z49 (z22 (p1:=fun _=>True) rfl (by kernel_rfl) z49 (z22 (p1:=fun _=>True) rfl (by kernel_rfl) z49 (z22 (p1:=fun _=>True) rfl (by kernel_rfl) z49 (z22 rfl (by kernel_rfl) z49 (zbr rfl (by kernel_rfl) (ze0 z0q3)) fun _ _ _ _=>trivial) fun _ _ _ _=>trivial) fun _ _ _ _=>trivial) fun _ _ _ _=>trivial) fun _ _ _ _=>trivial) fun _ _ _ _=>trivial)
end
section
open Go.RowKit
open Go.Lib (itoa)
set_option maxRecDepth 100000
set_option maxHeartbeats 4000000
section
variable {sp:Nat→z7} {N:Nat} {E E':Env} {ks:List (List Dt→Option (List Dt))} {res:Option (List Dt)} {k:T} {ds:List Dt}
theorem dqN {xs:List X} (hk:den sp N k E' ks=res) (h:z0x sp E xs=some ds:=by first|exact z0px rfl rfl (by omega) (by first|assumption|exact hx) (by rfl)|exact z2q (zgq rfl rfl (by omega) (by first|assumption|exact hx) rfl) (z2q (zgq rfl rfl (by omega) (by first|assumption|exact hx) rfl) zfg)) (hE:E++ds=E':=by (simp only [z17,z1p,zak,zY1a,zY0z];try exact rfl)):den sp N (.lets xs [] k) E ks=res:=z89 h hk hE
end
theorem zvb {n:Int}:∀ {l:List Message},z9j n l=0→∀ m ∈ l,z1i m n=0
 | [],_,m,hm=>by cases hm
 | x::l,h,m,hm=>by
  rw [z9j] at h
  by_cases h1:z1i x n=0
  ·rw [if_neg (fun k=>k h1)] at h
   rcases zY0f.1 hm with rfl|hm
   ·exact h1
   ·exact zvb h m hm
  ·rw [if_pos h1] at h;exact absurd h h1
theorem zqj {k:Book} {K:Int}:∀ {l:List Node},z96 k K l=0→K=0∧∀ n ∈ l,z0p k n=0
 | [],h=>⟨h,fun n hn=>by cases hn⟩
 | x::l,h=>by
  rw [z96] at h
  by_cases h1:z0p k x=0
  ·rw [if_neg (fun k=>k h1)] at h
   obtain ⟨g1,g2⟩:=zqj h;refine ⟨g1,fun n hn=>?_⟩;rcases zY0f.1 hn with rfl|hn
   ·exact h1
   ·exact g2 n hn
  ·rw [if_pos h1] at h;exact absurd h h1
structure WldOK (w:Wld):Prop where
 ge:1≤w.nodes.length
 le:w.nodes.length≤4
 book:zg w.book=0
 net:w.net.length≤20
 nodes:∀ n ∈ w.nodes,z0p w.book n=0
 msgs:∀ m ∈ w.net,z1i m w.nodes.length=0
theorem zf5 {w:Wld} (h:z1q w=0):WldOK w:=by
 unfold z1q at h
 by_cases h1:(w.nodes.length:Int)<1
 ·rw [if_pos h1] at h;exact absurd h (by decide)
 rw [if_neg h1] at h
 by_cases h2:(w.nodes.length:Int) > 4
 ·rw [if_pos h2] at h;exact absurd h (by decide)
 rw [if_neg h2] at h
 by_cases h3:zg w.book=0
 rotate_left
 ·rw [if_pos h3] at h;exact absurd h h3
 rw [if_neg (fun k=>k h3)] at h
 by_cases h4:(w.net.length:Int) > 20
 ·rw [if_pos h4] at h;exact absurd h (by decide)
 rw [if_neg h4] at h;obtain ⟨g1,g2⟩:=zqj h;exact ⟨by omega,by omega,h3,by omega,g2,zvb g1⟩
structure WldFit (w:Wld):Prop where
 texts:w.book.texts.length≤1000000
 nodes:w.nodes.length≤1000
 net:w.net.length≤1000
 each:∀ n ∈ w.nodes,TreeOK n.t.names n.t.blocks∧n.pool.length≤8∧∀ t ∈ n.pool,zj t=0
 msgs:∀ m ∈ w.net,MsgFit m
theorem WldOK.fit {w:Wld} (h:WldOK w) (hm:∀ m ∈ w.net,MsgFit m):WldFit w :=
 ⟨by have:=((z0e w.book.texts).1 h.book).1;omega,by have:=h.le;omega,by have:=h.net;omega,fun n hn=>zhc (h.nodes n hn),hm⟩
attribute [local irreducible] z0i spD z0p zd zj zg
attribute [local irreducible] den denX z0x z1c
noncomputable def zis:z7:=spD (fun _:Message × Int=>True) fun x=>z1i x.1 x.2
theorem z08t (m:Message) (n:Int):zis [I m.kind,I m.src,I m.to,I m.name,I m.b.parent,I m.b.height,I m.b.work,I m.b.nonce,.l 3 (m.b.txs.map eTx),I m.t.height,.l 3 (m.t.ins.map eIn),.l 2 (m.t.outs.map z0z),I n]=some [I (z1i m n)]:=za (f:=fun x:Message × Int=>z1i x.1 x.2) (m,n) trivial
theorem zt8 (t:Tx):z60 [I t.height,.l 3 (t.ins.map eIn),.l 2 (t.outs.map z0z)]=some [I (zj t)]:=za (f:=fun t:Tx=>zj t) t trivial
def z0k0:T :=
 .lets [.bin .lss 3 (zI 1)] [] (.ite 22 (.ret [zI 3]) (.lets [.bin .gtr 3 (zI 120)] [] (.ite 23 (.ret [zI 3]) (.ret [.c
 (.i .i64 0)]))))
def z0k1:T :=
 .ite 20 (.lets [.call 51 [4,5,6,7,8] 0] [] (.ret [21])) (.lets [.bin .eql 0 (zI 3)] [] (.ite 21 (.lets [.call 17 [9,10,11]
 0] [] (.ret [22])) z0k0))
def z0k2:T :=
 .ite 18 (.ret [zI 3]) (.lets [.bin .eql 1 2] [] (.ite 19 (.ret [zI 3]) (.lets [.bin .eql 0 (zI 1)] [] z0k1)))
def z0k3:T :=
 .ite 16 (.ret [zI 3]) (.lets [.bin .lss 2 (zI 0)] [] (.ite 17 (.ret [zI 3]) (.lets [.bin .geq 2 12] [] z0k2)))
def z0k4:T :=
 .ite 14 (.ret [zI 3]) (.lets [.bin .lss 1 (zI 0)] [] (.ite 15 (.ret [zI 3]) (.lets [.bin .geq 1 12] [] z0k3)))
def zt9:T :=
 .lets [.bin .lss 0 (zI 1)] [] (.ite 13 (.ret [zI 3]) (.lets [.bin .gtr 0 (zI 3)] [] z0k4))
attribute [local irreducible] z2b z60
theorem z0sk:Meets Tryz.prog zis 32 ⟨[.agg 12,.one],[(false,[.scal])],true⟩:=by
 refine z8 (sp:=(zr [(17,z60),(51,z2b)])) (sigs:=zy) (cut:=[]) (hints:=[]) (fn:=Tryz.f32) (t:=zt9) (by kernel_rfl) (by kernel_rfl) (by kernel_rfl) ?_ ?_
 ·exact (zl (L:=[(17,z60),(51,z2b)]) ⟨z5 rfl zuj,z5 rfl zdh,trivial⟩)
 ·rintro ds rs - h
  obtain ⟨⟨m,n⟩,-,rfl,rfl⟩:=z9 h;clear h;refine ⟨⟨1,?_⟩,zq rfl⟩
  show den _ _ zt9 [I m.kind,I m.src,I m.to,I m.name,I m.b.parent,I m.b.height,I m.b.work,I m.b.nonce,.l 3 (m.b.txs.map eTx),I m.t.height,.l 3 (m.t.ins.map eIn),.l 2 (m.t.outs.map z0z),I n] []=ret (z1i m n)
  have a1:=z92 m.b;have a2:=zt8 m.t;unfold zt9 z1i
  repeat' (first|refine dq1 ?_|refine dqk rfl (a1) ?_|refine dqk rfl (a2) ?_|exact z4 rfl rfl|refine tR (fun h=>?_) fun h=>?_|fail)
noncomputable def z48:z7:=spD (fun _:Wld=>True) fun w=>z1q w
theorem zd2 (w:Wld):z48 [.l 1 (w.book.texts.map z05),.l 4 (w.nodes.map z17),.l 12 (w.net.map z1p)]=some [I (z1q w)]:=za (f:=fun w:Wld=>z1q w) w trivial
def z08u:T :=
 .lets [.call 85 [0,15,16,17,18] 0] [] (.lets [.bin .neq 19 (zI 0)] [] (.ite 20 (.ret [19]) (.lets [.bin .add 13 (zI 1)] []
 (.again 0 [12,21]))))
def z08v:T :=
 .lets [.call 104 [19,20,21,22,23,24,25,26,27,28,29,30,31] 0] [] (.lets [.bin .neq 32 (zI 0)] [] (.ite 33 (.ret
 [32]) (.lets [.bin .add 17 (zI 1)] [] (.again 1 [16,34]))))
def z08w:T :=
 .lets [.idx 2 17 0,.idx 2 17 1,.idx 2 17 2,.idx 2 17 3,.idx 2 17 4,.idx 2 17 5,.idx 2 17 6,.idx 2
 17 7,.idx 2 17 8,.idx 2 17 9,.idx 2 17 10,.idx 2 17 11] [] (.lets [.len 1] [] z08v)
def z08x:T :=
 .lets [.len 2] [] (.loop [12,zI 0] (.lets [.bin .lss 17 15] [] (.ite 18 (.lets [] [.inr 12 2 17] z08w) (.ret [zI 0]))))
def z08y:T :=
 .ite 14 (.lets [] [.inr 4 1 13] (.lets [.idx 1 13 0,.idx 1 13 1,.idx 1 13 2,.idx 1 13 3] [] z08u)) z08x
def z08z:T :=
 .lets [.bin .gtr 9 (zI 20)] [] (.ite 10 (.ret [zI 2]) (.lets [.len 1] [] (.loop [zI 0,zI 0] (.lets [.bin .lss 13 (.v
 11)] [] z08y))))
def z090:T :=
 .ite 6 (.ret [zI 3]) (.lets [.call 49 [0] 0] [] (.lets [.bin .neq 7 (zI 0)] [] (.ite 8 (.ret [7]) (.lets [.len 2] [] z08z))))
def z091:T :=
 .lets [.bin .lss 3 (zI 1)] [] (.ite 4 (.ret [zI 3]) (.lets [.len 1] [] (.lets [.bin .gtr 5 (zI 4)] [] z090)))
def zky:T :=
 .lets [.len 1] [] z091
attribute [local irreducible] z1o z37
theorem zkz:Meets Tryz.prog z48 8 ⟨[.agg 3],[(false,[.scal])],true⟩:=by
 refine z8 (sp:=(zr [(49,z1o),(85,z37),(104,zis)])) (sigs:=zy) (cut:=[]) (hints:=[⟨9,[.t 2,.t 33]⟩,⟨16,[.t 2,.t 48]⟩]) (fn:=Tryz.f8) (t:=zky) (by kernel_rfl) (by kernel_rfl) (by kernel_rfl) ?_ ?_
 ·exact (zl (L:=[(49,z1o),(85,z37),(104,zis)]) ⟨z5 rfl zc3,z5 rfl zfs,z5 rfl z0sk,trivial⟩)
 ·rintro ds rs hok h
  obtain ⟨w,-,rfl,rfl⟩:=z9 h;clear h;refine ⟨⟨w.nodes.length+w.net.length+1,?_⟩,zq rfl⟩
  show den _ _ zky [.l 1 (w.book.texts.map z05),.l 4 (w.nodes.map z17),.l 12 (w.net.map z1p)] []=ret (z1q w)
  have a1:=z81 w.book;unfold zky z1q
  repeat' (first|refine dq1 ?_|refine dqk rfl (a1) ?_|exact z4 rfl rfl|refine tR (fun h=>?_) fun h=>?_|fail)
  (refine zm (fun (_:Unit) k=>[I 0,I k]) (fun (_:Unit) _ (r:List Node)=>z96 w.book (z9j w.nodes.length w.net) r) (fun _ _=>True) () w.nodes ?_ ?_ ?_ ?_ ?_;rfl;exact trivial;omega)
  ·rintro _ k n r hx hd hkl - again hag
   have a2:=z9r w.book n;rw [z96]
   repeat' (first|refine dq1 ?_|refine dqc ?_|refine dqN ?_|refine dqk rfl (a2) ?_|exact zb rfl rfl (hag () trivial)|exact z4 rfl rfl|refine tR (fun h=>?_) fun h=>?_|refine dqT ?_|fail)
  ·intro _ _ again
   rw [z96]
   repeat' (first|refine dq1 ?_|refine dqF ?_|fail)
   (refine zm (fun (_:Unit) k=>[I 0,I k]) (fun (_:Unit) _ (r:List Message)=>z9j w.nodes.length r) (fun _ _=>True) () w.net ?_ ?_ ?_ ?_ ?_;rfl;exact trivial;omega)
   ·rintro _ k n r hx hd hkl - again hag
    have a2:=z08t n w.nodes.length;rw [z9j]
    repeat' (first|refine dq1 ?_|refine dqc ?_|refine dqN ?_|refine dqk rfl (a2) ?_|exact zb rfl rfl (hag () trivial)|exact z4 rfl rfl|refine tR (fun h=>?_) fun h=>?_|refine dqT ?_|fail)
   ·intro _ _ again
    rw [z9j]
    repeat' (first|refine dq1 ?_|exact z4 rfl rfl|refine dqF ?_|fail)
noncomputable def z42:z7:=spD MsgFit fun m=>m
theorem z2o (m:Message) (h:MsgFit m):z42 [I m.kind,I m.src,I m.to,I m.name,I m.b.parent,I m.b.height,I m.b.work,I m.b.nonce,.l 3 (m.b.txs.map eTx),I m.t.height,.l 3 (m.t.ins.map eIn),.l 2 (m.t.outs.map z0z)]=some [I m.kind,I m.src,I m.to,I m.name,I m.b.parent,I m.b.height,I m.b.work,I m.b.nonce,.l 3 (m.b.txs.map eTx),I m.t.height,.l 3 (m.t.ins.map eIn),.l 2 (m.t.outs.map z0z)]:=za (p:=MsgFit) (f:=fun m:Message=>m) m h
def z058:T :=
 .lets [.call 67 [9,10,11] 0,.call 67 [9,10,11] 1,.call 67 [9,10,11] 2] [] (.ret [0,1,2,3,12,13,14,15,16,17,
 .v 18,19])
def zit:T :=
 .lets [.call 102 [4,5,6,7,8] 0,.call 102 [4,5,6,7,8] 1,.call 102 [4,5,6,7,8] 2,.call 102 [4,5,6,7,8]
 3,.call 102 [4,5,6,7,8] 4] [] z058
attribute [local irreducible] z3m z2d
theorem ziu:Meets Tryz.prog z42 76 ⟨[.agg 12],[(true,[.scal,.scal,.scal,.scal,.scal,.scal,.scal,.scal,.pure,.scal,.pure,.pure])],false⟩:=by
 refine z8 (sp:=(zr [(67,z2d),(102,z3m)])) (sigs:=zy) (cut:=[]) (hints:=[]) (fn:=Tryz.f76) (t:=zit) (by kernel_rfl) (by kernel_rfl) (by kernel_rfl) ?_ ?_
 ·exact (zl (L:=[(67,z2d),(102,z3m)]) ⟨z5 rfl zes,z5 rfl zfq,trivial⟩)
 ·rintro ds rs - h
  obtain ⟨m,hm,rfl,rfl⟩:=z9 h;clear h;refine ⟨⟨1,?_⟩,z10 ⟨rfl,rfl,rfl,rfl,rfl,rfl,rfl,rfl,rfl,trivial⟩⟩
  show den _ _ zit [I m.kind,I m.src,I m.to,I m.name,I m.b.parent,I m.b.height,I m.b.work,I m.b.nonce,.l 3 (m.b.txs.map eTx),I m.t.height,.l 3 (m.t.ins.map eIn),.l 2 (m.t.outs.map z0z)] []=ret m
  have a1:=zh3 m.b hm.1;have a2:=zcz m.t hm.2;unfold zit
  repeat' (first|refine dqK rfl (a1) ?_|refine dqK rfl (a2) ?_|exact z4 rfl rfl|fail)
noncomputable def z70:z7:=spD WldFit fun w=>w
theorem zl0 (w:Wld) (h:WldFit w):z70 [.l 1 (w.book.texts.map z05),.l 4 (w.nodes.map z17),.l 12 (w.net.map z1p)]=some [.l 1 (w.book.texts.map z05),.l 4 (w.nodes.map z17),.l 12 (w.net.map z1p)]:=za (p:=WldFit) (f:=fun w:Wld=>w) w h
def z0do:T :=
 .lets [.call 86 [8,9,10,11] 0,.call 86 [8,9,10,11] 1,.call 86 [8,9,10,11] 2,.call 86 [8,9,10,11] 3] [] (.lets [.mk 4
 [[12,13,14,15]]] [] (.lets [.app 4 5 16] [] (.lets [.bin .add 6 (zI 1)] [] (.again 0 [17,18]))))
def z0dp:T :=
 .lets [.mk 12 [[24,25,26,27,28,29,30,31,32,33,34,35]]] [] (.lets [.app 12 9 36] [] (.lets [.bin .add 10 (.c (.i .i64
 1))] [] (.again 1 [37,38])))
def z0dq:T :=
 .lets [.call 106 [12,13,14,15,16,17,18,19,20,21,22,23] 0,.call 106 [12,13,14,15,16,17,18,19,20,.v
 21,22,23] 1,.call 106 [12,13,14,15,16,17,18,19,20,21,22,23] 2,.call 106 [12,13,14,15,16,17,18,.v
 19,20,21,22,23] 3,.call 106 [12,13,14,15,16,17,18,19,20,21,22,23] 4,.call 106 [12,13,14,15,16,.v
 17,18,19,20,21,22,23] 5,.call 106 [12,13,14,15,16,17,18,19,20,21,22,23] 6,.call 106 [12,13,14,.v
 15,16,17,18,19,20,21,22,23] 7,.call 106 [12,13,14,15,16,17,18,19,20,21,22,23] 8,.call 106 [12,.v
 13,14,15,16,17,18,19,20,21,22,23] 9,.call 106 [12,13,14,15,16,17,18,19,20,21,22,23] 10,.call
 106 [12,13,14,15,16,17,18,19,20,21,22,23] 11] [] z0dp
def z0dr:T :=
 .lets [.idx 2 10 0,.idx 2 10 1,.idx 2 10 2,.idx 2 10 3,.idx 2 10 4,.idx 2 10 5,.idx 2 10 6,.idx 2
 10 7,.idx 2 10 8,.idx 2 10 9,.idx 2 10 10,.idx 2 10 11] [] z0dq
def z0ds:T :=
 .loop [.c (.nil 12),zI 0] (.lets [.bin .lss 10 8] [] (.ite 11 (.lets [] [.inr 12 2 10] z0dr) (.ret [3,5,9])))
def z0dt:T :=
 .ite 7 (.lets [] [.inr 4 1 6] (.lets [.idx 1 6 0,.idx 1 6 1,.idx 1 6 2,.idx 1 6 3] [] z0do)) (.lets [.len 2] []
 z0ds)
def znz:T :=
 .lets [.call 59 [0] 0] [] (.lets [.len 1] [] (.loop [.c (.nil 4),zI 0] (.lets [.bin .lss 6 4] [] z0dt)))
attribute [local irreducible] z8h z5j
theorem z059:Meets Tryz.prog z70 33 ⟨[.agg 3],[(true,[.pure,.fresh 48 4,.fresh 53 12])],false⟩:=by
 refine z4q (sp:=(zr [(59,z8h),(86,z5j),(106,z42)])) (sigs:=zy) (cut:=[]) (hints:=[⟨3,[.n 3 1 360 48 4,.c 3 1 360,.t 17]⟩,⟨8,[.n 3 2 361 53 12,.c 3 2 361,.t 32]⟩]) (fns:=[z2k 76 Tryz.f76 [] []]) (dep:=1) (pool:=300) (fn:=Tryz.f33) (t:=znz) (by kernel_rfl) (by kernel_rfl) (by kernel_rfl) ?_ ?_ ?_
 ·exact (z07 (fn:=Tryz.f76) (by kernel_rfl) (by kernel_rfl) (by kernel_rfl) (by kernel_rfl) (by kernel_rfl) z5o)
 ·exact (zl (L:=[(59,z8h),(86,z5j),(106,z42)]) ⟨z5 rfl z0aj,z5 rfl znp,z5 rfl ziu,trivial⟩)
 ·rintro ds rs - h
  obtain ⟨w,hw,rfl,rfl⟩:=z9 h;clear h;obtain ⟨h1,h2,h3,h4,h5⟩:=hw;refine ⟨⟨w.nodes.length+w.net.length+1,?_⟩,z10 trivial⟩
  show den _ _ znz [.l 1 (w.book.texts.map z05),.l 4 (w.nodes.map z17),.l 12 (w.net.map z1p)] []=ret w
  have a1:=zmh w.book.texts h1;have fin:∀ {α:Type} (l:List α) (k:Nat) (x:α) (r:List α),l.drop k=x::r→l.take (k+1)=l.take k++[x]:=by
   intro α l k x r h;have hx:l[k]? = some x:=by
    have:(l.drop k)[0]? = some x:=by rw [h];rfl
    rwa [zY1e,zY21] at this
   rw [zY3h,hx];rfl
  unfold znz
  repeat' (first|refine dq1 ?_|refine dqk rfl (a1) ?_|fail)
  (refine zm (fun (s:List Node) k=>[.l 4 (s.map z17),I k]) (fun _ _ _=>w) (fun s k=>s=w.nodes.take k) [] w.nodes ?_ ?_ ?_ ?_ ?_;rfl;rfl;omega)
  ·rintro _ k n r hx hd hkl rfl again hag
   have a2:=zez n (h4 n (zY07 hx));have hl:(w.nodes.take k).length≤1000:=by rw [zY0d];omega
   have hag:=hag (w.nodes.take k++[n]) (fin _ _ _ _ hd).symm;generalize w.nodes.take k=acc at *
   repeat' (first|refine dq1 ?_|refine dqc ?_|refine dqN ?_|refine dqK rfl (a2) ?_|refine z6 (z1y (r:=[z17 n]) rfl rfl (by simp)) ?_|exact zb rfl rfl hag|refine dqT ?_|fail)
  ·rintro _ rfl again
   rw [zY2n]
   repeat' (first|refine dq1 ?_|refine dqF ?_|fail)
   (refine zm (fun (s:List Message) k=>[.l 12 (s.map z1p),I k]) (fun _ _ _=>w) (fun s k=>s=w.net.take k) [] w.net ?_ ?_ ?_ ?_ ?_;rfl;rfl;omega)
   ·rintro _ k m r hx hd hkl rfl again hag
    have a2:=z2o m (h5 m (zY07 hx));have hl:(w.net.take k).length≤1000:=by rw [zY0d];omega
    have hag:=hag (w.net.take k++[m]) (fin _ _ _ _ hd).symm;generalize w.net.take k=acc at *
    repeat' (first|refine dq1 ?_|refine dqc ?_|refine dqN ?_|refine dqK rfl (a2) ?_|refine z6 (z1y (r:=[z1p m]) rfl rfl (by simp)) ?_|exact zb rfl rfl hag|refine dqT ?_|fail)
   ·rintro _ rfl again
    rw [zY2n]
    repeat' (first|refine dq1 ?_|exact z4 rfl rfl|refine dqF ?_|fail)
end
section
open Go.RowKit
set_option maxRecDepth 100000
theorem zo0 {k:Book} {n m:Node} {t:Tx} {x:List z1l} (h:z13 k n t=(x,m,0)):t ∈ m.pool∧m.t=n.t∧m.tip=n.tip:=by
 unfold z13 at h
 by_cases h1:z0p k n=0
 rotate_left
 ·rw [if_pos h1] at h;exact absurd (congrArg (fun x=>x.2.2) h) h1
 rw [if_neg (fun k=>k h1)] at h;generalize hc:ze k n.t n.tip=c at *;obtain ⟨l,e⟩:=c;simp only at h
 by_cases he:e=0
 rotate_left
 ·rw [if_pos he] at h;exact absurd (congrArg (fun x=>x.2.2) h) he
 rw [if_neg (fun k=>k he)] at h;generalize ha:z21 k l n.pool t (zk n.t n.tip+1)=a at *;obtain ⟨x',more,e⟩:=a;simp only at h
 by_cases he:e=0
 rotate_left
 ·rw [if_pos he] at h;exact absurd (congrArg (fun x=>x.2.2) h) he
 subst he;rw [if_neg (fun k=>k rfl)] at h;simp only [zY0r,and_true] at h;obtain ⟨rfl,rfl⟩:=h;obtain ⟨x0,stay,m0,m1,f,f1,b1,b2,-⟩:=zqd ha;exact ⟨by rw [b2];simp,rfl,rfl⟩
theorem zms {k:Book} {n m:Node} {t:Tx} {x:List z1l} (h:z13 k n t=(x,m,0)):zj t=0 :=
 (zhc (z6j (znu h).2.1)).2.2 t (zo0 h).1
theorem zqk {k:Book} {n m:Node} {w nonce:Int} {o:List Op} {x:List z1l} {b:Block} (h:z1k k n w nonce o=(x,m,b,0)):zd b=0:=by
 obtain ⟨nm,h1,-⟩:=z051 h;exact (zdz h1).2.2.2.1.ok
theorem zta {b:Block} (h:zd b=0):z6r b:=by
 have bk:=z3z h;exact BlockSmall.fit ⟨by have:=bk.len;omega,fun x hx=>z52 (bk.each x hx)⟩
theorem zdr:z6r z24:=⟨by show (0:Nat)≤_;decide,fun x hx=>by cases hx⟩
theorem za9:z6m zTx:=⟨⟨by show (0:Nat)≤_;decide,fun x hx=>by cases hx⟩,by show (0:Nat)≤_;decide,fun x hx=>by cases hx⟩
theorem z0du {t:Tree} {m:Int} (h:z0o t m=0):TreeOK t.names t.blocks∧0≤idx t.names m∧z0a t m ∈ t.blocks:=by
 have hc:zx t=0:=by
  apply Classical.byContradiction;intro hc;have:z0o t m=zx t:=if_pos hc;exact hc (this ▸ h)
 have ok:=(z03 _ _).1 hc;have hi:0≤idx t.names m:=by
  apply Classical.byContradiction;intro hi;have:z0o t m=5:=by
   unfold z0o;rw [if_neg (fun k=>k hc),if_pos (by omega)]
  rw [this] at h;exact absurd h (by decide)
 refine ⟨ok,hi,?_⟩;rw [z8m ok hi];exact zY07 (zbn ok hi).1
theorem zo1 {t:Tree} {m:Int} (h:z0o t m=0):zd (z0a t m)=0:=by
 obtain ⟨ok,hi,hm⟩:=z0du h;exact z5y (t:=t) ((z03 _ _).2 ok) _ hm
theorem z05a {t:Tree} {m:Int} (h:z0o t m=0):z6r (z0a t m):=zta (zo1 h)
theorem z4g {l:List Node} {i:Int} (h0:0≤i) (h1:i<l.length):l[i.toNat]? = some (z0c l i):=by
 unfold z0c;rw [zY03 (by omega),zY1h]
theorem z9x {l:List Message} {i:Int} (h0:0≤i) (h1:i<l.length):l[i.toNat]? = some (z2n l i):=by
 unfold z2n;rw [zY03 (by omega),zY1h]
theorem z9k {m:Message} {n:Int} (h:z1i m n=0):(1≤m.kind∧m.kind≤3)∧(0≤m.src∧m.src<n)∧(0≤m.to∧m.to<n)∧m.src≠m.to∧(m.kind=1→zd m.b=0)∧(m.kind=3→zj m.t=0)∧(m.kind=2→1≤m.name∧m.name≤120):=by
 unfold z1i at h
 by_cases h1:m.kind<1
 ·rw [if_pos h1] at h;exact absurd h (by decide)
 rw [if_neg h1] at h
 by_cases h2:m.kind > 3
 ·rw [if_pos h2] at h;exact absurd h (by decide)
 rw [if_neg h2] at h
 by_cases h3:m.src<0
 ·rw [if_pos h3] at h;exact absurd h (by decide)
 rw [if_neg h3] at h
 by_cases h4:m.src ≥ n
 ·rw [if_pos h4] at h;exact absurd h (by decide)
 rw [if_neg h4] at h
 by_cases h5:m.to<0
 ·rw [if_pos h5] at h;exact absurd h (by decide)
 rw [if_neg h5] at h
 by_cases h6:m.to ≥ n
 ·rw [if_pos h6] at h;exact absurd h (by decide)
 rw [if_neg h6] at h
 by_cases h7:m.src=m.to
 ·rw [if_pos h7] at h;exact absurd h (by decide)
 rw [if_neg h7] at h;refine ⟨by omega,by omega,by omega,h7,?_⟩
 by_cases h8:m.kind=1
 ·rw [if_pos h8] at h
  exact ⟨fun _=>h,fun h=>by omega,fun h=>by omega⟩
 rw [if_neg h8] at h
 by_cases h9:m.kind=3
 ·rw [if_pos h9] at h
  exact ⟨fun h=>by omega,fun _=>h,fun h=>by omega⟩
 rw [if_neg h9] at h
 by_cases h10:m.name<1
 ·rw [if_pos h10] at h;exact absurd h (by decide)
 rw [if_neg h10] at h
 by_cases h11:m.name > 120
 ·rw [if_pos h11] at h;exact absurd h (by decide)
 exact ⟨fun h=>by omega,fun h=>by omega,fun _=>by omega⟩
theorem z6s {m:Message} {n:Int} (h1:1≤m.kind∧m.kind≤3) (h2:0≤m.src∧m.src<n) (h3:0≤m.to∧m.to<n) (h4:m.src≠m.to) (h5:m.kind=1→zd m.b=0) (h6:m.kind=3→zj m.t=0) (h7:m.kind=2→1≤m.name∧m.name≤120):z1i m n=0:=by
 unfold z1i;rw [if_neg (by omega),if_neg (by omega),if_neg (by omega),if_neg (by omega),if_neg (by omega),if_neg (by omega),if_neg h4]
 by_cases h8:m.kind=1
 ·rw [if_pos h8];exact h5 h8
 rw [if_neg h8]
 by_cases h9:m.kind=3
 ·rw [if_pos h9];exact h6 h9
 rw [if_neg h9,if_neg (by have:=h7 (by omega);omega),if_neg (by have:=h7 (by omega);omega)]
end
section
open Go.RowKit
open Go.Lib (itoa)
set_option maxRecDepth 100000
set_option maxHeartbeats 4000000
attribute [local irreducible] z0i spD ze zk z0p z0k z21 z1k z0a z0o
attribute [local irreducible] den denX z0x z1c
noncomputable def z6a:z7:=spD (fun _:Book × Node × Tx=>True) fun x=>z13 x.1 x.2.1 x.2.2
theorem zj8 (k:Book) (n:Node) (t:Tx):z6a [.l 1 (k.texts.map z05),.l 1 (n.t.names.map zf),.l 5 (n.t.blocks.map zi),.l 3 (n.pool.map eTx),I n.tip,I t.height,.l 3 (t.ins.map eIn),.l 2 (t.outs.map z0z)]=some [.l 1 ((z13 k n t).1.map z05),.l 1 ((z13 k n t).2.1.t.names.map zf),.l 5 ((z13 k n t).2.1.t.blocks.map zi),.l 3 ((z13 k n t).2.1.pool.map eTx),I (z13 k n t).2.1.tip,I (z13 k n t).2.2]:=za (f:=fun x:Book × Node × Tx=>z13 x.1 x.2.1 x.2.2) (k,n,t) trivial
def z092:T :=
 .lets [.call 86 [1,2,3,4] 0,.call 86 [1,2,3,4] 1,.call 86 [1,2,3,4] 2,.call 86 [1,2,3,4] 3] [] (.ret [15,19,.v
 20,16,22,zI 0])
def z093:T :=
 .lets [.call 73 [0,10,3,5,6,7,14] 0,.call 73 [0,10,3,5,6,7,14] 1,.call 73 [0,10,3,5,6,7,14] 2] []
 (.lets [.bin .neq 17 (zI 0)] [] (.ite 18 (.ret [.c (.nil 1),.c (.nil 1),.c (.nil 5),.c (.nil 3),zI 0,17]) z092))
def z094:T :=
 .ite 12 (.ret [.c (.nil 1),.c (.nil 1),.c (.nil 5),.c (.nil 3),zI 0,11]) (.lets [.call 83 [1,2,4] 0] [] (.lets [.bin .add 13 (zI 1)]
 [] z093))
def z095:T :=
 .ite 9 (.ret [.c (.nil 1),.c (.nil 1),.c (.nil 5),.c (.nil 3),zI 0,8]) (.lets [.call 70 [0,1,2,4] 0,.call 70 [0,1,2,4] 1] []
 (.lets [.bin .neq 11 (zI 0)] [] z094))
def zl1:T :=
 .lets [.call 85 [0,1,2,3,4] 0] [] (.lets [.bin .neq 8 (zI 0)] [] z095)
attribute [local irreducible] z2t z37 z5j z32 z7k
theorem zvc:Meets Tryz.prog z6a 132 ⟨[.agg 1,.agg 4,.agg 3],[(true,[.pure]),(true,[.pure,.pure,.pure,.scal]),(false,[.scal])],false⟩:=by
 refine z8 (sp:=(zr [(70,z2t),(73,z7k),(83,z32),(85,z37),(86,z5j)])) (sigs:=zy) (cut:=[]) (hints:=[]) (fn:=Tryz.f132) (t:=zl1) (by kernel_rfl) (by kernel_rfl) (by kernel_rfl) ?_ ?_
 ·exact (zl (L:=[(70,z2t),(73,z7k),(83,z32),(85,z37),(86,z5j)]) ⟨z5 rfl zfr,z5 rfl z04l,z5 rfl zdp,z5 rfl zfs,z5 rfl znp,trivial⟩)
 ·rintro ds rs hok h
  obtain ⟨⟨k,n,t⟩,-,rfl,rfl⟩:=z9 h;clear h;refine ⟨⟨1,?_⟩,z10 ⟨rfl,rfl,trivial⟩⟩
  show den _ _ zl1 [.l 1 (k.texts.map z05),.l 1 (n.t.names.map zf),.l 5 (n.t.blocks.map zi),.l 3 (n.pool.map eTx),I n.tip,I t.height,.l 3 (t.ins.map eIn),.l 2 (t.outs.map z0z)] []=ret (z13 k n t)
  have a1:=z9r k n;have a2:=z7j k n.t n.tip;have a3:=z94 n.t n.tip;have hh:=zqf n.t n.tip;have a5:=fun h=>zez n (zhc (k:=k) h)
  unfold zl1 z13;generalize z0p k n=e1 at *;generalize ze k n.t n.tip=c at *;obtain ⟨l,e2⟩:=c;simp only at *;have a4:=znn k.texts l n.pool t (zk n.t n.tip+1);have hkk:(⟨k.texts⟩:Book)=k:=rfl;rw [hkk] at a4;generalize z21 k l n.pool t (zk n.t n.tip+1)=q at *;obtain ⟨x,more,e3⟩:=q;generalize zk n.t n.tip=hgt at *;simp only at *
  by_cases h1:e1=0
  ·have a5:=a5 h1
   repeat' (first|refine dq1 ?_|refine dqk rfl (a1) ?_|refine dqK rfl (a2) ?_|refine dqk rfl (a3) ?_|refine dqK rfl (a4) ?_|refine dqK rfl (a5) ?_|exact z4 rfl rfl|refine tR (fun h=>?_) fun h=>?_|fail)
   all_goals omega
  ·clear a5
   repeat' (first|refine dq1 ?_|refine dqk rfl (a1) ?_|exact z4 rfl rfl|refine tR (fun h=>?_) fun h=>?_|fail)
   all_goals omega
end
section
open Go.RowKit
open Go.Lib (itoa)
set_option maxRecDepth 100000
set_option maxHeartbeats 8000000
attribute [local irreducible] z0i spD z0p zd zj zg z1q z0k z13 z1k z0a z0o
attribute [local irreducible] den denX z0x z1c
theorem zf6 (l:List Message) (i:Int) (h0:0≤i) (h1:i<l.length):z6z [.l 12 (l.map z1p),I i,I (i+1)]=some [.l 12 ((z20 l i).map z1p)]:=za (p:=fun x:List Message × Int × Int=>0≤x.2.1∧x.2.1≤x.2.2∧x.2.2≤x.1.length) (f:=fun x:List Message × Int × Int=>x.1.take x.2.1.toNat++x.1.drop x.2.2.toNat) (l,i,i+1) ⟨h0,by simp only;omega,by simp only;omega⟩
noncomputable def zaa:z7:=spD (fun x:Wld × Happening=>∀ m ∈ x.1.net,MsgFit m) fun x=>z5v x.1 x.2
theorem zb7 (w:Wld) (x:Happening) (h:∀ m ∈ w.net,MsgFit m):zaa [.l 1 (w.book.texts.map z05),.l 4 (w.nodes.map z17),.l 12 (w.net.map z1p),I x.kind,I x.node,I x.to,I x.k,I x.work,I x.n,I x.t.height,.l 3 (x.t.ins.map eIn),.l 2 (x.t.outs.map z0z)]=some [.l 1 ((z5v w x).1.book.texts.map z05),.l 4 ((z5v w x).1.nodes.map z17),.l 12 ((z5v w x).1.net.map z1p),I (z5v w x).2]:=za (p:=fun x:Wld × Happening=>∀ m ∈ x.1.net,MsgFit m) (f:=fun x:Wld × Happening=>z5v x.1 x.2) (w,x) h
theorem zo2 {net:List Message} {m:Message} (h:net.length≤20):(z38 net m).length≤20:=by
 unfold z38
 split
 ·rw [zY04,zY19];omega
 ·exact h
theorem zbs {sp:Nat→z7} {E:Env} {a b:Atom} {vs:List Atom} {l:List Node} {m:Int} {n:Node} (y:Node) (hx:l[m.toNat]? = some n) (h0:0≤m) (ha:a.val E=some (.l 4 (l.map z17))) (hb:b.val E=some (I m)) (hv:vals E vs=some (z17 y)):denX sp E (.set a b 0 vs)=some (.l 4 ((l.set m.toNat y).map z17)) :=
 zpf ha hb hv h0 (by show 0+4≤4;decide) hx rfl
theorem z0p6 {sp:Nat→z7} {E:Env} {a b:Atom} {l:List Node} {m:Int} {n:Node} (hx:l[m.toNat]? = some n) (h0:0≤m) (ha:a.val E=some (.l 4 (l.map z17))) (hb:b.val E=some (I m)):denX sp E (.set a b 2 [.c (.nil 3)])=some (.l 4 ((l.set m.toNat ⟨n.t,[],n.tip⟩).map z17)) :=
 zpf ha hb (ds:=[.l 3 []]) rfl h0 (by show 2+1≤4;decide) hx rfl
def z0p7:T :=
 .lets [.app 12 40 70] [] (.lets [.bin .add 41 (zI 1)] [] (.again 0 [71,72,42,43,41,45,46,47,48,49,50,51,.v
 52,53]))
def z0p8:T :=
 .lets [.call 106 [42,43,41,45,46,47,48,49,50,51,52,53] 0,.call 106 [42,43,41,45,46,47,48,49,50,.v
 51,52,53] 1,.call 106 [42,43,41,45,46,47,48,49,50,51,52,53] 2,.call 106 [42,43,41,45,46,47,48,.v
 49,50,51,52,53] 3,.call 106 [42,43,41,45,46,47,48,49,50,51,52,53] 4,.call 106 [42,43,41,45,46,.v
 47,48,49,50,51,52,53] 5,.call 106 [42,43,41,45,46,47,48,49,50,51,52,53] 6,.call 106 [42,43,41,.v
 45,46,47,48,49,50,51,52,53] 7,.call 106 [42,43,41,45,46,47,48,49,50,51,52,53] 8,.call 106 [42,.v
 43,41,45,46,47,48,49,50,51,52,53] 9,.call 106 [42,43,41,45,46,47,48,49,50,51,52,53] 10,.call
 106 [42,43,41,45,46,47,48,49,50,51,52,53] 11] [] (.lets [.mk 12 [[58,59,60,61,62,63,64,65,66,.v
 67,68,69]]] [] z0p7)
def z0p9:T :=
 .ite 57 z0p8 (.lets [.bin .add 41 (zI 1)] [] (.again 0 [40,58,42,43,41,45,46,47,48,49,50,51,52,53]))
def z0pa:T :=
 .ite 55 (.lets [.len 40] [] (.lets [.bin .lss 56 (zI 20)] [] z0p9)) (.lets [.bin .add 41 (zI 1)] [] (.again 0 [40,56,42,.v
 43,44,45,46,47,48,49,50,51,52,53]))
def z0pb:T :=
 .loop [16,zI 0,zI 1,4,zI 0,zI 0,31,32,33,34,35,zI 0,.c (.nil 3),.c (.nil 2)] (.lets [.bin .lss
 41 39] [] (.ite 54 (.lets [.bin .neq 41 43] [] z0pa) (.ret [26,38,40,zI 0])))
def z0pc:T :=
 .ite 37 (.lets [.bin .neq 36 (zI 0)] [] (.ite 38 (.ret [.c (.nil 1),.c (.nil 4),.c (.nil 12),36]) (.ret [14,15,16,zI 0])))
 (.lets [] [.inr 4 15 4] (.lets [.set 15 4 0 [27,28,29,30]] [] (.lets [.len 38] [] z0pb)))
def z0pd:T :=
 .lets [.call 89 [14,21,22,23,24,7,6,25] 0,.call 89 [14,21,22,23,24,7,6,25] 1,.call 89 [14,21,22,23,.v
 24,7,6,25] 2,.call 89 [14,21,22,23,24,7,6,25] 3,.call 89 [14,21,22,23,24,7,6,25] 4,.call 89 [14,.v
 21,22,23,24,7,6,25] 5,.call 89 [14,21,22,23,24,7,6,25] 6,.call 89 [14,21,22,23,24,7,6,25] 7,
 .call 89 [14,21,22,23,24,7,6,25] 8,.call 89 [14,21,22,23,24,7,6,25] 9,.call 89 [14,21,22,23,24,.v
 7,6,25] 10] [] (.lets [.bin .neq 36 (zI 0)] [] z0pc)
def z0pe:T :=
 .lets [.idx 15 4 0,.idx 15 4 1,.idx 15 4 2,.idx 15 4 3] [] (.lets [.mk 2 [[zI 1,8],[zI 7,zI 0]]] []
 z0pd)
def z0pf:T :=
 .lets [.len 15] [] (.lets [.bin .geq 4 19] [] (.ite 20 (.ret [.c (.nil 1),.c (.nil 4),.c (.nil 12),zI 5]) (.lets [] [.inr 4 15 4]
 z0pe)))
def z0pg:T :=
 .lets [.app 12 35 65] [] (.lets [.bin .add 36 (zI 1)] [] (.again 0 [66,67,37,38,36,40,41,42,43,44,45,46,.v
 47,48]))
def z0k5:T :=
 .lets [.call 106 [37,38,36,40,41,42,43,44,45,46,47,48] 0,.call 106 [37,38,36,40,41,42,43,44,45,.v
 46,47,48] 1,.call 106 [37,38,36,40,41,42,43,44,45,46,47,48] 2,.call 106 [37,38,36,40,41,42,43,.v
 44,45,46,47,48] 3,.call 106 [37,38,36,40,41,42,43,44,45,46,47,48] 4,.call 106 [37,38,36,40,41,.v
 42,43,44,45,46,47,48] 5,.call 106 [37,38,36,40,41,42,43,44,45,46,47,48] 6,.call 106 [37,38,36,.v
 40,41,42,43,44,45,46,47,48] 7,.call 106 [37,38,36,40,41,42,43,44,45,46,47,48] 8,.call 106 [37,.v
 38,36,40,41,42,43,44,45,46,47,48] 9,.call 106 [37,38,36,40,41,42,43,44,45,46,47,48] 10,.call
 106 [37,38,36,40,41,42,43,44,45,46,47,48] 11] [] (.lets [.mk 12 [[53,54,55,56,57,58,59,60,61,.v
 62,63,64]]] [] z0pg)
def z0k6:T :=
 .ite 52 z0k5 (.lets [.bin .add 36 (zI 1)] [] (.again 0 [35,53,37,38,36,40,41,42,43,44,45,46,47,48]))
def z0k7:T :=
 .ite 50 (.lets [.len 35] [] (.lets [.bin .lss 51 (zI 20)] [] z0k6)) (.lets [.bin .add 36 (zI 1)] [] (.again 0 [35,51,37,.v
 38,39,40,41,42,43,44,45,46,47,48]))
def z0k8:T :=
 .loop [16,zI 0,zI 3,4,zI 0,zI 0,zI 0,zI 0,zI 0,zI 0,.c (.nil 3),9,10,11]
 (.lets [.bin .lss 36 34] [] (.ite 49 (.lets [.bin .neq 36 38] [] z0k7) (.ret [26,33,35,zI 0])))
def z0k9:T :=
 .ite 32 (.lets [.bin .neq 31 (zI 0)] [] (.ite 33 (.ret [.c (.nil 1),.c (.nil 4),.c (.nil 12),31]) (.ret [14,15,16,zI 0])))
 (.lets [] [.inr 4 15 4] (.lets [.set 15 4 0 [27,28,29,30]] [] (.lets [.len 33] [] z0k8)))
def z0ka:T :=
 .lets [.call 88 [14,22,23,24,25,9,10,11] 0,.call 88 [14,22,23,24,25,9,10,11] 1,.call 88 [14,22,23,24,
 .v 25,9,10,11] 2,.call 88 [14,22,23,24,25,9,10,11] 3,.call 88 [14,22,23,24,25,9,10,11] 4,.call 88 [.v
 14,22,23,24,25,9,10,11] 5] [] (.lets [.bin .neq 31 (zI 0)] [] z0k9)
def z0kb:T :=
 .ite 21 (.ret [.c (.nil 1),.c (.nil 4),.c (.nil 12),zI 5]) (.lets [] [.inr 4 15 4] (.lets [.idx 15 4 0,.idx 15 4 1,.idx 15 (.v
 4) 2,.idx 15 4 3] [] z0ka))
def z0kc:T :=
 .lets [.bin .lss 4 (zI 0)] [] (.ite 19 (.ret [.c (.nil 1),.c (.nil 4),.c (.nil 12),zI 5]) (.lets [.len 15] [] (.lets [.bin .geq 4 20]
 [] z0kb)))
def z0kd:T :=
 .lets [.idx 15 4 0,.idx 15 4 1,.idx 15 4 2,.idx 15 4 3] [] (.lets [] [.inr 4 15 4] (.lets [.set 15 4 2 [.c (.nil 3)]]
 [] (.ret [14,27,16,zI 0])))
def z0ke:T :=
 .lets [.len 15] [] (.lets [.bin .geq 4 21] [] (.ite 22 (.ret [.c (.nil 1),.c (.nil 4),.c (.nil 12),zI 5]) (.lets [] [.inr 4 15 4]
 z0kd)))
def z0kf:T :=
 .lets [.mk 12 [[42,43,44,45,46,47,48,49,50,51,52,53]]] [] (.lets [.app 12 16 54] [] (.ret [14,15,55,.c (.i .i64
 0)]))
def z0kg:T :=
 .lets [.call 106 [zI 1,4,5,zI 0,33,34,35,36,37,zI 0,.c (.nil 3),.c (.nil 2)] 0,.call 106 [zI 1,4,5,
 .c (.i .i64 0),33,34,35,36,37,zI 0,.c (.nil 3),.c (.nil 2)] 1,.call 106 [zI 1,4,5,zI 0,33,34,35,36,.v
 37,zI 0,.c (.nil 3),.c (.nil 2)] 2,.call 106 [zI 1,4,5,zI 0,33,34,35,36,37,zI 0,.c (.nil 3),.c (.nil 2)]
 3,.call 106 [zI 1,4,5,zI 0,33,34,35,36,37,zI 0,.c (.nil 3),.c (.nil 2)] 4,.call 106 [zI 1,4,5,.c
 (.i .i64 0),33,34,35,36,37,zI 0,.c (.nil 3),.c (.nil 2)] 5,.call 106 [zI 1,4,5,zI 0,33,34,35,36,.v
 37,zI 0,.c (.nil 3),.c (.nil 2)] 6,.call 106 [zI 1,4,5,zI 0,33,34,35,36,37,zI 0,.c (.nil 3),.c (.nil 2)]
 7,.call 106 [zI 1,4,5,zI 0,33,34,35,36,37,zI 0,.c (.nil 3),.c (.nil 2)] 8,.call 106 [zI 1,4,5,.c
 (.i .i64 0),33,34,35,36,37,zI 0,.c (.nil 3),.c (.nil 2)] 9,.call 106 [zI 1,4,5,zI 0,33,34,35,36,.v
 37,zI 0,.c (.nil 3),.c (.nil 2)] 10,.call 106 [zI 1,4,5,zI 0,33,34,35,36,37,zI 0,.c (.nil 3),.c (.nil 2)]
 11] [] z0kf
def z0kh:T :=
 .ite 39 (.lets [.bin .neq 38 (zI 0)] [] (.ite 40 (.ret [.c (.nil 1),.c (.nil 4),.c (.nil 12),38]) (.ret [14,15,16,zI 0])))
 (.lets [.len 16] [] (.lets [.bin .lss 40 (zI 20)] [] (.ite 41 z0kg (.ret [14,15,16,zI 0]))))
def z0ki:T :=
 .lets [.call 65 [30,31,32] 0,.call 65 [30,31,32] 1,.call 65 [30,31,32] 2,.call 65 [30,31,32] 3,.call 65 [30,31,32] 4,
 .call 65 [30,31,32] 5] [] (.lets [.bin .neq 38 (zI 0)] [] z0kh)
def z0kj:T :=
 .lets [] [.inr 4 15 4] (.lets [.idx 15 4 0,.idx 15 4 1] [] (.lets [] [.inr 4 15 4] (.lets [.idx 15 4 3] [] z0ki)))
def z0kk:T :=
 .lets [.len 16] [] (.lets [.bin .eql 28 (zI 20)] [] (.ite 29 (.ret [.c (.nil 1),.c (.nil 4),.c (.nil 12),zI 12]) z0kj))
def z0kl:T :=
 .ite 26 (.ret [.c (.nil 1),.c (.nil 4),.c (.nil 12),zI 5]) (.lets [.bin .eql 5 4] [] (.ite 27 (.ret [.c (.nil 1),.c (.nil 4),.c (.nil 12),.c (.i
 .i64 6)]) z0kk))
def z0km:T :=
 .lets [.bin .lss 5 (zI 0)] [] (.ite 24 (.ret [.c (.nil 1),.c (.nil 4),.c (.nil 12),zI 5]) (.lets [.len 15] [] (.lets [.bin .geq 5 25]
 [] z0kl)))
def z0kn:T :=
 .ite 21 (.ret [.c (.nil 1),.c (.nil 4),.c (.nil 12),zI 5]) (.lets [.len 15] [] (.lets [.bin .geq 4 22] [] (.ite 23 (.ret [.c (.nil 1),.c (.nil
 4),.c (.nil 12),zI 5]) z0km)))
def z0ko:T :=
 .lets [.mk 12 [[35,36,37,38,39,40,41,42,43,44,45,46]]] [] (.lets [.app 12 16 47] [] (.ret [14,15,48,.c (.i .i64
 0)]))
def z0kp:T :=
 .lets [.call 106 [zI 2,4,5,6,zI 0,zI 0,zI 0,zI 0,.c (.nil 3),zI 0,.c (.nil 3),.c (.nil 2)] 0,.call
 106 [zI 2,4,5,6,zI 0,zI 0,zI 0,zI 0,.c (.nil 3),zI 0,.c (.nil 3),.c (.nil 2)] 1,.call 106 [.c (.i
 .i64 2),4,5,6,zI 0,zI 0,zI 0,zI 0,.c (.nil 3),zI 0,.c (.nil 3),.c (.nil 2)] 2,.call 106 [zI 2,4,
 .v 5,6,zI 0,zI 0,zI 0,zI 0,.c (.nil 3),zI 0,.c (.nil 3),.c (.nil 2)] 3,.call 106 [zI 2,4,5,6,.c
 (.i .i64 0),zI 0,zI 0,zI 0,.c (.nil 3),zI 0,.c (.nil 3),.c (.nil 2)] 4,.call 106 [zI 2,4,5,6,zI 0,
 .c (.i .i64 0),zI 0,zI 0,.c (.nil 3),zI 0,.c (.nil 3),.c (.nil 2)] 5,.call 106 [zI 2,4,5,6,zI 0,.c (.i .i64
 0),zI 0,zI 0,.c (.nil 3),zI 0,.c (.nil 3),.c (.nil 2)] 6,.call 106 [zI 2,4,5,6,zI 0,zI 0,.c (.i
 .i64 0),zI 0,.c (.nil 3),zI 0,.c (.nil 3),.c (.nil 2)] 7,.call 106 [zI 2,4,5,6,zI 0,zI 0,zI 0,.c
 (.i .i64 0),.c (.nil 3),zI 0,.c (.nil 3),.c (.nil 2)] 8,.call 106 [zI 2,4,5,6,zI 0,zI 0,zI 0,zI 0,
 .c (.nil 3),zI 0,.c (.nil 3),.c (.nil 2)] 9,.call 106 [zI 2,4,5,6,zI 0,zI 0,zI 0,zI 0,.c (.nil 3),
 .c (.i .i64 0),.c (.nil 3),.c (.nil 2)] 10,.call 106 [zI 2,4,5,6,zI 0,zI 0,zI 0,zI 0,.c (.nil 3),.c (.i .i64
 0),.c (.nil 3),.c (.nil 2)] 11] [] z0ko
def z0kq:T :=
 .ite 32 (.ret [.c (.nil 1),.c (.nil 4),.c (.nil 12),zI 3]) (.lets [.len 16] [] (.lets [.bin .lss 33 (zI 20)] [] (.ite 34 z0kp (.ret
 [14,15,16,zI 0]))))
def z0kr:T :=
 .lets [.bin .lss 6 (zI 1)] [] (.ite 31 (.ret [.c (.nil 1),.c (.nil 4),.c (.nil 12),zI 3]) (.lets [.bin .gtr 6 (zI 120)] []
 z0kq))
def z0ks:T :=
 .lets [.len 16] [] (.lets [.bin .eql 29 (zI 20)] [] (.ite 30 (.ret [.c (.nil 1),.c (.nil 4),.c (.nil 12),zI 12]) z0kr))
def z0kt:T :=
 .ite 27 (.ret [.c (.nil 1),.c (.nil 4),.c (.nil 12),zI 5]) (.lets [.bin .eql 5 4] [] (.ite 28 (.ret [.c (.nil 1),.c (.nil 4),.c (.nil 12),.c (.i
 .i64 6)]) z0ks))
def z0ku:T :=
 .lets [.bin .lss 5 (zI 0)] [] (.ite 25 (.ret [.c (.nil 1),.c (.nil 4),.c (.nil 12),zI 5]) (.lets [.len 15] [] (.lets [.bin .geq 5 26]
 [] z0kt)))
def z0kv:T :=
 .ite 22 (.ret [.c (.nil 1),.c (.nil 4),.c (.nil 12),zI 5]) (.lets [.len 15] [] (.lets [.bin .geq 4 23] [] (.ite 24 (.ret [.c (.nil 1),.c (.nil
 4),.c (.nil 12),zI 5]) z0ku)))
def z0kw:T :=
 .lets [.mk 12 [[56,57,58,59,60,61,62,63,64,65,66,67]]] [] (.lets [.app 12 39 68] [] (.ret [14,15,69,.c (.i .i64
 0)]))
def z0kx:T :=
 .lets [.call 106 [zI 2,28,27,30,zI 0,zI 0,zI 0,zI 0,.c (.nil 3),zI 0,.c (.nil 3),.c (.nil 2)] 0,
 .call 106 [zI 2,28,27,30,zI 0,zI 0,zI 0,zI 0,.c (.nil 3),zI 0,.c (.nil 3),.c (.nil 2)] 1,.call 106
 [zI 2,28,27,30,zI 0,zI 0,zI 0,zI 0,.c (.nil 3),zI 0,.c (.nil 3),.c (.nil 2)] 2,.call 106 [.c (.i
 .i64 2),28,27,30,zI 0,zI 0,zI 0,zI 0,.c (.nil 3),zI 0,.c (.nil 3),.c (.nil 2)] 3,.call 106 [zI 2,.v
 28,27,30,zI 0,zI 0,zI 0,zI 0,.c (.nil 3),zI 0,.c (.nil 3),.c (.nil 2)] 4,.call 106 [zI 2,28,27,
 .v 30,zI 0,zI 0,zI 0,zI 0,.c (.nil 3),zI 0,.c (.nil 3),.c (.nil 2)] 5,.call 106 [zI 2,28,27,30,.c
 (.i .i64 0),zI 0,zI 0,zI 0,.c (.nil 3),zI 0,.c (.nil 3),.c (.nil 2)] 6,.call 106 [zI 2,28,27,30,.c (.i .i64
 0),zI 0,zI 0,zI 0,.c (.nil 3),zI 0,.c (.nil 3),.c (.nil 2)] 7,.call 106 [zI 2,28,27,30,zI 0,.c (.i
 .i64 0),zI 0,zI 0,.c (.nil 3),zI 0,.c (.nil 3),.c (.nil 2)] 8,.call 106 [zI 2,28,27,30,zI 0,zI 0,.c
 (.i .i64 0),zI 0,.c (.nil 3),zI 0,.c (.nil 3),.c (.nil 2)] 9,.call 106 [zI 2,28,27,30,zI 0,zI 0,.c (.i .i64
 0),zI 0,.c (.nil 3),zI 0,.c (.nil 3),.c (.nil 2)] 10,.call 106 [zI 2,28,27,30,zI 0,zI 0,zI 0,.c (.i
 .i64 0),.c (.nil 3),zI 0,.c (.nil 3),.c (.nil 2)] 11] [] z0kw
def z0ky:T :=
 .ite 53 (.lets [.len 39] [] (.lets [.bin .lss 54 (zI 20)] [] (.ite 55 z0kx (.ret [14,15,39,zI 0])))) (.ret [14,15,.v
 39,zI 0])
def z0kz:T :=
 .ite 52 (.lets [] [.inr 4 15 28] (.lets [.set 15 28 0 [46,47,48,49]] [] (.ret [45,53,39,zI 0]))) (.lets [.bin .eql (.v
 51) (zI 5)] [] z0ky)
def z0l0:T :=
 .lets [.call 87 [14,41,42,43,44,30,31,32,33,34] 0,.call 87 [14,41,42,43,44,30,31,32,33,34] 1,.call 87
 [14,41,42,43,44,30,31,32,33,34] 2,.call 87 [14,41,42,43,44,30,31,32,33,34] 3,.call 87 [14,41,
 .v 42,43,44,30,31,32,33,34] 4,.call 87 [14,41,42,43,44,30,31,32,33,34] 5,.call 87 [14,41,42,43,
 .v 44,30,31,32,33,34] 6] [] (.lets [.bin .eql 51 (zI 0)] [] z0kz)
def z0l1:T :=
 .lets [.mk 12 [[53,54,55,56,57,58,59,60,61,62,63,64]]] [] (.lets [.app 12 39 65] [] (.ret [14,15,66,.c (.i .i64
 0)]))
def z0l2:T :=
 .lets [.call 106 [zI 1,28,27,zI 0,44,45,46,47,48,zI 0,.c (.nil 3),.c (.nil 2)] 0,.call 106 [zI 1,28,.v
 27,zI 0,44,45,46,47,48,zI 0,.c (.nil 3),.c (.nil 2)] 1,.call 106 [zI 1,28,27,zI 0,44,45,46,.v
 47,48,zI 0,.c (.nil 3),.c (.nil 2)] 2,.call 106 [zI 1,28,27,zI 0,44,45,46,47,48,zI 0,.c (.nil 3),.c
 (.nil 2)] 3,.call 106 [zI 1,28,27,zI 0,44,45,46,47,48,zI 0,.c (.nil 3),.c (.nil 2)] 4,.call 106 [zI 1,.v
 28,27,zI 0,44,45,46,47,48,zI 0,.c (.nil 3),.c (.nil 2)] 5,.call 106 [zI 1,28,27,zI 0,44,45,.v
 46,47,48,zI 0,.c (.nil 3),.c (.nil 2)] 6,.call 106 [zI 1,28,27,zI 0,44,45,46,47,48,zI 0,.c (.nil
 3),.c (.nil 2)] 7,.call 106 [zI 1,28,27,zI 0,44,45,46,47,48,zI 0,.c (.nil 3),.c (.nil 2)] 8,.call 106 [.c (.i .i64
 1),28,27,zI 0,44,45,46,47,48,zI 0,.c (.nil 3),.c (.nil 2)] 9,.call 106 [zI 1,28,27,zI 0,44,.v
 45,46,47,48,zI 0,.c (.nil 3),.c (.nil 2)] 10,.call 106 [zI 1,28,27,zI 0,44,45,46,47,48,zI 0,.c
 (.nil 3),.c (.nil 2)] 11] [] z0l1
def z0l3:T :=
 .ite 50 (.ret [14,15,39,zI 0]) (.lets [.len 39] [] (.lets [.bin .lss 51 (zI 20)] [] (.ite 52 z0l2 (.ret [14,15,.v
 39,zI 0]))))
def z0l4:T :=
 .lets [.call 65 [42,43,29] 0,.call 65 [42,43,29] 1,.call 65 [42,43,29] 2,.call 65 [42,43,29] 3,.call 65 [42,43,29] 4,
 .call 65 [42,43,29] 5] [] (.lets [.bin .neq 49 (zI 0)] [] z0l3)
def z0l5:T :=
 .ite 53 (.ret [14,15,39,zI 0]) (.lets [] [.inr 4 15 28] (.lets [.set 15 28 0 [48,49,50,51]] [] (.ret [47,54,.v
 39,zI 0])))
def z0l6:T :=
 .lets [.call 88 [14,43,44,45,46,35,36,37] 0,.call 88 [14,43,44,45,46,35,36,37] 1,.call 88 [14,43,44,.v
 45,46,35,36,37] 2,.call 88 [14,43,44,45,46,35,36,37] 3,.call 88 [14,43,44,45,46,35,36,37] 4,.call 88
 [14,43,44,45,46,35,36,37] 5] [] (.lets [.bin .neq 52 (zI 0)] [] z0l5)
def z0l7:T :=
 .ite 42 (.lets [] [.inr 4 15 28] (.lets [.idx 15 28 0,.idx 15 28 1,.idx 15 28 2,.idx 15 28 3] [] z0l6)) (.ret [14,
 .v 15,39,zI 0])
def z0l8:T :=
 .ite 41 (.lets [] [.inr 4 15 28] (.lets [.idx 15 28 0,.idx 15 28 1] [] z0l4)) (.lets [.bin .eql 26 (zI 3)] [] z0l7)
def z0l9:T :=
 .ite 40 (.lets [] [.inr 4 15 28] (.lets [.idx 15 28 0,.idx 15 28 1,.idx 15 28 2,.idx 15 28 3] [] z0l0)) (.lets [.bin
 .eql 26 (zI 2)] [] z0l8)
def z0la:T :=
 .lets [.idx 16 6 0,.idx 16 6 1,.idx 16 6 2,.idx 16 6 3,.idx 16 6 4,.idx 16 6 5,.idx 16 6 6,.idx 16
 6 7,.idx 16 6 8,.idx 16 6 9,.idx 16 6 10,.idx 16 6 11] [] (.lets [.bin .add 6 (zI 1)] [] (.lets [.call 108 [16,.v
 6,38] 0] [] (.lets [.bin .eql 26 (zI 1)] [] z0l9)))
def z0lb:T :=
 .lets [.len 16] [] (.lets [.bin .geq 6 24] [] (.ite 25 (.ret [.c (.nil 1),.c (.nil 4),.c (.nil 12),zI 5]) (.lets [] [.inr 12 16 6]
 z0la)))
def z0lc:T :=
 .ite 26 (.ret [.c (.nil 1),.c (.nil 4),.c (.nil 12),zI 5]) (.lets [.bin .add 6 (zI 1)] [] (.lets [.call 108 [16,6,27] 0] [] (.ret [14,
 .v 15,28,zI 0])))
def z0ld:T :=
 .lets [.bin .lss 6 (zI 0)] [] (.ite 24 (.ret [.c (.nil 1),.c (.nil 4),.c (.nil 12),zI 5]) (.lets [.len 16] [] (.lets [.bin .geq 6 25]
 [] z0lc)))
def z0le:T :=
 .lets [.mk 12 [[44,45,46,47,48,49,50,51,52,53,54,55]]] [] (.lets [.app 12 16 56] [] (.ret [14,15,57,.c (.i .i64
 0)]))
def z0lf:T :=
 .lets [.call 106 [30,31,32,33,34,35,36,37,38,39,40,41] 0,.call 106 [30,31,32,33,34,35,36,37,38,.v
 39,40,41] 1,.call 106 [30,31,32,33,34,35,36,37,38,39,40,41] 2,.call 106 [30,31,32,33,34,35,36,.v
 37,38,39,40,41] 3,.call 106 [30,31,32,33,34,35,36,37,38,39,40,41] 4,.call 106 [30,31,32,33,34,.v
 35,36,37,38,39,40,41] 5,.call 106 [30,31,32,33,34,35,36,37,38,39,40,41] 6,.call 106 [30,31,32,.v
 33,34,35,36,37,38,39,40,41] 7,.call 106 [30,31,32,33,34,35,36,37,38,39,40,41] 8,.call 106 [30,.v
 31,32,33,34,35,36,37,38,39,40,41] 9,.call 106 [30,31,32,33,34,35,36,37,38,39,40,41] 10,.call
 106 [30,31,32,33,34,35,36,37,38,39,40,41] 11] [] z0le
def z0lg:T :=
 .lets [.idx 16 6 0,.idx 16 6 1,.idx 16 6 2,.idx 16 6 3,.idx 16 6 4,.idx 16 6 5,.idx 16 6 6,.idx 16
 6 7,.idx 16 6 8,.idx 16 6 9,.idx 16 6 10,.idx 16 6 11] [] (.lets [.len 16] [] (.lets [.bin .lss 42 (zI 20)] []
 (.ite 43 z0lf (.ret [14,15,16,zI 0]))))
def z0lh:T :=
 .lets [.bin .eql 28 (zI 20)] [] (.ite 29 (.ret [.c (.nil 1),.c (.nil 4),.c (.nil 12),zI 12]) (.lets [] [.inr 12 16 6] z0lg))
def z0li:T :=
 .lets [.len 16] [] (.lets [.bin .geq 6 26] [] (.ite 27 (.ret [.c (.nil 1),.c (.nil 4),.c (.nil 12),zI 5]) (.lets [.len 16] [] z0lh)))
def z0lj:T :=
 .ite 24 (.lets [.bin .lss 6 (zI 0)] [] (.ite 25 (.ret [.c (.nil 1),.c (.nil 4),.c (.nil 12),zI 5]) z0li)) (.ret [.c (.nil 1),.c (.nil 4),
 .c (.nil 12),zI 4])
def z0lk:T :=
 .ite 22 (.lets [.bin .lss 6 (zI 0)] [] (.ite 23 (.ret [.c (.nil 1),.c (.nil 4),.c (.nil 12),zI 5]) z0lb)) (.lets [.bin .eql 3 (.c (.i
 .i64 4))] [] (.ite 23 z0ld (.lets [.bin .eql 3 (zI 5)] [] z0lj)))
def z0ll:T :=
 .lets [.bin .eql 3 (zI 8)] [] (.ite 21 (.lets [.bin .lss 4 (zI 0)] [] z0kv) (.lets [.bin .eql 3 (zI 3)] [] z0lk))
def z0lm:T :=
 .ite 19 (.lets [.bin .lss 4 (zI 0)] [] (.ite 20 (.ret [.c (.nil 1),.c (.nil 4),.c (.nil 12),zI 5]) z0ke)) (.lets [.bin .eql 3 (.c (.i
 .i64 6))] [] (.ite 20 (.lets [.bin .lss 4 (zI 0)] [] z0kn) z0ll))
def z0ln:T :=
 .ite 17 (.lets [.bin .lss 4 (zI 0)] [] (.ite 18 (.ret [.c (.nil 1),.c (.nil 4),.c (.nil 12),zI 5]) z0pf)) (.lets [.bin .eql 3 (.c (.i
 .i64 2))] [] (.ite 18 z0kc (.lets [.bin .eql 3 (zI 7)] [] z0lm)))
def z0lo:T :=
 .lets [.call 107 [0,1,2] 0,.call 107 [0,1,2] 1,.call 107 [0,1,2] 2] [] (.lets [.bin .eql 3 (zI 1)] [] z0ln)
def z05b:T :=
 .lets [.call 105 [0,1,2] 0] [] (.lets [.bin .neq 12 (zI 0)] [] (.ite 13 (.ret [.c (.nil 1),.c (.nil 4),.c (.nil 12),12]) z0lo))
attribute [local irreducible] z6z z6y z6a z4t z1z z48 z42 z70
theorem z0lp:Meets Tryz.prog zaa 10 ⟨[.agg 3,.agg 9],[(true,[.pure,.pure,.pure]),(false,[.scal])],false⟩:=by
 refine z4q (sp:=(zr [(65,z1z),(87,z4t),(88,z6a),(89,z6y),(105,z48),(106,z42),(107,z70),(108,z6z)])) (sigs:=zy) (cut:=[9999,10008,10009,10012,10014,10015,10020,10022]) (hints:=[]) (fns:=[z2k 34 Tryz.f34 [] [9999,10022,10039,10063,10069,10077],z2k 77 Tryz.f77 [] [9999,10016,10028,10055,10060,10064,10070],z2k 80 Tryz.f80 [] [9999,10007,10014,10015,10016,10017,10018],z2k 78 Tryz.f78 [] [9999,10009,10012,10017,10021],z2k 128 Tryz.f128 [] [9999,10013,10017,10021,10023,10024,10036,10039,10040],z2k 129 Tryz.f129 [] [9999,10011,10016,10019],z2k 130 Tryz.f130 [] [9999,10012,10016,10020,10022,10023,10034,10037,10038],z2k 81 Tryz.f81 [] [9999,10016,10020,10029,10030,10037,10038,10039,10040,10052,10055,10056,10072,10073,10075,10076,10087,10090,10091,10107],z2k 131 Tryz.f131 [⟨2,[.c 2 2 365,.t 10,.z 8,.o 231]⟩] [9999,10008]]) (dep:=4) (pool:=300) (fn:=Tryz.f10) (t:=z05b) (by kernel_rfl) (by kernel_rfl) (by kernel_rfl) ?_ ?_ ?_
 ·exact (z07 (fn:=Tryz.f34) (by kernel_rfl) (by kernel_rfl) (by kernel_rfl) (by kernel_rfl) (by kernel_rfl) (z07 (fn:=Tryz.f77) (by kernel_rfl) (by kernel_rfl) (by kernel_rfl) (by kernel_rfl) (by kernel_rfl) (z07 (fn:=Tryz.f80) (by kernel_rfl) (by kernel_rfl) (by kernel_rfl) (by kernel_rfl) (by kernel_rfl) (z07 (fn:=Tryz.f78) (by kernel_rfl) (by kernel_rfl) (by kernel_rfl) (by kernel_rfl) (by kernel_rfl) (z07 (fn:=Tryz.f128) (by kernel_rfl) (by kernel_rfl) (by kernel_rfl) (by kernel_rfl) (by kernel_rfl) (z07 (fn:=Tryz.f129) (by kernel_rfl) (by kernel_rfl) (by kernel_rfl) (by kernel_rfl) (by kernel_rfl) (z07 (fn:=Tryz.f130) (by kernel_rfl) (by kernel_rfl) (by kernel_rfl) (by kernel_rfl) (by kernel_rfl) (z07 (fn:=Tryz.f81) (by kernel_rfl) (by kernel_rfl) (by kernel_rfl) (by kernel_rfl) (by kernel_rfl) (z07 (fn:=Tryz.f131) (by kernel_rfl) (by kernel_rfl) (by kernel_rfl) (by kernel_rfl) (by kernel_rfl) z5o)))))))))
 ·exact (zl (L:=[(65,z1z),(87,z4t),(88,z6a),(89,z6y),(105,z48),(106,z42),(107,z70),(108,z6z)]) ⟨z5 rfl zc5,z5 rfl znr,z5 rfl zvc,z5 rfl z052,z5 rfl zkz,z5 rfl ziu,z5 rfl z059,z5 rfl z055,trivial⟩)
 ·rintro ds rs - h
  obtain ⟨⟨w,x⟩,hm,rfl,rfl⟩:=z9 h;clear h;simp only at hm;refine ⟨⟨w.nodes.length+1,?_⟩,z10 ⟨rfl,trivial⟩⟩
  show den _ _ z05b [.l 1 (w.book.texts.map z05),.l 4 (w.nodes.map z17),.l 12 (w.net.map z1p),I x.kind,I x.node,I x.to,I x.k,I x.work,I x.n,I x.t.height,.l 3 (x.t.ins.map eIn),.l 2 (x.t.outs.map z0z)] []=ret (z5v w x)
  have a1:=zd2 w;unfold z05b z5v
  by_cases hc:z1q w=0
  rotate_left
  ·rw [if_pos hc]
   repeat' (first|refine dq1 ?_|refine dqk rfl (a1) ?_|exact z4 rfl rfl|refine dqT ?_|fail)
   all_goals omega
  rw [if_neg (fun k=>k hc)];have W:=zf5 hc;have a2:=zl0 w (W.fit hm);have hle:=W.le;have hnet:=W.net
  by_cases k1:x.kind=1
  ·rw [show z1t w x=z7b w x (zhe w x) from if_pos k1]
   unfold z7b
   by_cases n1:x.node<0
   ·rw [if_pos n1];repeat' (first|refine dq1 ?_|refine dqk rfl (a1) ?_|refine dqK rfl (a2) ?_|exact z4 rfl rfl|refine dqT ?_|refine dqF ?_|fail)
   by_cases n2:x.node ≥ w.nodes.length
   ·rw [if_neg n1,if_pos n2];repeat' (first|refine dq1 ?_|refine dqk rfl (a1) ?_|refine dqK rfl (a2) ?_|exact z4 rfl rfl|refine dqT ?_|refine dqF ?_|fail)
   rw [if_neg n1,if_neg n2];have hn:=z4g (l:=w.nodes) (i:=x.node) (by omega) (by omega);have a3:=zkw w.book (z0c w.nodes x.node) x.work x.k [⟨1,x.n⟩,⟨7,0⟩] (by simp);have hr:=fun y m b=>@zqk w.book (z0c w.nodes x.node) m x.work x.k [⟨1,x.n⟩,⟨7,0⟩] y b
   unfold zhe;generalize z0c w.nodes x.node=nd at *;generalize z1k w.book nd x.work x.k [⟨1,x.n⟩,⟨7,0⟩]=q at *;obtain ⟨y,m,b,e⟩:=q;simp only at *
   by_cases he:e=0
   ·subst he
    have hb:=zta (hr y m b rfl);clear hr;rw [if_neg (fun k=>k rfl)]
    repeat' (first|refine dq1 ?_|refine dqc ?_|refine dqN ?_|refine dqk rfl (a1) ?_|refine dqK rfl (a2) ?_|refine dqK rfl (a3) ?_|refine z6 (z1y (r:=[eOp ⟨1,x.n⟩,eOp ⟨7,0⟩]) rfl rfl (by simp)) ?_|refine z6 (zbs m hn (by omega) rfl rfl rfl) ?_|refine dqT ?_|refine dqF ?_|fail)
    (refine zm (fun (s:List Message × Int) k=>[.l 12 (s.1.map z1p),I k,I 1,I x.node,I s.2,I 0,I b.parent,I b.height,I b.work,I b.nonce,.l 3 (b.txs.map eTx),I 0,.l 3 [],.l 2 []]) (fun s k (r:List Node)=>((⟨⟨y⟩,w.nodes.set x.node.toNat m,z47 x.node (fun k=>⟨1,x.node,k,0,b,zTx⟩) k r s.1⟩:Wld),(0:Int))) (fun s _=>s.1.length≤20) (w.net,0) (w.nodes.set x.node.toNat m) ?_ ?_ ?_ ?_ ?_;rfl;exact hnet;(rw [zY1d];omega))
    ·rintro ⟨net,to_⟩ k n' r hx hd hkl hI again hag
     simp only at hI hag ⊢;have hkl2:=hkl;rw [zY1d] at hkl;rw [z47];have hag1:=fun net' to' (h:net'.length≤20)=>hag (net',to') h
     clear hag
     by_cases h1:(k:Int)≠x.node
     ·rw [if_pos h1]
      have hs:=hag1 (z38 net ⟨1,x.node,k,0,b,zTx⟩) k (zo2 hI);clear hag1;unfold z38 at hs ⊢;have a4:=z2o ⟨1,x.node,k,0,b,zTx⟩ ⟨hb,za9⟩
      by_cases h2:(net.length:Int)<20
      ·rw [if_pos h2] at hs ⊢
       repeat' (first|refine dq1 ?_|refine dqK rfl (a4) ?_|refine z6 (z1y (r:=[z1p ⟨1,x.node,k,0,b,zTx⟩]) rfl rfl (by simp)) ?_|exact zb rfl rfl hs|refine dqT ?_|fail)
      ·rw [if_neg h2] at hs ⊢
       repeat' (first|refine dq1 ?_|exact zb rfl rfl hs|refine dqT ?_|refine dqF ?_|fail)
     ·rw [if_neg h1]
      have hs:=hag1 net to_ hI;clear hag1;have h1:(k:Int)=x.node:=by omega
      repeat' (first|refine dq1 ?_|exact zb rfl rfl hs|refine dqT ?_|refine dqF ?_|fail)
    ·rintro ⟨net,to_⟩ hI again
     simp only;rw [z47];rw [zY1d]
     repeat' (first|refine dq1 ?_|exact z4 rfl rfl|refine dqF ?_|fail)
   ·clear hr
    rw [if_pos he]
    repeat' (first|refine dq1 ?_|refine dqc ?_|refine dqN ?_|refine dqk rfl (a1) ?_|refine dqK rfl (a2) ?_|refine dqK rfl (a3) ?_|refine z6 (z1y (r:=[eOp ⟨1,x.n⟩,eOp ⟨7,0⟩]) rfl rfl (by simp)) ?_|exact z4 rfl rfl|refine dqT ?_|refine dqF ?_|fail)
    all_goals omega
  by_cases k2:x.kind=2
  ·rw [show z1t w x=z7b w x (zir w x) from (if_neg k1).trans (if_pos k2)]
   unfold z7b
   by_cases n1:x.node<0
   ·rw [if_pos n1];repeat' (first|refine dq1 ?_|refine dqk rfl (a1) ?_|refine dqK rfl (a2) ?_|exact z4 rfl rfl|refine dqT ?_|refine dqF ?_|fail)
   by_cases n2:x.node ≥ w.nodes.length
   ·rw [if_neg n1,if_pos n2];repeat' (first|refine dq1 ?_|refine dqk rfl (a1) ?_|refine dqK rfl (a2) ?_|exact z4 rfl rfl|refine dqT ?_|refine dqF ?_|fail)
   rw [if_neg n1,if_neg n2];have hn:=z4g (l:=w.nodes) (i:=x.node) (by omega) (by omega);have a3:=zj8 w.book (z0c w.nodes x.node) x.t;have hr:=fun y m=>@zms w.book (z0c w.nodes x.node) m x.t y
   unfold zir;generalize z0c w.nodes x.node=nd at *;generalize z13 w.book nd x.t=q at *;obtain ⟨y,m,e⟩:=q;simp only at *
   by_cases he:e=0
   ·subst he
    have hb:=(z52 (hr y m rfl)).fit;clear hr;rw [if_neg (fun k=>k rfl)]
    repeat' (first|refine dq1 ?_|refine dqc ?_|refine dqN ?_|refine dqk rfl (a1) ?_|refine dqK rfl (a2) ?_|refine dqK rfl (a3) ?_|refine z6 (zbs m hn (by omega) rfl rfl rfl) ?_|refine dqT ?_|refine dqF ?_|fail)
    (refine zm (fun (s:List Message × Int) k=>[.l 12 (s.1.map z1p),I k,I 3,I x.node,I s.2,I 0,I 0,I 0,I 0,I 0,.l 3 [],I x.t.height,.l 3 (x.t.ins.map eIn),.l 2 (x.t.outs.map z0z)]) (fun s k (r:List Node)=>((⟨⟨y⟩,w.nodes.set x.node.toNat m,z47 x.node (fun k=>⟨3,x.node,k,0,z24,x.t⟩) k r s.1⟩:Wld),(0:Int))) (fun s _=>s.1.length≤20) (w.net,0) (w.nodes.set x.node.toNat m) ?_ ?_ ?_ ?_ ?_;rfl;exact hnet;(rw [zY1d];omega))
    ·rintro ⟨net,to_⟩ k n' r hx hd hkl hI again hag
     simp only at hI hag ⊢;have hkl2:=hkl;rw [zY1d] at hkl;rw [z47];have hag1:=fun net' to' (h:net'.length≤20)=>hag (net',to') h
     clear hag
     by_cases h1:(k:Int)≠x.node
     ·rw [if_pos h1]
      have hs:=hag1 (z38 net ⟨3,x.node,k,0,z24,x.t⟩) k (zo2 hI);clear hag1;unfold z38 at hs ⊢;have a4:=z2o ⟨3,x.node,k,0,z24,x.t⟩ ⟨zdr,hb⟩
      by_cases h2:(net.length:Int)<20
      ·rw [if_pos h2] at hs ⊢
       repeat' (first|refine dq1 ?_|refine dqK rfl (a4) ?_|refine z6 (z1y (r:=[z1p ⟨3,x.node,k,0,z24,x.t⟩]) rfl rfl (by simp)) ?_|exact zb rfl rfl hs|refine dqT ?_|fail)
      ·rw [if_neg h2] at hs ⊢
       repeat' (first|refine dq1 ?_|exact zb rfl rfl hs|refine dqT ?_|refine dqF ?_|fail)
     ·rw [if_neg h1]
      have hs:=hag1 net to_ hI;clear hag1;have h1:(k:Int)=x.node:=by omega
      repeat' (first|refine dq1 ?_|exact zb rfl rfl hs|refine dqT ?_|refine dqF ?_|fail)
    ·rintro ⟨net,to_⟩ hI again
     simp only;rw [z47];rw [zY1d]
     repeat' (first|refine dq1 ?_|exact z4 rfl rfl|refine dqF ?_|fail)
   ·clear hr
    rw [if_pos he]
    repeat' (first|refine dq1 ?_|refine dqc ?_|refine dqN ?_|refine dqk rfl (a1) ?_|refine dqK rfl (a2) ?_|refine dqK rfl (a3) ?_|exact z4 rfl rfl|refine dqT ?_|refine dqF ?_|fail)
    all_goals omega
  by_cases k7:x.kind=7
  ·rw [show z1t w x=z7b w x (znx w x) from (if_neg k1).trans ((if_neg k2).trans (if_pos k7))]
   unfold z7b
   by_cases n1:x.node<0
   ·rw [if_pos n1];repeat' (first|refine dq1 ?_|refine dqk rfl (a1) ?_|refine dqK rfl (a2) ?_|exact z4 rfl rfl|refine dqT ?_|refine dqF ?_|fail)
   by_cases n2:x.node ≥ w.nodes.length
   ·rw [if_neg n1,if_pos n2];repeat' (first|refine dq1 ?_|refine dqk rfl (a1) ?_|refine dqK rfl (a2) ?_|exact z4 rfl rfl|refine dqT ?_|refine dqF ?_|fail)
   rw [if_neg n1,if_neg n2];have hn:=z4g (l:=w.nodes) (i:=x.node) (by omega) (by omega);unfold znx;generalize z0c w.nodes x.node=nd at *
   repeat' (first|refine dq1 ?_|refine dqc ?_|refine dqN ?_|refine dqk rfl (a1) ?_|refine dqK rfl (a2) ?_|refine z6 (z0p6 hn (by omega) rfl rfl) ?_|exact z4 rfl rfl|refine dqT ?_|refine dqF ?_|fail)
  by_cases k6:x.kind=6
  ·rw [show z1t w x=z7b w x (zfu w x (zlz w x)) from (if_neg k1).trans ((if_neg k2).trans ((if_neg k7).trans (if_pos k6)))]
   unfold z7b
   by_cases n1:x.node<0
   ·rw [if_pos n1];repeat' (first|refine dq1 ?_|refine dqk rfl (a1) ?_|refine dqK rfl (a2) ?_|exact z4 rfl rfl|refine dqT ?_|refine dqF ?_|fail)
   by_cases n2:x.node ≥ w.nodes.length
   ·rw [if_neg n1,if_pos n2];repeat' (first|refine dq1 ?_|refine dqk rfl (a1) ?_|refine dqK rfl (a2) ?_|exact z4 rfl rfl|refine dqT ?_|refine dqF ?_|fail)
   rw [if_neg n1,if_neg n2];have hn:=z4g (l:=w.nodes) (i:=x.node) (by omega) (by omega);unfold zfu
   by_cases m1:x.to<0
   ·rw [if_pos m1];repeat' (first|refine dq1 ?_|refine dqk rfl (a1) ?_|refine dqK rfl (a2) ?_|exact z4 rfl rfl|refine dqT ?_|refine dqF ?_|fail)
   by_cases m2:x.to ≥ w.nodes.length
   ·rw [if_neg m1,if_pos m2];repeat' (first|refine dq1 ?_|refine dqk rfl (a1) ?_|refine dqK rfl (a2) ?_|exact z4 rfl rfl|refine dqT ?_|refine dqF ?_|fail)
   rw [if_neg m1,if_neg m2]
   by_cases m3:x.to=x.node
   ·rw [if_pos m3];repeat' (first|refine dq1 ?_|refine dqk rfl (a1) ?_|refine dqK rfl (a2) ?_|exact z4 rfl rfl|refine dqT ?_|refine dqF ?_|fail)
   rw [if_neg m3]
   by_cases m4:(w.net.length:Int)=20
   ·rw [if_pos m4];repeat' (first|refine dq1 ?_|refine dqk rfl (a1) ?_|refine dqK rfl (a2) ?_|exact z4 rfl rfl|refine dqT ?_|refine dqF ?_|fail)
   rw [if_neg m4];have a3:=z83 (z0c w.nodes x.node).t (z0c w.nodes x.node).tip;have hf:=@z05a (z0c w.nodes x.node).t (z0c w.nodes x.node).tip;unfold zlz;generalize z0c w.nodes x.node=nd at *;generalize z0a nd.t nd.tip=b at *;generalize z0o nd.t nd.tip=e at *
   by_cases he:e=0
   ·subst he
    have a4:=z2o ⟨1,x.node,x.to,0,b,zTx⟩ ⟨hf rfl,za9⟩;clear hf;rw [if_neg (fun k=>k rfl)];unfold z38;have h2:(w.net.length:Int)<20:=by omega
    rw [if_pos h2]
    repeat' (first|refine dq1 ?_|refine dqc ?_|refine dqN ?_|refine dqk rfl (a1) ?_|refine dqK rfl (a2) ?_|refine dqK rfl (a3) ?_|refine dqK rfl (a4) ?_|refine z6 (z1y (r:=[z1p ⟨1,x.node,x.to,0,b,zTx⟩]) rfl rfl (by simp)) ?_|exact z4 rfl rfl|refine dqT ?_|refine dqF ?_|fail)
   ·clear hf
    rw [if_pos he]
    repeat' (first|refine dq1 ?_|refine dqc ?_|refine dqN ?_|refine dqk rfl (a1) ?_|refine dqK rfl (a2) ?_|refine dqK rfl (a3) ?_|exact z4 rfl rfl|refine dqT ?_|refine dqF ?_|fail)
  by_cases k8:x.kind=8
  ·rw [show z1t w x=z7b w x (zfu w x (zm0 w x)) from (if_neg k1).trans ((if_neg k2).trans ((if_neg k7).trans ((if_neg k6).trans (if_pos k8))))]
   unfold z7b
   by_cases n1:x.node<0
   ·rw [if_pos n1];repeat' (first|refine dq1 ?_|refine dqk rfl (a1) ?_|refine dqK rfl (a2) ?_|exact z4 rfl rfl|refine dqT ?_|refine dqF ?_|fail)
   by_cases n2:x.node ≥ w.nodes.length
   ·rw [if_neg n1,if_pos n2];repeat' (first|refine dq1 ?_|refine dqk rfl (a1) ?_|refine dqK rfl (a2) ?_|exact z4 rfl rfl|refine dqT ?_|refine dqF ?_|fail)
   rw [if_neg n1,if_neg n2];have hn:=z4g (l:=w.nodes) (i:=x.node) (by omega) (by omega);unfold zfu
   by_cases m1:x.to<0
   ·rw [if_pos m1];repeat' (first|refine dq1 ?_|refine dqk rfl (a1) ?_|refine dqK rfl (a2) ?_|exact z4 rfl rfl|refine dqT ?_|refine dqF ?_|fail)
   by_cases m2:x.to ≥ w.nodes.length
   ·rw [if_neg m1,if_pos m2];repeat' (first|refine dq1 ?_|refine dqk rfl (a1) ?_|refine dqK rfl (a2) ?_|exact z4 rfl rfl|refine dqT ?_|refine dqF ?_|fail)
   rw [if_neg m1,if_neg m2]
   by_cases m3:x.to=x.node
   ·rw [if_pos m3];repeat' (first|refine dq1 ?_|refine dqk rfl (a1) ?_|refine dqK rfl (a2) ?_|exact z4 rfl rfl|refine dqT ?_|refine dqF ?_|fail)
   rw [if_neg m3]
   by_cases m4:(w.net.length:Int)=20
   ·rw [if_pos m4];repeat' (first|refine dq1 ?_|refine dqk rfl (a1) ?_|refine dqK rfl (a2) ?_|exact z4 rfl rfl|refine dqT ?_|refine dqF ?_|fail)
   rw [if_neg m4];unfold zm0
   by_cases f1:x.k<1
   ·rw [if_pos f1];repeat' (first|refine dq1 ?_|refine dqk rfl (a1) ?_|refine dqK rfl (a2) ?_|exact z4 rfl rfl|refine dqT ?_|refine dqF ?_|fail)
   by_cases f2:x.k > 120
   ·rw [if_neg f1,if_pos f2];repeat' (first|refine dq1 ?_|refine dqk rfl (a1) ?_|refine dqK rfl (a2) ?_|exact z4 rfl rfl|refine dqT ?_|refine dqF ?_|fail)
   rw [if_neg f1,if_neg f2];have a4:=z2o ⟨2,x.node,x.to,x.k,z24,zTx⟩ ⟨zdr,za9⟩;unfold z38;have h2:(w.net.length:Int)<20:=by omega
   rw [if_pos h2]
   repeat' (first|refine dq1 ?_|refine dqk rfl (a1) ?_|refine dqK rfl (a2) ?_|refine dqK rfl (a4) ?_|refine z6 (z1y (r:=[z1p ⟨2,x.node,x.to,x.k,z24,zTx⟩]) rfl rfl (by simp)) ?_|exact z4 rfl rfl|refine dqT ?_|refine dqF ?_|fail)
  by_cases k3:x.kind=3
  ·rw [show z1t w x=z5u w x (z7t w (z2n w.net x.k) (z20 w.net x.k),0) from (if_neg k1).trans ((if_neg k2).trans ((if_neg k7).trans ((if_neg k6).trans ((if_neg k8).trans (if_pos k3)))))]
   unfold z5u
   by_cases n1:x.k<0
   ·rw [if_pos n1];repeat' (first|refine dq1 ?_|refine dqk rfl (a1) ?_|refine dqK rfl (a2) ?_|exact z4 rfl rfl|refine dqT ?_|refine dqF ?_|fail)
   by_cases n2:x.k ≥ w.net.length
   ·rw [if_neg n1,if_pos n2];repeat' (first|refine dq1 ?_|refine dqk rfl (a1) ?_|refine dqK rfl (a2) ?_|exact z4 rfl rfl|refine dqT ?_|refine dqF ?_|fail)
   rw [if_neg n1,if_neg n2];have hm1:=z9x (l:=w.net) (i:=x.k) (by omega) (by omega);have hmc:=z9k (W.msgs _ (zY07 hm1));have hmf:=hm _ (zY07 hm1);have ad:=zf6 w.net x.k (by omega) (by omega);have hdl:(z20 w.net x.k).length≤19:=by unfold z20;rw [zY04,zY0d,zY10];omega
   generalize z2n w.net x.k=m at *;generalize z20 w.net x.k=net at *;obtain ⟨c1,c2,c3,c4,c5,c6,c7⟩:=hmc;have hn:=z4g (l:=w.nodes) (i:=m.to) (by omega) (by omega);unfold z7t
   by_cases j1:m.kind=1
   ·rw [if_pos j1]
    have a3:=zf0 w.book (z0c w.nodes m.to) m.b;have a4:=z2o ⟨2,m.to,m.src,m.b.parent,z24,zTx⟩ ⟨zdr,za9⟩;unfold zcn;generalize z0c w.nodes m.to=nd at *;generalize z0k w.book nd m.b=q at *;obtain ⟨y,n',nm,e⟩:=q;simp only at *
    by_cases he:e=0
    ·rw [if_pos he]
     repeat' (first|refine dq1 ?_|refine dqc ?_|refine dqN ?_|refine dqk rfl (a1) ?_|refine dqK rfl (a2) ?_|refine dqk rfl (ad) ?_|refine dqK rfl (a3) ?_|refine z6 (zbs n' hn (by omega) rfl rfl rfl) ?_|exact z4 rfl rfl|refine dqT ?_|refine dqF ?_|fail)
    ·rw [if_neg he]
     by_cases h5:e=5
     ·rw [if_pos h5]
      unfold z38;have h2:(net.length:Int)<20:=by omega
      rw [if_pos h2]
      repeat' (first|refine dq1 ?_|refine dqc ?_|refine dqN ?_|refine dqk rfl (a1) ?_|refine dqK rfl (a2) ?_|refine dqk rfl (ad) ?_|refine dqK rfl (a3) ?_|refine dqK rfl (a4) ?_|refine z6 (z1y (r:=[z1p ⟨2,m.to,m.src,m.b.parent,z24,zTx⟩]) rfl rfl (by simp)) ?_|exact z4 rfl rfl|refine dqT ?_|refine dqF ?_|fail)
     ·rw [if_neg h5]
      repeat' (first|refine dq1 ?_|refine dqc ?_|refine dqN ?_|refine dqk rfl (a1) ?_|refine dqK rfl (a2) ?_|refine dqk rfl (ad) ?_|refine dqK rfl (a3) ?_|exact z4 rfl rfl|refine dqT ?_|refine dqF ?_|fail)
   rw [if_neg j1]
   by_cases j2:m.kind=2
   ·rw [if_pos j2]
    have a3:=z83 (z0c w.nodes m.to).t m.name;have hf:=@z05a (z0c w.nodes m.to).t m.name;unfold zt7;generalize z0c w.nodes m.to=nd at *;generalize z0a nd.t m.name=b at *;generalize z0o nd.t m.name=e at *
    by_cases he:e=0
    ·subst he
     have a4:=z2o ⟨1,m.to,m.src,0,b,zTx⟩ ⟨hf rfl,za9⟩;clear hf;rw [if_neg (fun k=>k rfl)];unfold z38;have h2:(net.length:Int)<20:=by omega
     rw [if_pos h2]
     repeat' (first|refine dq1 ?_|refine dqc ?_|refine dqN ?_|refine dqk rfl (a1) ?_|refine dqK rfl (a2) ?_|refine dqk rfl (ad) ?_|refine dqK rfl (a3) ?_|refine dqK rfl (a4) ?_|refine z6 (z1y (r:=[z1p ⟨1,m.to,m.src,0,b,zTx⟩]) rfl rfl (by simp)) ?_|exact z4 rfl rfl|refine dqT ?_|refine dqF ?_|fail)
    ·clear hf
     rw [if_pos he]
     repeat' (first|refine dq1 ?_|refine dqc ?_|refine dqN ?_|refine dqk rfl (a1) ?_|refine dqK rfl (a2) ?_|refine dqk rfl (ad) ?_|refine dqK rfl (a3) ?_|exact z4 rfl rfl|refine dqT ?_|refine dqF ?_|fail)
   rw [if_neg j2]
   by_cases j3:m.kind=3
   ·rw [if_pos j3]
    have a3:=zj8 w.book (z0c w.nodes m.to) m.t;unfold z054;generalize z0c w.nodes m.to=nd at *;generalize z13 w.book nd m.t=q at *;obtain ⟨y,n',e⟩:=q;simp only at *
    by_cases he:e=0
    ·subst he
     rw [if_neg (fun k=>k rfl)]
     repeat' (first|refine dq1 ?_|refine dqc ?_|refine dqN ?_|refine dqk rfl (a1) ?_|refine dqK rfl (a2) ?_|refine dqk rfl (ad) ?_|refine dqK rfl (a3) ?_|refine z6 (zbs n' hn (by omega) rfl rfl rfl) ?_|exact z4 rfl rfl|refine dqT ?_|refine dqF ?_|fail)
    ·rw [if_pos he]
     repeat' (first|refine dq1 ?_|refine dqc ?_|refine dqN ?_|refine dqk rfl (a1) ?_|refine dqK rfl (a2) ?_|refine dqk rfl (ad) ?_|refine dqK rfl (a3) ?_|exact z4 rfl rfl|refine dqT ?_|refine dqF ?_|fail)
   ·omega
  by_cases k4:x.kind=4
  ·rw [show z1t w x=z5u w x (⟨w.book,w.nodes,z20 w.net x.k⟩,0) from (if_neg k1).trans ((if_neg k2).trans ((if_neg k7).trans ((if_neg k6).trans ((if_neg k8).trans ((if_neg k3).trans (if_pos k4))))))]
   unfold z5u
   by_cases n1:x.k<0
   ·rw [if_pos n1];repeat' (first|refine dq1 ?_|refine dqk rfl (a1) ?_|refine dqK rfl (a2) ?_|exact z4 rfl rfl|refine dqT ?_|refine dqF ?_|fail)
   by_cases n2:x.k ≥ w.net.length
   ·rw [if_neg n1,if_pos n2];repeat' (first|refine dq1 ?_|refine dqk rfl (a1) ?_|refine dqK rfl (a2) ?_|exact z4 rfl rfl|refine dqT ?_|refine dqF ?_|fail)
   rw [if_neg n1,if_neg n2];have ad:=zf6 w.net x.k (by omega) (by omega)
   repeat' (first|refine dq1 ?_|refine dqk rfl (a1) ?_|refine dqK rfl (a2) ?_|refine dqk rfl (ad) ?_|exact z4 rfl rfl|refine dqT ?_|refine dqF ?_|fail)
  by_cases k5:x.kind=5
  ·rw [show z1t w x=z5u w x (if (w.net.length:Int)=20 then (z5a,12) else (⟨w.book,w.nodes,z38 w.net (z2n w.net x.k)⟩,0)) from (if_neg k1).trans ((if_neg k2).trans ((if_neg k7).trans ((if_neg k6).trans ((if_neg k8).trans ((if_neg k3).trans ((if_neg k4).trans (if_pos k5)))))))]
   unfold z5u
   by_cases n1:x.k<0
   ·rw [if_pos n1];repeat' (first|refine dq1 ?_|refine dqk rfl (a1) ?_|refine dqK rfl (a2) ?_|exact z4 rfl rfl|refine dqT ?_|refine dqF ?_|fail)
   by_cases n2:x.k ≥ w.net.length
   ·rw [if_neg n1,if_pos n2];repeat' (first|refine dq1 ?_|refine dqk rfl (a1) ?_|refine dqK rfl (a2) ?_|exact z4 rfl rfl|refine dqT ?_|refine dqF ?_|fail)
   rw [if_neg n1,if_neg n2];have hm1:=z9x (l:=w.net) (i:=x.k) (by omega) (by omega);have hmf:=hm _ (zY07 hm1);have a4:=z2o _ hmf;generalize z2n w.net x.k=m at *
   by_cases h20:(w.net.length:Int)=20
   ·rw [if_pos h20]
    repeat' (first|refine dq1 ?_|refine dqk rfl (a1) ?_|refine dqK rfl (a2) ?_|exact z4 rfl rfl|refine dqT ?_|refine dqF ?_|fail)
   ·rw [if_neg h20]
    unfold z38;have h2:(w.net.length:Int)<20:=by omega
    rw [if_pos h2]
    repeat' (first|refine dq1 ?_|refine dqc ?_|refine dqN ?_|refine dqk rfl (a1) ?_|refine dqK rfl (a2) ?_|refine dqK rfl (a4) ?_|refine z6 (z1y (r:=[z1p m]) rfl rfl (by simp)) ?_|exact z4 rfl rfl|refine dqT ?_|refine dqF ?_|fail)
  ·rw [show z1t w x=(z5a,4) from (if_neg k1).trans ((if_neg k2).trans ((if_neg k7).trans ((if_neg k6).trans ((if_neg k8).trans ((if_neg k3).trans ((if_neg k4).trans (if_neg k5)))))))]
   repeat' (first|refine dq1 ?_|refine dqk rfl (a1) ?_|refine dqK rfl (a2) ?_|exact z4 rfl rfl|refine dqF ?_|fail)
end
section
open Go.RowKit
set_option maxRecDepth 100000
set_option maxHeartbeats 4000000
attribute [local irreducible] den denX z0x z1c
noncomputable def z71:z7:=spD (fun _:List (List UInt8) × List (List UInt8)=>True) fun x=>decide (x.1=x.2)
theorem zl2 (l m:List (List UInt8)):z71 [.l 1 (l.map z05),.l 1 (m.map z05)]=some [.b (decide (l=m))]:=za (f:=fun x:List (List UInt8) × List (List UInt8)=>decide (x.1=x.2)) (l,m) trivial
attribute [local irreducible] z0i spD
def z0dv:T :=
 .lets [.idx 1 7 0] [] (.lets [.bin .neq 9 10] [] (.ite 11 (.ret [.c (.b false)]) (.lets [.bin .add 7 (zI 1)] [] (.again 0 [6,12]))))
def z0dw:T :=
 .lets [.bin .lss 7 5] [] (.ite 8 (.lets [] [.inr 1 0 7] (.lets [.idx 0 7 0] [] (.lets [] [.inr 1 1 7] z0dv))) (.ret [.c (.b
 true)]))
def z0dx:T :=
 .lets [.len 1] [] (.lets [.bin .neq 2 3] [] (.ite 4 (.ret [.c (.b false)]) (.lets [.len 0] [] (.loop [.c (.b false),zI 0] z0dw))))
def zo3:T :=
 .lets [.len 0] [] z0dx
theorem z05c:Meets Tryz.prog z71 14 ⟨[.one,.one],[(false,[.scal])],true⟩:=by
 refine z8 (sp:=(zr [])) (sigs:=zy) (cut:=[]) (hints:=[⟨4,[.t 4,.t 13]⟩]) (fn:=Tryz.f14) (t:=zo3) (by kernel_rfl) (by kernel_rfl) (by kernel_rfl) ?_ ?_
 ·exact (zl (L:=[]) trivial)
 ·rintro ds rs hok h
  obtain ⟨⟨l,m⟩,-,rfl,rfl⟩:=z9 h;clear h;have hll:=z98 (hok (.l 1 (l.map z05)) (zY0b ..));refine ⟨⟨l.length+1,?_⟩,zq rfl⟩
  show den _ _ zo3 [.l 1 (l.map z05),.l 1 (m.map z05)] []=ret (decide (l=m))
  rw [z3u];unfold zo3
  repeat' (first|refine dq1 ?_|exact z4 rfl rfl|refine tR (fun h=>?_) fun h=>?_|fail)
  have hlm:l.length=m.length:=by omega
  (refine zm (fun (_:Unit) k=>[.b false,I k]) (fun (_:Unit) k (r:List (List UInt8))=>decide (r=m.drop k)) (fun _ _=>True) () l ?_ ?_ ?_ ?_ ?_;rfl;exact trivial;exact zY1i _)
  ·rintro _ k x r hx hd hk - again hag
   have hy:m[k]? = some (m[k]'(by omega)):=zY03 (by omega);have hdy:m.drop k=m[k]'(by omega)::m.drop (k+1):=zY0x (by omega);rw [hdy];generalize m[k]'(by omega)=y at *;have e:decide (x::r=y::m.drop (k+1))=if decide (x≠y)=true then false else decide (r=m.drop (k+1)):=by
    by_cases h:x=y
    ·simp [h]
    ·simp [h]
   rw [e];have hkm:k<m.length:=by omega
   repeat' (first|refine dq1 ?_|refine dqc ?_|exact z4 rfl rfl|exact zb rfl rfl (hag () trivial)|refine tB (fun h=>?_) fun h=>?_|refine dqT ?_|fail)
  ·rintro _ - again
   rw [hlm,zY1m]
   repeat' (first|refine dq1 ?_|exact z4 rfl rfl|refine dqF ?_|fail)
end
section
open Go.RowKit
open Go.Lib (itoa)
set_option maxRecDepth 100000
set_option maxHeartbeats 4000000
attribute [local irreducible] z0i spD
attribute [local irreducible] den denX z0x z1c
noncomputable def ziv:z7:=spD (fun _:List Block × List Block=>True) fun x=>decide (x.1=x.2)
theorem z096 (l m:List Block):ziv [.l 5 (l.map zi),.l 5 (m.map zi)]=some [.b (decide (l=m))]:=za (f:=fun x:List Block × List Block=>decide (x.1=x.2)) (l,m) trivial
def z0lq:T :=
 .lets [.call 56 [9,10,11,12,13,14,15,16,17,18] 0] [] (.lets [.not 19] [] (.ite 20 (.ret [.c (.b false)]) (.lets [.bin .add 7
 (zI 1)] [] (.again 0 [6,21]))))
def z0lr:T :=
 .lets [] [.inr 5 1 7] (.lets [.idx 1 7 0,.idx 1 7 1,.idx 1 7 2,.idx 1 7 3,.idx 1 7 4] [] z0lq)
def z0ls:T :=
 .lets [] [.inr 5 0 7] (.lets [.idx 0 7 0,.idx 0 7 1,.idx 0 7 2,.idx 0 7 3,.idx 0 7 4] [] z0lr)
def z0lt:T :=
 .ite 4 (.ret [.c (.b false)]) (.lets [.len 0] [] (.loop [.c (.b false),zI 0] (.lets [.bin .lss 7 5] [] (.ite 8 z0ls (.ret [.c (.b
 true)])))))
def ztb:T :=
 .lets [.len 0] [] (.lets [.len 1] [] (.lets [.bin .neq 2 3] [] z0lt))
attribute [local irreducible] zb5
theorem z0sl:Meets Tryz.prog ziv 35 ⟨[.one,.one,.clos 36 []],[(false,[.scal])],true⟩:=by
 refine z8 (sp:=(zr [(56,zb5)])) (sigs:=zy) (cut:=[]) (hints:=[⟨4,[.t 6,.t 17]⟩]) (fn:=Tryz.f35) (t:=ztb) (by kernel_rfl) (by kernel_rfl) (by kernel_rfl) ?_ ?_
 ·exact (zl (L:=[(56,zb5)]) ⟨z5 rfl z0jg,trivial⟩)
 ·rintro ds rs hok h
  obtain ⟨⟨l,m⟩,-,rfl,rfl⟩:=z9 h;clear h;have hll:=z98 (hok (.l 5 (l.map zi)) (zY0b ..));refine ⟨⟨l.length+1,?_⟩,zq rfl⟩
  show den _ _ ztb [.l 5 (l.map zi),.l 5 (m.map zi)] []=ret (decide (l=m))
  rw [z3u];unfold ztb
  repeat' (first|refine dq1 ?_|exact z4 rfl rfl|refine tR (fun h=>?_) fun h=>?_|fail)
  have hlm:l.length=m.length:=by omega
  (refine zm (fun (_:Unit) k=>[.b false,I k]) (fun (_:Unit) k (r:List Block)=>decide (r=m.drop k)) (fun _ _=>True) () l ?_ ?_ ?_ ?_ ?_;rfl;exact trivial;exact zY1i _)
  ·rintro _ k x r hx hd hk - again hag
   have hy:m[k]? = some (m[k]'(by omega)):=zY03 (by omega);have hdy:m.drop k=m[k]'(by omega)::m.drop (k+1):=zY0x (by omega);rw [hdy];generalize m[k]'(by omega)=y at *;have e:decide (x::r=y::m.drop (k+1))=if decide (x=y)=true then decide (r=m.drop (k+1)) else false:=by
    by_cases h:x=y
    ·simp [h]
    ·simp [h]
   rw [e];have hkm:k<m.length:=by omega
   have hag:=hag () trivial
   repeat' (first|refine dq1 ?_|refine dqc ?_|refine dqm ?_|refine dqk rfl (zx9 x y) ?_|exact zb rfl rfl hag|exact z4 rfl rfl|refine tN (fun h=>?_) fun h=>?_|refine dqT ?_|fail)
  ·rintro _ - again
   rw [hlm,zY1m]
   repeat' (first|refine dq1 ?_|exact z4 rfl rfl|refine dqF ?_|fail)
noncomputable def z5k:z7:=spD (fun _:Node × Node=>True) fun x=>decide (x.1=x.2)
theorem zf7 (a b:Node):z5k [.l 1 (a.t.names.map zf),.l 5 (a.t.blocks.map zi),.l 3 (a.pool.map eTx),I a.tip,.l 1 (b.t.names.map zf),.l 5 (b.t.blocks.map zi),.l 3 (b.pool.map eTx),I b.tip]=some [.b (decide (a=b))]:=za (f:=fun x:Node × Node=>decide (x.1=x.2)) (a,b) trivial
def z0dy:T :=
 .ite 9 (.lets [.call 93 [1,5] 0] [] (.ite 10 (.lets [.call 55 [2,6] 0] [] (.ret [11])) (.ret [.c (.b false)]))) (.ret [.c (.b false)])
def zo4:T :=
 .lets [.bin .eql 3 7] [] (.ite 8 (.lets [.call 40 [0,4] 0] [] z0dy) (.ret [.c (.b false)]))
attribute [local irreducible] zbp z4s
theorem zo5:Meets Tryz.prog z5k 12 ⟨[.agg 4,.agg 4],[(false,[.scal])],true⟩:=by
 refine z8 (sp:=(zr [(40,z4s),(55,zbp),(93,ziv)])) (sigs:=zy) (cut:=[]) (hints:=[]) (fn:=Tryz.f12) (t:=zo4) (by kernel_rfl) (by kernel_rfl) (by kernel_rfl) ?_ ?_
 ·exact (zl (L:=[(40,z4s),(55,zbp),(93,ziv)]) ⟨z5 rfl znc,z5 rfl z0jf,z5 rfl z0sl,trivial⟩)
 ·rintro ds rs - h
  obtain ⟨⟨a,b⟩,-,rfl,rfl⟩:=z9 h;clear h;refine ⟨⟨1,?_⟩,zq rfl⟩
  show den _ _ zo4 [.l 1 (a.t.names.map zf),.l 5 (a.t.blocks.map zi),.l 3 (a.pool.map eTx),I a.tip,.l 1 (b.t.names.map zf),.l 5 (b.t.blocks.map zi),.l 3 (b.pool.map eTx),I b.tip] []=ret (decide (a=b))
  obtain ⟨⟨n,bs⟩,p,t⟩:=a;obtain ⟨⟨n',bs'⟩,p',t'⟩:=b;have a1:=zek n n';have a2:=z096 bs bs';have a3:=zqa p p';have e:decide ((⟨⟨n,bs⟩,p,t⟩:Node)=⟨⟨n',bs'⟩,p',t'⟩)=if t=t' then (if decide (n=n')=true then (if decide (bs=bs')=true then decide (p=p') else false) else false) else false:=by
   by_cases h1:t=t'
   ·by_cases h2:n=n'
    ·by_cases h3:bs=bs'
     ·by_cases h4:p=p'
      ·simp [h1,h2,h3,h4]
      ·simp [h1,h2,h3,h4]
     ·simp [h1,h2,h3]
    ·simp [h1,h2]
   ·simp [h1]
  rw [e];unfold zo4;simp only
  repeat' (first|refine dq1 ?_|refine dqk rfl (a1) ?_|refine dqk rfl (a2) ?_|refine dqk rfl (a3) ?_|exact z4 rfl rfl|((first|refine tR ?_ ?_|refine tB ?_ ?_) <;> intro h)|fail)
noncomputable def zcp:z7:=spD (fun _:List Node × List Node=>True) fun x=>decide (x.1=x.2)
theorem zl3 (l m:List Node):zcp [.l 4 (l.map z17),.l 4 (m.map z17)]=some [.b (decide (l=m))]:=za (f:=fun x:List Node × List Node=>decide (x.1=x.2)) (l,m) trivial
def z0dz:T :=
 .lets [.call 91 [9,10,11,12,13,14,15,16] 0] [] (.lets [.not 17] [] (.ite 18 (.ret [.c (.b false)]) (.lets [.bin .add 7 (.c (.i .i64
 1))] [] (.again 0 [6,19]))))
def z0e0:T :=
 .lets [.idx 0 7 0,.idx 0 7 1,.idx 0 7 2,.idx 0 7 3] [] (.lets [] [.inr 4 1 7] (.lets [.idx 1 7 0,.idx 1 7
 1,.idx 1 7 2,.idx 1 7 3] [] z0dz))
def z0e1:T :=
 .lets [.len 0] [] (.loop [.c (.b false),zI 0] (.lets [.bin .lss 7 5] [] (.ite 8 (.lets [] [.inr 4 0 7] z0e0) (.ret [.c (.b true)]))))
def zo6:T :=
 .lets [.len 0] [] (.lets [.len 1] [] (.lets [.bin .neq 2 3] [] (.ite 4 (.ret [.c (.b false)]) z0e1)))
theorem z0ph:Meets Tryz.prog zcp 11 ⟨[.one,.one,.clos 12 []],[(false,[.scal])],true⟩:=by
 refine z8 (sp:=(zr [(91,z5k)])) (sigs:=zy) (cut:=[]) (hints:=[⟨4,[.t 6,.t 17]⟩]) (fn:=Tryz.f11) (t:=zo6) (by kernel_rfl) (by kernel_rfl) (by kernel_rfl) ?_ ?_
 ·exact (zl (L:=[(91,z5k)]) ⟨z5 rfl zo5,trivial⟩)
 ·rintro ds rs hok h
  obtain ⟨⟨l,m⟩,-,rfl,rfl⟩:=z9 h;clear h;have hll:=z98 (hok (.l 4 (l.map z17)) (zY0b ..));refine ⟨⟨l.length+1,?_⟩,zq rfl⟩
  show den _ _ zo6 [.l 4 (l.map z17),.l 4 (m.map z17)] []=ret (decide (l=m))
  rw [z3u];unfold zo6
  repeat' (first|refine dq1 ?_|exact z4 rfl rfl|refine tR (fun h=>?_) fun h=>?_|fail)
  have hlm:l.length=m.length:=by omega
  (refine zm (fun (_:Unit) k=>[.b false,I k]) (fun (_:Unit) k (r:List Node)=>decide (r=m.drop k)) (fun _ _=>True) () l ?_ ?_ ?_ ?_ ?_;rfl;exact trivial;exact zY1i _)
  ·rintro _ k x r hx hd hk - again hag
   have hy:m[k]? = some (m[k]'(by omega)):=zY03 (by omega);have hdy:m.drop k=m[k]'(by omega)::m.drop (k+1):=zY0x (by omega);rw [hdy];generalize m[k]'(by omega)=y at *;have e:decide (x::r=y::m.drop (k+1))=if decide (x=y)=true then decide (r=m.drop (k+1)) else false:=by
    by_cases h:x=y
    ·simp [h]
    ·simp [h]
   rw [e];have hkm:k<m.length:=by omega
   have hag:=hag () trivial
   repeat' (first|refine dq1 ?_|refine dqc ?_|refine dqN ?_|refine dqk rfl (zf7 x y) ?_|exact zb rfl rfl hag|exact z4 rfl rfl|refine tN (fun h=>?_) fun h=>?_|refine dqT ?_|fail)
  ·rintro _ - again
   rw [hlm,zY1m]
   repeat' (first|refine dq1 ?_|exact z4 rfl rfl|refine dqF ?_|fail)
noncomputable def zf8:z7:=spD (fun _:List Int × List Int=>True) fun x=>decide (x.1=x.2)
theorem z097 (l m:List Int):zf8 [.l 1 (l.map zf),.l 1 (m.map zf)]=some [.b (decide (l=m))]:=za (f:=fun x:List Int × List Int=>decide (x.1=x.2)) (l,m) trivial
def z0lu:T :=
 .lets [.idx 1 7 0] [] (.lets [.bin .neq 9 10] [] (.ite 11 (.ret [.c (.b false)]) (.lets [.bin .add 7 (zI 1)] [] (.again 0 [6,12]))))
def z0lv:T :=
 .lets [.bin .lss 7 5] [] (.ite 8 (.lets [] [.inr 1 0 7] (.lets [.idx 0 7 0] [] (.lets [] [.inr 1 1 7] z0lu))) (.ret [.c (.b
 true)]))
def z0lw:T :=
 .lets [.len 1] [] (.lets [.bin .neq 2 3] [] (.ite 4 (.ret [.c (.b false)]) (.lets [.len 0] [] (.loop [.c (.b false),zI 0] z0lv))))
def ztc:T :=
 .lets [.len 0] [] z0lw
theorem z0sm:Meets Tryz.prog zf8 29 ⟨[.one,.one],[(false,[.scal])],true⟩:=by
 refine z8 (sp:=(zr [])) (sigs:=zy) (cut:=[]) (hints:=[⟨4,[.t 4,.t 13]⟩]) (fn:=Tryz.f29) (t:=ztc) (by kernel_rfl) (by kernel_rfl) (by kernel_rfl) ?_ ?_
 ·exact (zl (L:=[]) trivial)
 ·rintro ds rs hok h
  obtain ⟨⟨l,m⟩,-,rfl,rfl⟩:=z9 h;clear h;have hll:=z98 (hok (.l 1 (l.map zf)) (zY0b ..));refine ⟨⟨l.length+1,?_⟩,zq rfl⟩
  show den _ _ ztc [.l 1 (l.map zf),.l 1 (m.map zf)] []=ret (decide (l=m))
  rw [z3u];unfold ztc
  repeat' (first|refine dq1 ?_|exact z4 rfl rfl|refine tR (fun h=>?_) fun h=>?_|fail)
  have hlm:l.length=m.length:=by omega
  (refine zm (fun (_:Unit) k=>[.b false,I k]) (fun (_:Unit) k (r:List Int)=>decide (r=m.drop k)) (fun _ _=>True) () l ?_ ?_ ?_ ?_ ?_;rfl;exact trivial;exact zY1i _)
  ·rintro _ k x r hx hd hk - again hag
   have hy:m[k]? = some (m[k]'(by omega)):=zY03 (by omega);have hdy:m.drop k=m[k]'(by omega)::m.drop (k+1):=zY0x (by omega);rw [hdy];generalize m[k]'(by omega)=y at *;have e:decide (x::r=y::m.drop (k+1))=if x≠y then false else decide (r=m.drop (k+1)):=by
    by_cases h:x=y
    ·simp [h]
    ·simp [h]
   rw [e];have hkm:k<m.length:=by omega
   have hag:=hag () trivial
   repeat' (first|refine dq1 ?_|refine dqc ?_|exact zb rfl rfl hag|exact z4 rfl rfl|refine tR (fun h=>?_) fun h=>?_|refine dqT ?_|fail)
  ·rintro _ - again
   rw [hlm,zY1m]
   repeat' (first|refine dq1 ?_|exact z4 rfl rfl|refine dqF ?_|fail)
noncomputable def zf9:z7:=spD (fun _:Int=>True) fun n=>z3o n
theorem z098 (n:Int):zf9 [I n]=some [.l 1 ((z3o n).1.book.texts.map z05),.l 4 ((z3o n).1.nodes.map z17),.l 12 ((z3o n).1.net.map z1p),I (z3o n).2]:=za (f:=fun n:Int=>z3o n) n trivial
def z0lx:T :=
 .ite 2 (.ret [.c (.nil 1),.c (.nil 4),.c (.nil 12),zI 3]) (.lets [.mkz 4 [.nil 1,.nil 5,.nil 3,.i .i64 0] 0] [] (.ret [.c (.nil 1),3,.c (.nil 12),.c
 (.i .i64 0)]))
def ztd:T :=
 .lets [.bin .lss 0 (zI 1)] [] (.ite 1 (.ret [.c (.nil 1),.c (.nil 4),.c (.nil 12),zI 3]) (.lets [.bin .gtr 0 (zI 4)] [] z0lx))
theorem z0sn:Meets Tryz.prog zf9 45 ⟨[.one],[(true,[.pure,.pure,.pure]),(false,[.scal])],false⟩:=by
 refine z8 (sp:=(zr [])) (sigs:=zy) (cut:=[]) (hints:=[]) (fn:=Tryz.f45) (t:=ztd) (by kernel_rfl) (by kernel_rfl) (by kernel_rfl) ?_ ?_
 ·exact (zl (L:=[]) trivial)
 ·rintro ds rs - h
  obtain ⟨n,-,rfl,rfl⟩:=z9 h;clear h;refine ⟨⟨1,?_⟩,z10 ⟨rfl,trivial⟩⟩
  show den _ _ ztd [I n] []=ret (z3o n)
  unfold ztd z3o
  by_cases h1:n<1
  ·rw [if_pos h1];repeat' (first|refine dq1 ?_|exact z4 rfl rfl|refine dqT ?_|fail)
  by_cases h2:n > 4
  ·rw [if_neg h1,if_pos h2];repeat' (first|refine dq1 ?_|exact z4 rfl rfl|refine dqT ?_|refine dqF ?_|fail)
  rw [if_neg h1,if_neg h2]
  repeat' (first|refine dq1 ?_|refine z6 (d:=.l 4 ((List.replicate n.toNat z84).map z17)) (by rw [List.map_replicate];exact z0i6 (z:=[.nil 1,.nil 5,.nil 3,.i .i64 0]) rfl (by omega) (by omega) rfl) ?_|exact z4 rfl rfl|refine dqF ?_|fail)
end
section
open Go.RowKit
set_option maxRecDepth 100000
def N5 (n:Int):Prop:=n≠5
theorem z2m {c:Prop} [Decidable c] {a b:Int} (ha:N5 a) (hb:N5 b):N5 (if c then a else b):=by split <;> assumption
theorem z0u (n:Int) (h:decide (n=5)=false):N5 n:=of_decide_eq_false h
theorem z0vg (o:Op):N5 (z8s o):=z2m (z0u _ rfl) (z2m (z0u _ rfl) (z0u _ rfl))
theorem z05d:∀ l:List Op,N5 (zao l)
 | []=>z0u _ rfl
 | o::l=>z2m (z0vg o) (z05d l)
theorem z05e (l:List Op):N5 (zo l):=z2m (z0u _ rfl) (z05d l)
theorem z0pi (x:In):N5 (z5z x):=by unfold z5z;exact z2m (z0u _ rfl) (z05e _)
theorem z05f:∀ l s:List In,N5 (z4c l s)
 | [],_=>z0u _ rfl
 | x::l,s=>z2m (z0pi x) (z2m (z0u _ rfl) (z05f l _))
theorem z0ap:∀ l:List Out,N5 (z3i l)
 | []=>z0u _ rfl
 | x::l=>z2m (z2m (z0u _ rfl) (z05e _)) (z0ap l)
theorem z05g:∀ (l:List Int) (s:Int),N5 (zc0 l s).2
 | [],_=>z0u _ rfl
 | x::l,s=>by
  unfold zc0
  repeat' split
  all_goals first|exact z0u _ rfl|exact z05g _ _
theorem z0vh (t:Tx):N5 (zj t):=z2m (z2m (z0u _ rfl) (z2m (z0u _ rfl) (z2m (z0u _ rfl) (z0u _ rfl)))) (z2m (z05f _ _) (z2m (z0ap _) (z05g _ _)))
theorem zql:∀ (l:List Coin) (p:Point) (s:Int),N5 (z7m p s l)
 | [],_,_=>z0u _ rfl
 | c::l,p,s=>by
  rw [z7m];exact z2m (z0u _ rfl) (z2m (z05e _) (z2m (z0u _ rfl) (z2m (z0u _ rfl) (zql l _ _))))
theorem zo7 (l:List Coin):N5 (z00 l):=z2m (z0u _ rfl) (zql _ _ _)
theorem zvd:∀ l s:List (List UInt8),N5 (z7d l s)
 | [],_=>z0u _ rfl
 | x::l,s=>z2m (z0u _ rfl) (z2m (z0u _ rfl) (zvd l _))
theorem z0so (k:Book):N5 (zg k):=z2m (z0u _ rfl) (zvd _ _)
theorem z0pj (t:List (List UInt8)) (s:List UInt8):N5 (z2i t s):=z2m (z0u _ rfl) (z2m (z0u _ rfl) (z0u _ rfl))
theorem z05h:∀ (l t:List (List UInt8)) (o:List Int),N5 (z2w l t o).2.2
 | [],t,o=>z0u _ rfl
 | s::l,t,o=>by
  rw [z2w]
  split
  ·exact z0u _ rfl
  ·split
   ·exact z0pj _ _
   ·exact z05h l _ _
theorem z05i (k:Book) (b:Block) (hb:zd b=0):N5 (z01 k b).2.2.2:=by
 unfold z01;rw [z7p hb,if_neg (fun k=>k rfl)];unfold z9w
 split
 ·unfold z12
  split
  ·exact z0so k
  ·exact z05h _ _ _
 ·exact z0u _ rfl
theorem zo8 {h:Int} {K:List Coin→List Coin→List Coin × List Coin × Int} (hK:∀ r s,N5 (K r s).2.2):∀ (xs:List In) (r s:List Coin),N5 (z46 h z59 K r s xs).2.2
 | [],r,s=>hK r s
 | x::xs,r,s=>by
  rw [z46]
  repeat' split
  all_goals first|exact z0u _ rfl|exact zo8 hK xs _ _
theorem zo9 {nm h:Int} {w:Bool} {K:List Coin→List Coin × List Coin × Int} (hK:∀ r,N5 (K r).2.2):∀ (os:List Out) (r:List Coin) (i:Nat),N5 (z4d nm h w z59 K r i os).2.2
 | [],r,i=>hK r
 | o::os,r,i=>by
  rw [z4d]
  split
  ·exact z0u _ rfl
  ·exact zo9 hK os _ _
theorem z0aq (s r:List Coin):N5 (zb1 s r).2.2:=by
 unfold zb1
 split
 ·exact zo7 r
 ·exact z0u _ rfl
theorem z05j (l:List Coin) (t:Tx) (nm h:Int):N5 (zw l t nm h).2.2:=by
 unfold zw
 split
 ·exact zo7 l
 split
 ·exact z0vh t
 split
 ·exact z0u _ rfl
 split
 ·split
  ·exact z0u _ rfl
  ·exact zo8 (fun r s=>zo9 (fun r=>z0aq s r) _ _ _) _ _ _
 ·refine zo8 (fun r s=>?_) _ _ _
  split
  ·exact z0u _ rfl
  ·exact zo9 (fun r=>z0aq s r) _ _ _
theorem zve {b:Block} {ns:List Int}:∀ (r:List Tx) (l:List Coin) (us:List Undo) (most:Int) (i:Nat),N5 (z5s b ns l us most i r).2.2
 | [],l,us,most,i=>by
  rw [z5s];unfold zbo
  split
  ·exact z0u _ rfl
  split
  ·exact z05j _ _ _ _
  ·exact z0u _ rfl
 | t::r,l,us,most,i=>by
  rw [z5s]
  split
  ·exact z05j _ _ _ _
  ·exact zve r _ _ _ _
theorem z0sp (k:Book) (l:List Coin) (b:Block) (hb:zd b=0):N5 (z28 k l b).2.2:=by
 unfold z28
 split
 ·exact zo7 l
 split
 ·exact z05i k b hb
 ·exact zve _ _ _ _ _
theorem z05k {k:Book} {t:Tree}:∀ (r:List Int) (l:List Coin),(∀ n ∈ r,zd (z0a t n)=0)→N5 (z0w k t l r).2
 | [],l,_=>z0u _ rfl
 | n::r,l,h=>by
  rw [z0w]
  split
  ·exact z0sp _ _ _ (h n (by simp))
  ·exact z05k r _ fun m hm=>h m (zY08 _ hm)
theorem z0pk {k:Book} {n:Node} {b:Block} (N:NodeOK k n) (hb:zd b=0) (h:(z0k k n b).2.2.2=5):1≤b.parent∧b.parent≤120:=by
 have hr:=(zc2 hb).1;unfold z44 at hr;unfold z0k at h;rw [z6j N,if_neg (fun k=>k rfl)] at h
 by_cases h1:(z01 k b).2.2.2=0
 rotate_left
 ·rw [if_pos h1] at h
  exact absurd h (z05i k b hb)
 rw [if_neg (fun k=>k h1)] at h
 by_cases h2:z0y n.t (z01 k b).2.1 b=0
 rotate_left
 ·rw [if_pos h2] at h
  simp only at h;unfold z0y at h;rw [if_neg (fun k=>k ((z03 _ _).2 N.tree))] at h
  split at h
  ·exact absurd h (by decide)
  rw [if_neg (fun k=>k hb)] at h
  split at h
  ·exact absurd h (by decide)
  split at h
  ·unfold z1h at h
   by_cases hp:b.parent=0
   ·rw [if_pos hp] at h
    split at h <;> exact absurd h (by decide)
   ·omega
  ·split at h <;> exact absurd h (by decide)
 rw [if_neg (fun k=>k h2)] at h;generalize hq:z01 k b=q at *;obtain ⟨x,nm,ns,e⟩:=q;simp only at h h1 h2;subst h1;obtain ⟨-,g2,g3,-⟩:=zj6 hq;have hT:z2j n.t nm b=⟨n.t.names++[nm],n.t.blocks++[b]⟩:=by unfold z2j;rw [if_pos h2]
 have okT:=zb6 h2;rw [hT] at h
 by_cases h3:(ze ⟨x⟩ ⟨n.t.names++[nm],n.t.blocks++[b]⟩ nm).2=0
 ·rw [if_neg (fun k=>k h3)] at h
  unfold zlx at h
  split at h
  ·split at h <;> exact absurd h (by show ¬ (0:Int)=5;decide)
  ·exact absurd h (by show ¬ (0:Int)=5;decide)
 ·rw [if_pos h3] at h
  simp only at h
  exfalso
  have hn:=(z6i (b:=b) N.tree (z68 h2).2.2.2.1).1;rw [z5h (t:=⟨n.t.names++[nm],n.t.blocks++[b]⟩) ((z0e _).2 g3) okT (.inr hn)] at h;refine z05k _ _ (fun m hm=>?_) h;have hi:=z9v okT (.inr hn) m hm;rw [z8m (t:=⟨n.t.names++[nm],n.t.blocks++[b]⟩) okT hi];exact z5y (t:=⟨n.t.names++[nm],n.t.blocks++[b]⟩) ((z03 _ _).2 okT) _ (zY07 (zbn (t:=⟨n.t.names++[nm],n.t.blocks++[b]⟩) okT hi).1)
end
section
open Go.RowKit
set_option maxRecDepth 100000
theorem zgc {h:Int} {y:List z1l} (hy:z11 y):∀ (r s:List Tx) (m:List Coin) (g:Int),(∀ t ∈ r,zj t=0∧0≤idx y (z1n t))→∀ {x':List z1l} {s':List Tx} {m':List Coin} {f':Int},z29 h ⟨y,s,m,g⟩ r=(x',s',m',f',0)→s'.length≤s.length+r.length∧(s'.length=s.length+r.length→∃ f,RunC h y m r m' f)
 | [],s,m,g,_,x',s',m',f',h0=>by
  rw [z29] at h0;simp only [zY0r,and_true] at h0;obtain ⟨rfl,rfl,rfl,rfl⟩:=h0;exact ⟨by simp,fun _=>⟨0,.nil _⟩⟩
 | t::r,s,m,g,ht,x',s',m',f',h0=>by
  rw [z29] at h0;simp only at h0
  by_cases hp:(z0j y m t h).2.2.2=0
  ·rw [if_neg (fun k=>k hp)] at h0
   obtain ⟨t1,t2⟩:=ht t (by simp);have hpp:z0j y m t h=((z0j y m t h).1,(z0j y m t h).2.1,(z0j y m t h).2.2.1,0):=by rw [← hp]
   obtain ⟨p1,p2,p3,p4,p5,p6,sp,p7,p8⟩:=zlw hy hpp;obtain ⟨-,-,-,-,q5⟩:=zkp hp;have hx:(z0j y m t h).1=y:=by rw [q5];exact (zmq hy p5 t2).2.1
   rw [hx] at p7 h0;obtain ⟨i1,i2⟩:=zgc hy r (s++[t]) _ _ (fun u hu=>ht u (zY08 _ hu)) h0;rw [zY04,zY19] at i1 i2;rw [zY0g];refine ⟨by omega,fun hl=>?_⟩;obtain ⟨f,R⟩:=i2 (by omega);exact ⟨_,.cons t1 p4 p5 t2 p7 R⟩
  ·rw [if_pos hp] at h0
   obtain ⟨i1,i2⟩:=zgc hy r s m g (fun u hu=>ht u (zY08 _ hu)) h0;rw [zY0g];exact ⟨by omega,fun hl=>by omega⟩
theorem z0ly {k k':Book} {n:Node} (N:NodeOK k n) (hk':z11 k'.texts) (hp:k.texts <+: k'.texts):ze k' n.t n.tip=ze k n.t n.tip:=z79 N.tree N.book hk' hp (zf3 N) fun m hm=>(N.at_ m hm).1
theorem z0e2 {k k':Book} {n:Node} (N:NodeOK k n) (hk':z11 k'.texts) (hp:k.texts <+: k'.texts):z5t k' n=0:=by
 have hc:=zva N;have hc':=z0ly N hk' hp
 by_cases h0:n.pool=[]
 ·exact zkv (by rw [hc'];exact hc) h0
 have hpool:=N.pool;unfold z5t at hpool;rw [if_neg (fun k=>k hc),if_neg (by rw [Int.natCast_eq_zero,List.length_eq_zero_iff];exact h0)] at hpool
 by_cases h1:z3a k n.pool=false
 ·rw [if_pos h1] at hpool;exact absurd hpool (by decide)
 rw [if_neg h1] at hpool
 by_cases h2:(zt k (ze k n.t n.tip).1 n.pool (zk n.t n.tip+1)).2.2.2.2=0
 rotate_left
 ·rw [if_pos h2] at hpool;exact absurd hpool h2
 rw [if_neg (fun k=>k h2)] at hpool
 by_cases h3:((zt k (ze k n.t n.tip).1 n.pool (zk n.t n.tip+1)).2.1.length:Int)≠n.pool.length
 ·rw [if_pos h3] at hpool;exact absurd hpool (by decide)
 have h3:=zY0i.1 h3;generalize hsw:zt k (ze k n.t n.tip).1 n.pool (zk n.t n.tip+1)=sw at *;obtain ⟨x,s,m,f,e⟩:=sw;simp only at h2 h3;subst h2;obtain ⟨q1,q2,q3,q4,q5,-⟩:=z7s hsw;unfold zt at hsw;rw [if_neg (fun q=>q ((z0e _).2 N.book)),if_neg (fun k=>k ((z0r _).2 q2)),if_neg (by omega),if_neg (by omega)] at hsw
 by_cases h5:(n.pool.length:Int) > 8
 ·rw [if_pos h5] at hsw;exact absurd (congrArg (fun x=>x.2.2.2.2) hsw) (by show ¬ (2:Int)=0;decide)
 rw [if_neg h5] at hsw;obtain ⟨-,i2⟩:=zgc N.book n.pool [] _ _ (fun t ht=>by
  obtain ⟨g1,g2⟩:=zdo (by simpa using h1) t ht;refine ⟨g1,?_⟩;rw [z90 g1] at g2;exact (z0v _ _).2 g2) hsw
 obtain ⟨f',R⟩:=i2 (by simp only [zY17];omega);have hcc:ze k' n.t n.tip=((ze k n.t n.tip).1,0):=by rw [hc',← hc]
 exact znt hk' hcc (by omega) (R.more hp)
theorem NodeOK.grow {k k':Book} {n:Node} (N:NodeOK k n) (hk':z11 k'.texts) (hp:k.texts <+: k'.texts):NodeOK k' n:=N.later hk' hp (z0e2 N hk' hp)
structure Kept (n m:Node):Prop where
 names:n.t.names <+: m.t.names
 work:∃ v u,z80 n.t n.tip=(v,0)∧z80 m.t m.tip=(u,0)∧v≤u
theorem zfv {k:Book} {n m:Node} (N:NodeOK k n) (h1:m.t=n.t) (h2:m.tip=n.tip):Kept n m:=⟨by rw [h1];exact zY3b _,_,_,zly N.tree (zf3 N),by rw [h1,h2];exact zly N.tree (zf3 N),Int.le_refl _⟩
theorem zvf {k:Book} {n m:Node} {b:Block} {x:List z1l} {nm:Int} (h:z0k k n b=(x,m,nm,0)):Kept n m:=by
 obtain ⟨-,-,hw,-,-,-,hn,-⟩:=z0ov h;exact ⟨by rw [hn];exact List.prefix_append _ _,hw⟩
theorem zvg {k:Book} {K:Int}:∀ {l:List Node},(∀ n ∈ l,z0p k n=0)→z96 k K l=K
 | [],_=>rfl
 | n::l,h=>by rw [z96,if_neg (fun k=>k (h n (by simp)))];exact zvg fun m hm=>h m (zY08 _ hm)
theorem z05l {n:Int}:∀ {l:List Message},(∀ m ∈ l,z1i m n=0)→z9j n l=0
 | [],_=>rfl
 | m::l,h=>by rw [z9j,if_neg (fun k=>k (h m (by simp)))];exact z05l fun x hx=>h x (zY08 _ hx)
theorem zhf {w:Wld} (W:WldOK w):z1q w=0:=by
 have h1:=W.ge;have h2:=W.le;have h3:=W.net;unfold z1q;rw [if_neg (by omega),if_neg (by omega),if_neg (fun k=>k W.book),if_neg (by omega),zvg W.nodes,z05l W.msgs]
structure Next (w w':Wld):Prop where
 ok:WldOK w'
 book:w.book.texts <+: w'.book.texts
 len:w'.nodes.length=w.nodes.length
 one:∃ i:Nat,(∀ (j:Nat) (n:Node),j≠i→w.nodes[j]? = some n→w'.nodes[j]? = some n)∧∀ n m,w.nodes[i]? = some n→w'.nodes[i]? = some m→Kept n m
theorem z9y {w:Wld} {net:List Message} (W:WldOK w) (h1:net.length≤20) (h2:∀ m ∈ net,z1i m w.nodes.length=0):Next w ⟨w.book,w.nodes,net⟩ :=
 ⟨⟨W.ge,W.le,W.book,h1,W.nodes,h2⟩,zY3b _,rfl,w.nodes.length,fun j n _ h=>h,fun n m h=>by rw [zY2x (zY0p _)] at h;cases h⟩
theorem zfa {w:Wld} {net:List Message} {i:Nat} {n m:Node} {x:List z1l} (W:WldOK w) (hn:w.nodes[i]? = some n) (M:NodeOK ⟨x⟩ m) (hp:w.book.texts <+: x) (K:Kept n m) (h1:net.length≤20) (h2:∀ m ∈ net,z1i m w.nodes.length=0):Next w ⟨⟨x⟩,w.nodes.set i m,net⟩:=by
 refine ⟨⟨by rw [zY1d];exact W.ge,by rw [zY1d];exact W.le,(z0e x).2 M.book,h1,fun q hq=>?_,by rw [zY1d];exact h2⟩,hp,zY1d,i,fun j q hj hq=>by rw [zY0h (Ne.symm hj)];exact hq,fun a b ha hb=>?_⟩
 ·rcases List.mem_or_eq_of_mem_set hq with hq|rfl
  ·exact z6j ((z7a (W.nodes q hq)).grow M.book hp)
  ·exact z6j M
 ·have hi:=(zY02.1 hn).1
  rw [zY0c hi] at hb;rw [hn] at ha;injection ha with ha
  injection hb with hb
  subst ha hb;exact K
theorem ze1 {net:List Message} {m:Message} {n:Int} (h1:net.length≤20) (h2:∀ m ∈ net,z1i m n=0) (h3:z1i m n=0):(z38 net m).length≤20∧∀ m' ∈ z38 net m,z1i m' n=0:=by
 unfold z38
 split
 ·rename_i h
  refine ⟨by rw [zY04,zY19];omega,fun m' hm=>?_⟩;rcases zY0w.1 hm with hm|hm
  ·exact h2 m' hm
  ·rw [zY0y.1 hm];exact h3
 ·exact ⟨h1,h2⟩
theorem zm1 {src:Int} {f:Int→Message} {n:Int}:∀ (r:List Node) (k:Nat) (net:List Message),(∀ j:Nat,k≤j→j<k+r.length→(j:Int)≠src→z1i (f j) n=0)→net.length≤20→(∀ m ∈ net,z1i m n=0)→(z47 src f k r net).length≤20∧∀ m ∈ z47 src f k r net,z1i m n=0
 | [],k,net,_,h1,h2=>⟨h1,h2⟩
 | _::r,k,net,hf,h1,h2=>by
  rw [zY0g] at hf;rw [z47]
  by_cases h:(k:Int)≠src
  ·rw [if_pos h]
   obtain ⟨g1,g2⟩:=ze1 h1 h2 (hf k (zY0p _) (by omega) h);exact zm1 r (k+1) _ (fun j hj hj2=>hf j (by omega) (by omega)) g1 g2
  ·rw [if_neg h]
   exact zm1 r (k+1) _ (fun j hj hj2=>hf j (by omega) (by omega)) h1 h2
theorem zqm {l:List Message} {i:Int}:∀ m ∈ z20 l i,m ∈ l:=by
 intro m hm;unfold z20 at hm;rcases zY0w.1 hm with h|h
 ·exact zY2e h
 ·exact zY23 h
theorem zm2 {l:List Message} {i:Int} (h0:0≤i) (h1:i<l.length):(z20 l i).length+1=l.length:=by
 unfold z20;rw [zY04,zY0d,zY10];omega
theorem z0pl {w:Wld} {m:Message} {net:List Message} (W:WldOK w) (hm:z1i m w.nodes.length=0) (h1:net.length≤20) (h2:∀ m ∈ net,z1i m w.nodes.length=0):Next w (z7t w m net):=by
 obtain ⟨c1,c2,c3,c4,c5,c6,c7⟩:=z9k hm;have hn:=z4g (l:=w.nodes) (i:=m.to) (by omega) (by omega);have N:=z7a (W.nodes _ (zY07 hn));have same:Next w ⟨w.book,w.nodes,net⟩:=z9y W h1 h2;unfold z7t
 split
 ·rename_i j1
  unfold zcn;generalize hq:z0k w.book (z0c w.nodes m.to) m.b=q at *;obtain ⟨x,n',nm,e⟩:=q;simp only
  split
  ·rename_i he
   subst he;obtain ⟨-,M,hp,-⟩:=zdz hq;exact zfa W hn M hp (zvf hq) h1 h2
  ·split
   ·rename_i h5
    refine (fun ⟨g1,g2⟩=>z9y W g1 g2) (ze1 h1 h2 ?_);refine z6s ⟨by show (1:Int)≤2;decide,by show (2:Int)≤3;decide⟩ c3 c2 (fun h=>c4 h.symm) (fun h=>absurd h (by show ¬ (2:Int)=1;decide)) (fun h=>absurd h (by show ¬ (2:Int)=3;decide)) fun _=>?_
    have:=z0pk N (c5 j1) (by rw [hq];exact h5);exact this
   ·exact same
 ·split
  ·rename_i j2
   unfold zt7
   split
   ·exact same
   ·rename_i he
    refine (fun ⟨g1,g2⟩=>z9y W g1 g2) (ze1 h1 h2 ?_);exact z6s ⟨by show (1:Int)≤1;decide,by show (1:Int)≤3;decide⟩ c3 c2 (fun h=>c4 h.symm) (fun _=>zo1 (zY0i.1 he)) (fun h=>absurd h (by show ¬ (1:Int)=3;decide)) (fun h=>absurd h (by show ¬ (1:Int)=2;decide))
  ·split
   ·unfold z054
    generalize hq:z13 w.book (z0c w.nodes m.to) m.t=q at *;obtain ⟨x,n',e⟩:=q;simp only
    split
    ·exact same
    ·rename_i he
     have he:=zY0i.1 he;subst he;obtain ⟨-,M,hp,-⟩:=znu hq;obtain ⟨-,o1,o2⟩:=zo0 hq;exact zfa W hn M hp (zfv N o1 o2) h1 h2
   ·exact same
theorem zl4 {w w':Wld} {x:Happening} (W:WldOK w) (h:z1t w x=(w',0)):Next w w':=by
 have hl:=W.le;have hnet:=W.net;have own:∀ {q:z7v},z7b w x q=(w',0)→0≤x.node∧x.node<w.nodes.length∧q=(w',0):=by
  intro q hq;unfold z7b at hq
  split at hq
  ·exact absurd (congrArg Prod.snd hq) (by show ¬ (5:Int)=0;decide)
  split at hq
  ·exact absurd (congrArg Prod.snd hq) (by show ¬ (5:Int)=0;decide)
  ·exact ⟨by omega,by omega,hq⟩
 have meet:∀ {q:z7v},zfu w x q=(w',0)→0≤x.to∧x.to<w.nodes.length∧x.to≠x.node∧(w.net.length:Int)≠20∧q=(w',0):=by
  intro q hq;unfold zfu at hq
  split at hq
  ·exact absurd (congrArg Prod.snd hq) (by show ¬ (5:Int)=0;decide)
  split at hq
  ·exact absurd (congrArg Prod.snd hq) (by show ¬ (5:Int)=0;decide)
  split at hq
  ·exact absurd (congrArg Prod.snd hq) (by show ¬ (6:Int)=0;decide)
  split at hq
  ·exact absurd (congrArg Prod.snd hq) (by show ¬ (12:Int)=0;decide)
  ·exact ⟨by omega,by omega,by assumption,by assumption,hq⟩
 have there:∀ {q:z7v},z5u w x q=(w',0)→0≤x.k∧x.k<w.net.length∧q=(w',0):=by
  intro q hq;unfold z5u at hq
  split at hq
  ·exact absurd (congrArg Prod.snd hq) (by show ¬ (5:Int)=0;decide)
  split at hq
  ·exact absurd (congrArg Prod.snd hq) (by show ¬ (5:Int)=0;decide)
  ·exact ⟨by omega,by omega,hq⟩
 unfold z1t at h
 split at h
 ·obtain ⟨n1,n2,h⟩:=own h
  have hn:=z4g (l:=w.nodes) (i:=x.node) n1 n2;unfold zhe at h;generalize hq:z1k w.book (z0c w.nodes x.node) x.work x.k [⟨1,x.n⟩,⟨7,0⟩]=q at *;obtain ⟨y,m,b,e⟩:=q;simp only at h
  split at h
  ·rename_i he;exact absurd (congrArg Prod.snd h) he
  rename_i he;have he:=zY0i.1 he;subst he;obtain rfl:=congrArg Prod.fst h;obtain ⟨nm,t1,-⟩:=z051 hq;obtain ⟨-,M,hp,B,-⟩:=zdz t1;obtain ⟨g1,g2⟩:=zm1 (src:=x.node) (f:=fun k=>⟨1,x.node,k,0,b,zTx⟩) (n:=w.nodes.length) (w.nodes.set x.node.toNat m) 0 w.net (fun j _ hj hne=>z6s ⟨by show (1:Int)≤1;decide,by show (1:Int)≤3;decide⟩ ⟨n1,n2⟩ ⟨by show (0:Int)≤(j:Int);omega,by rw [zY1d] at hj;show (j:Int)<_;omega⟩ (fun h=>hne h.symm) (fun _=>B.ok) (fun h=>absurd h (by show ¬ (1:Int)=3;decide)) (fun h=>absurd h (by show ¬ (1:Int)=2;decide))) hnet W.msgs;exact zfa W hn M hp (zvf t1) g1 g2
 split at h
 ·obtain ⟨n1,n2,h⟩:=own h
  have hn:=z4g (l:=w.nodes) (i:=x.node) n1 n2;have N:=z7a (W.nodes _ (zY07 hn));unfold zir at h;generalize hq:z13 w.book (z0c w.nodes x.node) x.t=q at *;obtain ⟨y,m,e⟩:=q;simp only at h
  split at h
  ·rename_i he;exact absurd (congrArg Prod.snd h) he
  rename_i he;have he:=zY0i.1 he;subst he;obtain rfl:=congrArg Prod.fst h;obtain ⟨-,M,hp,-⟩:=znu hq;obtain ⟨-,o1,o2⟩:=zo0 hq;obtain ⟨g1,g2⟩:=zm1 (src:=x.node) (f:=fun k=>⟨3,x.node,k,0,z24,x.t⟩) (n:=w.nodes.length) (w.nodes.set x.node.toNat m) 0 w.net (fun j _ hj hne=>z6s ⟨by show (1:Int)≤3;decide,by show (3:Int)≤3;decide⟩ ⟨n1,n2⟩ ⟨by show (0:Int)≤(j:Int);omega,by rw [zY1d] at hj;show (j:Int)<_;omega⟩ (fun h=>hne h.symm) (fun h=>absurd h (by show ¬ (3:Int)=1;decide)) (fun _=>zms hq) (fun h=>absurd h (by show ¬ (3:Int)=2;decide))) hnet W.msgs;exact zfa W hn M hp (zfv N o1 o2) g1 g2
 split at h
 ·obtain ⟨n1,n2,h⟩:=own h
  have hn:=z4g (l:=w.nodes) (i:=x.node) n1 n2;have N:=z7a (W.nodes _ (zY07 hn));obtain rfl:=congrArg Prod.fst h;have M:NodeOK w.book ⟨(z0c w.nodes x.node).t,[],(z0c w.nodes x.node).tip⟩:=⟨N.book,N.tree,N.tip,N.at_,N.coins,zkv (n:=⟨(z0c w.nodes x.node).t,[],(z0c w.nodes x.node).tip⟩) (show (ze w.book (z0c w.nodes x.node).t (z0c w.nodes x.node).tip).2=0 from zva N) rfl⟩
  exact zfa W hn M (zY3b _) (zfv N rfl rfl) hnet W.msgs
 split at h
 ·obtain ⟨n1,n2,h⟩:=own h
  obtain ⟨m1,m2,m3,m4,h⟩:=meet h;unfold zlz at h
  split at h
  ·rename_i he;exact absurd (congrArg Prod.snd h) he
  rename_i he;obtain rfl:=congrArg Prod.fst h;obtain ⟨g1,g2⟩:=ze1 (m:=⟨1,x.node,x.to,0,z0a (z0c w.nodes x.node).t (z0c w.nodes x.node).tip,zTx⟩) (n:=w.nodes.length) hnet W.msgs (z6s ⟨by show (1:Int)≤1;decide,by show (1:Int)≤3;decide⟩ ⟨n1,n2⟩ ⟨m1,m2⟩ (fun h=>m3 h.symm) (fun _=>zo1 (zY0i.1 he)) (fun h=>absurd h (by show ¬ (1:Int)=3;decide)) (fun h=>absurd h (by show ¬ (1:Int)=2;decide)));exact z9y W g1 g2
 split at h
 ·obtain ⟨n1,n2,h⟩:=own h
  obtain ⟨m1,m2,m3,m4,h⟩:=meet h;unfold zm0 at h
  split at h
  ·exact absurd (congrArg Prod.snd h) (by show ¬ (3:Int)=0;decide)
  split at h
  ·exact absurd (congrArg Prod.snd h) (by show ¬ (3:Int)=0;decide)
  obtain rfl:=congrArg Prod.fst h;obtain ⟨g1,g2⟩:=ze1 (m:=⟨2,x.node,x.to,x.k,z24,zTx⟩) (n:=w.nodes.length) hnet W.msgs (z6s ⟨by show (1:Int)≤2;decide,by show (2:Int)≤3;decide⟩ ⟨n1,n2⟩ ⟨m1,m2⟩ (fun h=>m3 h.symm) (fun h=>absurd h (by show ¬ (2:Int)=1;decide)) (fun h=>absurd h (by show ¬ (2:Int)=3;decide)) (fun _=>⟨by show 1≤x.k;omega,by show x.k≤120;omega⟩));exact z9y W g1 g2
 split at h
 ·obtain ⟨n1,n2,h⟩:=there h
  obtain rfl:=congrArg Prod.fst h;have hm:=z9x (l:=w.net) (i:=x.k) n1 n2;have hd:=zm2 (l:=w.net) (i:=x.k) n1 n2;exact z0pl W (W.msgs _ (zY07 hm)) (by omega) fun m hm=>W.msgs m (zqm m hm)
 split at h
 ·obtain ⟨n1,n2,h⟩:=there h
  obtain rfl:=congrArg Prod.fst h;have hd:=zm2 (l:=w.net) (i:=x.k) n1 n2;exact z9y W (by omega) fun m hm=>W.msgs m (zqm m hm)
 split at h
 ·obtain ⟨n1,n2,h⟩:=there h
  split at h
  ·exact absurd (congrArg Prod.snd h) (by show ¬ (12:Int)=0;decide)
  obtain rfl:=congrArg Prod.fst h;have hm:=z9x (l:=w.net) (i:=x.k) n1 n2;obtain ⟨g1,g2⟩:=ze1 (m:=z2n w.net x.k) hnet W.msgs (W.msgs _ (zY07 hm));exact z9y W g1 g2
 ·exact absurd (congrArg Prod.snd h) (by show ¬ (4:Int)=0;decide)
end
section
open Go.RowKit
set_option maxRecDepth 100000
def mvS:List Happening:=[⟨1,0,0,0,1,0,zTx⟩,⟨3,0,0,0,0,0,zTx⟩,⟨3,0,0,0,0,0,zTx⟩,⟨1,1,0,0,1,0,zTx⟩]
def mv1:Wld × List Int × Int:=z53 2 mvS
theorem mv_1:(mv1.2.2=0∧mv1.2.1=[0,0,5,0])∧mv1.1.nodes.map (fun n=>n.t.names.length)=[1,2]∧mv1.1.net.length=1:=by with_unfolding_all decide +kernel
theorem mv_2:∃ n m,mv1.1.nodes=[n,m]∧n.t.names.length=1∧m.t.names.length=2:=by
 have h:=mv_1.2.1;generalize mv1.1.nodes=l at *;rcases l with _|⟨n,_|⟨m,_|⟨o,r⟩⟩⟩
 ·exact absurd h (by decide)
 ·exact absurd (congrArg List.length h) (by simp)
 ·simp only [zY1q,zY2v,zY1o,and_true] at h
  exact ⟨n,m,rfl,h⟩
 ·exact absurd (congrArg List.length h) (by simp)
end
section
open Go.RowKit
open Go.Lib (itoa)
set_option maxRecDepth 100000
set_option maxHeartbeats 40000000
def zqn (w:Wld) (x:Happening):Bool :=
 if x.kind=1 then decide (0≤x.node∧x.node<w.nodes.length) && decide ((z1k w.book (z0c w.nodes x.node) x.work x.k [⟨1,x.n⟩,⟨7,0⟩]).2.2.2=0)
 else decide (x.kind=3∧0≤x.k) && (decide (x.k ≥ w.net.length) || (decide ((z2n w.net x.k).kind=1) && decide ((z0k w.book (z0c w.nodes (z2n w.net x.k).to) (z2n w.net x.k).b).2.2.2=0)))
def mvW:Nat→Wld
 | 0=>(z3o 2).1
 | k+1=>if (z1t (mvW k) ((mvS[k]?).getD ⟨0,0,0,0,0,0,zTx⟩)).2=0 then (z1t (mvW k) ((mvS[k]?).getD ⟨0,0,0,0,0,0,zTx⟩)).1 else mvW k
theorem z0sq:(List.range 4).all (fun k=>zqn (mvW k) ((mvS[k]?).getD ⟨0,0,0,0,0,0,zTx⟩))=true:=by with_unfolding_all decide +kernel
theorem z0vi {k:Nat} {x:Happening} (hx:mvS[k]? = some x):zqn (mvW k) x=true:=by
 have hk:k<4:=(zY02.1 hx).1;have h:=zY1g.1 z0sq k (zY2c.2 hk);rw [hx] at h;exact h
theorem z0vj {k:Nat} {x:Happening} {w w':Wld} (hx:mvS[k]? = some x) (hw:w=mvW k) (h:z1t w x=(w',0)):w'=mvW (k+1):=by
 subst hw;rw [mvW,hx]
 show w'=if (z1t (mvW k) x).2=0 then (z1t (mvW k) x).1 else mvW k
 rw [h,if_pos rfl]
theorem z0sr {k:Nat} {x:Happening} {w z:Wld} {e:Int} (hx:mvS[k]? = some x) (hw:w=mvW k) (he:e≠0) (h:z1t w x=(z,e)):w=mvW (k+1):=by
 subst hw;rw [mvW,hx]
 show mvW k=if (z1t (mvW k) x).2=0 then (z1t (mvW k) x).1 else mvW k
 rw [h,if_neg he]
attribute [local irreducible] z0i spD z0p zd zj zg z1q z0k z13 z1k z0a z0o mvW zqn
attribute [local irreducible] den denX z0x z1c
theorem z0pm {net:List Message} {m:Message} (h:MsgFit m) (hn:∀ m ∈ net,MsgFit m):∀ x ∈ z38 net m,MsgFit x:=by
 unfold z38
 split
 ·intro x hx
  rcases zY0w.1 hx with hx|hx
  ·exact hn x hx
  ·rw [zY0y.1 hx];exact h
 ·exact hn
theorem zoa {src:Int} {f:Int→Message} (hf:∀ k,MsgFit (f k)):∀ (r:List Node) (k:Nat) (net:List Message),(∀ m ∈ net,MsgFit m)→∀ x ∈ z47 src f k r net,MsgFit x
 | [],_,_,h=>h
 | _::r,k,net,h=>by
  rw [z47]
  split
  ·exact zoa hf r _ _ (z0pm (hf _) h)
  ·exact zoa hf r _ _ h
theorem z0lz:z1q (z3o 1).1=0∧z1q (z3o 2).1=0∧z1q (z3o 3).1=0∧z1q (z3o 4).1=0:=by decide +kernel
theorem z0uq {n:Int} (h:(z3o n).2=0):WldOK (z3o n).1∧(z3o n).1.net=[]:=by
 by_cases h1:n<1
 ·unfold z3o at h;rw [if_pos h1] at h;exact absurd h (by show ¬ (3:Int)=0;decide)
 by_cases h2:n > 4
 ·unfold z3o at h;rw [if_neg h1,if_pos h2] at h;exact absurd h (by show ¬ (3:Int)=0;decide)
 have h4:n=1∨n=2∨n=3∨n=4:=by omega
 obtain ⟨c1,c2,c3,c4⟩:=z0lz;rcases h4 with rfl|rfl|rfl|rfl
 ·exact ⟨zf5 c1,rfl⟩
 ·exact ⟨zf5 c2,rfl⟩
 ·exact ⟨zf5 c3,rfl⟩
 ·exact ⟨zf5 c4,rfl⟩
theorem dqH {sp:Nat→z7} {N:Nat} {E E':Env} {ks:List (List Dt→Option (List Dt))} {res:Option (List Dt)} {k:T} {ds:List Dt} {xs:List X} (hk:den sp N k E' ks=res) (h:z0x sp E xs=some ds) (hE:E++ds=E':=by (simp only [zbq,zY1a,zY0z];try exact rfl)):den sp N (.lets xs [] k) E ks=res:=z89 h hk hE
noncomputable def zcq:z7:=spD (fun x:Int × List Happening=>x=(2,mvS)) fun x=>z53 x.1 x.2
theorem z05m:zcq [I 2,.l 9 (mvS.map zbq)]=some [.l 1 ((z53 2 mvS).1.book.texts.map z05),.l 4 ((z53 2 mvS).1.nodes.map z17),.l 12 ((z53 2 mvS).1.net.map z1p),.l 1 ((z53 2 mvS).2.1.map zf),I (z53 2 mvS).2.2]:=za (f:=fun x:Int × List Happening=>z53 x.1 x.2) (2,mvS) rfl
def z0m0:T :=
 .lets [.mk 1 [[zI 5]]] [] (.lets [.app 1 10 30] [] (.lets [.bin .add 11 (zI 1)] [] (.again 0 [31,32,12,13,14])))
def zvh:T :=
 .lets [.mk 1 [[zI 5]]] [] (.lets [.app 1 10 32] [] (.lets [.bin .add 11 (zI 1)] [] (.again 0 [33,34,12,13,14])))
def z0m1:T :=
 .ite 49 (.lets [.mk 1 [[47]]] [] (.lets [.app 1 10 50] [] (.lets [.bin .add 11 (zI 1)] [] (.again 0 [51,52,25,26,27])))) (.lets
 [.mk 1 [[47]]] [] (.lets [.app 1 10 50] [] (.lets [.bin .add 11 (zI 1)] [] (.again 0 [51,52,12,13,14]))))
def z0m2:T :=
 .lets [.app 12 51 81] [] (.lets [.bin .add 52 (zI 1)] [] (.again 1 [82,83,53,54,52,56,57,58,59,60,61,62,.v
 63,64]))
def z0m3:T :=
 .lets [.call 106 [53,54,52,56,57,58,59,60,61,62,63,64] 0,.call 106 [53,54,52,56,57,58,59,60,61,.v
 62,63,64] 1,.call 106 [53,54,52,56,57,58,59,60,61,62,63,64] 2,.call 106 [53,54,52,56,57,58,59,.v
 60,61,62,63,64] 3,.call 106 [53,54,52,56,57,58,59,60,61,62,63,64] 4,.call 106 [53,54,52,56,57,.v
 58,59,60,61,62,63,64] 5,.call 106 [53,54,52,56,57,58,59,60,61,62,63,64] 6,.call 106 [53,54,52,.v
 56,57,58,59,60,61,62,63,64] 7,.call 106 [53,54,52,56,57,58,59,60,61,62,63,64] 8,.call 106 [53,.v
 54,52,56,57,58,59,60,61,62,63,64] 9,.call 106 [53,54,52,56,57,58,59,60,61,62,63,64] 10,.call
 106 [53,54,52,56,57,58,59,60,61,62,63,64] 11] [] (.lets [.mk 12 [[69,70,71,72,73,74,75,76,77,.v
 78,79,80]]] [] z0m2)
def z0m4:T :=
 .ite 68 z0m3 (.lets [.bin .add 52 (zI 1)] [] (.again 1 [51,69,53,54,52,56,57,58,59,60,61,62,63,64]))
def z0m5:T :=
 .ite 66 (.lets [.len 51] [] (.lets [.bin .lss 67 (zI 20)] [] z0m4)) (.lets [.bin .add 52 (zI 1)] [] (.again 1 [51,67,53,.v
 54,55,56,57,58,59,60,61,62,63,64]))
def z0m6:T :=
 .lets [.mk 1 [[zI 0]]] [] (.lets [.app 1 10 66] [] (.lets [.bin .add 11 (zI 1)] [] (.again 0 [67,68,37,49,51])))
def z0m7:T :=
 .loop [27,zI 0,zI 1,17,zI 0,zI 0,42,43,44,45,46,zI 0,.c (.nil 3),.c (.nil 2)] (.lets [.bin .lss
 52 50] [] (.ite 65 (.lets [.bin .neq 52 54] [] z0m5) z0m6))
def z0m8:T :=
 .ite 48 (.lets [.bin .eql 47 (zI 0)] [] z0m1) (.lets [] [.inr 4 26 17] (.lets [.set 26 17 0 [38,39,40,41]] [] (.lets
 [.len 49] [] z0m7)))
def z0e3:T :=
 .lets [.call 89 [25,32,33,34,35,20,19,36] 0,.call 89 [25,32,33,34,35,20,19,36] 1,.call 89 [25,32,33,.v
 34,35,20,19,36] 2,.call 89 [25,32,33,34,35,20,19,36] 3,.call 89 [25,32,33,34,35,20,19,36] 4,.call 89
 [25,32,33,34,35,20,19,36] 5,.call 89 [25,32,33,34,35,20,19,36] 6,.call 89 [25,32,33,34,35,20,
 .v 19,36] 7,.call 89 [25,32,33,34,35,20,19,36] 8,.call 89 [25,32,33,34,35,20,19,36] 9,.call 89 [25,32,.v
 33,34,35,20,19,36] 10] [] (.lets [.bin .neq 47 (zI 0)] [] z0m8)
def z0e4:T :=
 .lets [.idx 26 17 0,.idx 26 17 1,.idx 26 17 2,.idx 26 17 3] [] (.lets [.mk 2 [[zI 1,21],[zI 7,zI 0]]]
 [] z0e3)
def z0e5:T :=
 .lets [.bin .lss 17 (zI 0)] [] (.ite 29 z0m0 (.lets [.len 26] [] (.lets [.bin .geq 17 30] [] (.ite 31 zvh (.lets [] [.inr 4 (.v
 26) 17] z0e4)))))
def z0e6:T :=
 .lets [.mk 1 [[zI 5]]] [] (.lets [.app 1 10 31] [] (.lets [.bin .add 11 (zI 1)] [] (.again 0 [32,33,12,13,14])))
def zqo:T :=
 .lets [.mk 1 [[zI 5]]] [] (.lets [.app 1 10 33] [] (.lets [.bin .add 11 (zI 1)] [] (.again 0 [34,35,12,13,14])))
def z0e7:T :=
 .ite 44 (.lets [.mk 1 [[42]]] [] (.lets [.app 1 10 45] [] (.lets [.bin .add 11 (zI 1)] [] (.again 0 [46,47,25,26,27])))) (.lets
 [.mk 1 [[42]]] [] (.lets [.app 1 10 45] [] (.lets [.bin .add 11 (zI 1)] [] (.again 0 [46,47,12,13,14]))))
def z0e8:T :=
 .lets [.app 12 46 76] [] (.lets [.bin .add 47 (zI 1)] [] (.again 1 [77,78,48,49,47,51,52,53,54,55,56,57,.v
 58,59]))
def z0e9:T :=
 .lets [.call 106 [48,49,47,51,52,53,54,55,56,57,58,59] 0,.call 106 [48,49,47,51,52,53,54,55,56,.v
 57,58,59] 1,.call 106 [48,49,47,51,52,53,54,55,56,57,58,59] 2,.call 106 [48,49,47,51,52,53,54,.v
 55,56,57,58,59] 3,.call 106 [48,49,47,51,52,53,54,55,56,57,58,59] 4,.call 106 [48,49,47,51,52,.v
 53,54,55,56,57,58,59] 5,.call 106 [48,49,47,51,52,53,54,55,56,57,58,59] 6,.call 106 [48,49,47,.v
 51,52,53,54,55,56,57,58,59] 7,.call 106 [48,49,47,51,52,53,54,55,56,57,58,59] 8,.call 106 [48,.v
 49,47,51,52,53,54,55,56,57,58,59] 9,.call 106 [48,49,47,51,52,53,54,55,56,57,58,59] 10,.call
 106 [48,49,47,51,52,53,54,55,56,57,58,59] 11] [] (.lets [.mk 12 [[64,65,66,67,68,69,70,71,72,.v
 73,74,75]]] [] z0e8)
def z0ea:T :=
 .ite 63 z0e9 (.lets [.bin .add 47 (zI 1)] [] (.again 1 [46,64,48,49,47,51,52,53,54,55,56,57,58,59]))
def z0eb:T :=
 .ite 61 (.lets [.len 46] [] (.lets [.bin .lss 62 (zI 20)] [] z0ea)) (.lets [.bin .add 47 (zI 1)] [] (.again 1 [46,62,48,.v
 49,50,51,52,53,54,55,56,57,58,59]))
def z0ec:T :=
 .lets [.mk 1 [[zI 0]]] [] (.lets [.app 1 10 61] [] (.lets [.bin .add 11 (zI 1)] [] (.again 0 [62,63,37,44,46])))
def z0ed:T :=
 .loop [27,zI 0,zI 3,17,zI 0,zI 0,zI 0,zI 0,zI 0,zI 0,.c (.nil 3),22,23,.v
 24] (.lets [.bin .lss 47 45] [] (.ite 60 (.lets [.bin .neq 47 49] [] z0eb) z0ec))
def z0ee:T :=
 .ite 43 (.lets [.bin .eql 42 (zI 0)] [] z0e7) (.lets [] [.inr 4 26 17] (.lets [.set 26 17 0 [38,39,40,41]] [] (.lets
 [.len 44] [] z0ed)))
def z0ef:T :=
 .lets [.call 88 [25,33,34,35,36,22,23,24] 0,.call 88 [25,33,34,35,36,22,23,24] 1,.call 88 [25,33,34,.v
 35,36,22,23,24] 2,.call 88 [25,33,34,35,36,22,23,24] 3,.call 88 [25,33,34,35,36,22,23,24] 4,.call 88
 [25,33,34,35,36,22,23,24] 5] [] (.lets [.bin .neq 42 (zI 0)] [] z0ee)
def z0eg:T :=
 .ite 32 zqo (.lets [] [.inr 4 26 17] (.lets [.idx 26 17 0,.idx 26 17 1,.idx 26 17 2,.idx 26 17 3] [] z0ef))
def zqp:T :=
 .lets [.mk 1 [[zI 5]]] [] (.lets [.app 1 10 34] [] (.lets [.bin .add 11 (zI 1)] [] (.again 0 [35,36,12,13,14])))
def z0eh:T :=
 .lets [.mk 1 [[zI 0]]] [] (.lets [.app 1 10 39] [] (.lets [.bin .add 11 (zI 1)] [] (.again 0 [40,41,25,38,27])))
def z0ei:T :=
 .lets [.idx 26 17 0,.idx 26 17 1,.idx 26 17 2,.idx 26 17 3] [] (.lets [] [.inr 4 26 17] (.lets [.set 26 17 2 [.c (.nil
 3)]] [] z0eh))
def z0ej:T :=
 .lets [.bin .lss 17 (zI 0)] [] (.ite 31 zvh (.lets [.len 26] [] (.lets [.bin .geq 17 32] [] (.ite 33 zqp (.lets [] [.inr 4 (.v
 26) 17] z0ei)))))
def zqq:T :=
 .lets [.mk 1 [[zI 5]]] [] (.lets [.app 1 10 35] [] (.lets [.bin .add 11 (zI 1)] [] (.again 0 [36,37,12,13,14])))
def ziw:T :=
 .lets [.mk 1 [[zI 5]]] [] (.lets [.app 1 10 36] [] (.lets [.bin .add 11 (zI 1)] [] (.again 0 [37,38,12,13,14])))
def zqr:T :=
 .lets [.mk 1 [[zI 5]]] [] (.lets [.app 1 10 38] [] (.lets [.bin .add 11 (zI 1)] [] (.again 0 [39,40,12,13,14])))
def z0ek:T :=
 .lets [.mk 1 [[zI 6]]] [] (.lets [.app 1 10 39] [] (.lets [.bin .add 11 (zI 1)] [] (.again 0 [40,41,12,13,14])))
def zqs:T :=
 .lets [.mk 1 [[zI 12]]] [] (.lets [.app 1 10 41] [] (.lets [.bin .add 11 (zI 1)] [] (.again 0 [42,43,12,13,14])))
def z0el:T :=
 .ite 51 (.lets [.mk 1 [[49]]] [] (.lets [.app 1 10 52] [] (.lets [.bin .add 11 (zI 1)] [] (.again 0 [53,54,25,26,27])))) (.lets
 [.mk 1 [[49]]] [] (.lets [.app 1 10 52] [] (.lets [.bin .add 11 (zI 1)] [] (.again 0 [53,54,12,13,14]))))
def z0em:T :=
 .lets [.mk 1 [[zI 0]]] [] (.lets [.app 1 10 67] [] (.lets [.bin .add 11 (zI 1)] [] (.again 0 [68,69,25,26,66])))
def z0en:T :=
 .lets [.call 106 [zI 1,17,18,zI 0,44,45,46,47,48,zI 0,.c (.nil 3),.c (.nil 2)] 0,.call 106 [zI 1,17,.v
 18,zI 0,44,45,46,47,48,zI 0,.c (.nil 3),.c (.nil 2)] 1,.call 106 [zI 1,17,18,zI 0,44,45,46,.v
 47,48,zI 0,.c (.nil 3),.c (.nil 2)] 2,.call 106 [zI 1,17,18,zI 0,44,45,46,47,48,zI 0,.c (.nil 3),.c
 (.nil 2)] 3,.call 106 [zI 1,17,18,zI 0,44,45,46,47,48,zI 0,.c (.nil 3),.c (.nil 2)] 4,.call 106 [zI 1,.v
 17,18,zI 0,44,45,46,47,48,zI 0,.c (.nil 3),.c (.nil 2)] 5,.call 106 [zI 1,17,18,zI 0,44,45,.v
 46,47,48,zI 0,.c (.nil 3),.c (.nil 2)] 6,.call 106 [zI 1,17,18,zI 0,44,45,46,47,48,zI 0,.c (.nil
 3),.c (.nil 2)] 7,.call 106 [zI 1,17,18,zI 0,44,45,46,47,48,zI 0,.c (.nil 3),.c (.nil 2)] 8,.call 106 [.c (.i .i64
 1),17,18,zI 0,44,45,46,47,48,zI 0,.c (.nil 3),.c (.nil 2)] 9,.call 106 [zI 1,17,18,zI 0,44,.v
 45,46,47,48,zI 0,.c (.nil 3),.c (.nil 2)] 10,.call 106 [zI 1,17,18,zI 0,44,45,46,47,48,zI 0,.c
 (.nil 3),.c (.nil 2)] 11] [] (.lets [.mk 12 [[53,54,55,56,57,58,59,60,61,62,63,64]]] [] (.lets [.app 12 27 65] []
 z0em))
def z0eo:T :=
 .lets [.mk 1 [[zI 0]]] [] (.lets [.app 1 10 53] [] (.lets [.bin .add 11 (zI 1)] [] (.again 0 [54,55,25,26,27])))
def z0ep:T :=
 .ite 50 (.lets [.bin .eql 49 (zI 0)] [] z0el) (.lets [.len 27] [] (.lets [.bin .lss 51 (zI 20)] [] (.ite 52 z0en
 z0eo)))
def z0eq:T :=
 .lets [.call 65 [41,42,43] 0,.call 65 [41,42,43] 1,.call 65 [41,42,43] 2,.call 65 [41,42,43] 3,.call 65 [41,42,43] 4,
 .call 65 [41,42,43] 5] [] (.lets [.bin .neq 49 (zI 0)] [] z0ep)
def z0er:T :=
 .lets [] [.inr 4 26 17] (.lets [.idx 26 17 0,.idx 26 17 1] [] (.lets [] [.inr 4 26 17] (.lets [.idx 26 17 3] [] z0eq)))
def z0es:T :=
 .lets [.bin .eql 18 17] [] (.ite 38 z0ek (.lets [.len 27] [] (.lets [.bin .eql 39 (zI 20)] [] (.ite 40 zqs z0er))))
def z0et:T :=
 .lets [.bin .lss 18 (zI 0)] [] (.ite 35 ziw (.lets [.len 26] [] (.lets [.bin .geq 18 36] [] (.ite 37 zqr z0es))))
def z0eu:T :=
 .lets [.bin .lss 17 (zI 0)] [] (.ite 32 zqo (.lets [.len 26] [] (.lets [.bin .geq 17 33] [] (.ite 34 zqq z0et))))
def zix:T :=
 .lets [.mk 1 [[zI 5]]] [] (.lets [.app 1 10 37] [] (.lets [.bin .add 11 (zI 1)] [] (.again 0 [38,39,12,13,14])))
def zqt:T :=
 .lets [.mk 1 [[zI 5]]] [] (.lets [.app 1 10 39] [] (.lets [.bin .add 11 (zI 1)] [] (.again 0 [40,41,12,13,14])))
def z0ev:T :=
 .lets [.mk 1 [[zI 6]]] [] (.lets [.app 1 10 40] [] (.lets [.bin .add 11 (zI 1)] [] (.again 0 [41,42,12,13,14])))
def z0ew:T :=
 .lets [.mk 1 [[zI 12]]] [] (.lets [.app 1 10 42] [] (.lets [.bin .add 11 (zI 1)] [] (.again 0 [43,44,12,13,14])))
def z0ex:T :=
 .lets [.mk 1 [[zI 3]]] [] (.lets [.app 1 10 43] [] (.lets [.bin .add 11 (zI 1)] [] (.again 0 [44,45,12,13,14])))
def z0ey:T :=
 .lets [.mk 1 [[zI 3]]] [] (.lets [.app 1 10 44] [] (.lets [.bin .add 11 (zI 1)] [] (.again 0 [45,46,12,13,14])))
def z0ez:T :=
 .lets [.mk 1 [[zI 0]]] [] (.lets [.app 1 10 60] [] (.lets [.bin .add 11 (zI 1)] [] (.again 0 [61,62,25,26,59])))
def z0f0:T :=
 .lets [.call 106 [zI 2,17,18,19,zI 0,zI 0,zI 0,zI 0,.c (.nil 3),zI 0,.c (.nil 3),.c (.nil 2)] 0,
 .call 106 [zI 2,17,18,19,zI 0,zI 0,zI 0,zI 0,.c (.nil 3),zI 0,.c (.nil 3),.c (.nil 2)] 1,.call 106
 [zI 2,17,18,19,zI 0,zI 0,zI 0,zI 0,.c (.nil 3),zI 0,.c (.nil 3),.c (.nil 2)] 2,.call 106 [.c (.i
 .i64 2),17,18,19,zI 0,zI 0,zI 0,zI 0,.c (.nil 3),zI 0,.c (.nil 3),.c (.nil 2)] 3,.call 106 [zI 2,.v
 17,18,19,zI 0,zI 0,zI 0,zI 0,.c (.nil 3),zI 0,.c (.nil 3),.c (.nil 2)] 4,.call 106 [zI 2,17,18,
 .v 19,zI 0,zI 0,zI 0,zI 0,.c (.nil 3),zI 0,.c (.nil 3),.c (.nil 2)] 5,.call 106 [zI 2,17,18,19,.c
 (.i .i64 0),zI 0,zI 0,zI 0,.c (.nil 3),zI 0,.c (.nil 3),.c (.nil 2)] 6,.call 106 [zI 2,17,18,19,.c (.i .i64
 0),zI 0,zI 0,zI 0,.c (.nil 3),zI 0,.c (.nil 3),.c (.nil 2)] 7,.call 106 [zI 2,17,18,19,zI 0,.c (.i
 .i64 0),zI 0,zI 0,.c (.nil 3),zI 0,.c (.nil 3),.c (.nil 2)] 8,.call 106 [zI 2,17,18,19,zI 0,zI 0,.c
 (.i .i64 0),zI 0,.c (.nil 3),zI 0,.c (.nil 3),.c (.nil 2)] 9,.call 106 [zI 2,17,18,19,zI 0,zI 0,.c (.i .i64
 0),zI 0,.c (.nil 3),zI 0,.c (.nil 3),.c (.nil 2)] 10,.call 106 [zI 2,17,18,19,zI 0,zI 0,zI 0,.c (.i
 .i64 0),.c (.nil 3),zI 0,.c (.nil 3),.c (.nil 2)] 11] [] (.lets [.mk 12 [[46,47,48,49,50,51,52,53,54,55,56,57]]] []
 (.lets [.app 12 27 58] [] z0ez))
def z0f1:T :=
 .lets [.mk 1 [[zI 0]]] [] (.lets [.app 1 10 46] [] (.lets [.bin .add 11 (zI 1)] [] (.again 0 [47,48,25,26,27])))
def z0f2:T :=
 .lets [.bin .gtr 19 (zI 120)] [] (.ite 43 z0ey (.lets [.len 27] [] (.lets [.bin .lss 44 (zI 20)] [] (.ite 45 z0f0
 z0f1))))
def z0f3:T :=
 .lets [.len 27] [] (.lets [.bin .eql 40 (zI 20)] [] (.ite 41 z0ew (.lets [.bin .lss 19 (zI 1)] [] (.ite 42 z0ex
 z0f2))))
def z0f4:T :=
 .lets [.len 26] [] (.lets [.bin .geq 18 37] [] (.ite 38 zqt (.lets [.bin .eql 18 17] [] (.ite 39 z0ev z0f3))))
def z0f5:T :=
 .lets [.len 26] [] (.lets [.bin .geq 17 34] [] (.ite 35 ziw (.lets [.bin .lss 18 (zI 0)] [] (.ite 36 zix z0f4))))
def z0f6:T :=
 .lets [.mk 1 [[zI 0]]] [] (.lets [.app 1 10 65] [] (.lets [.bin .add 11 (zI 1)] [] (.again 0 [66,67,56,64,50])))
def z0f7:T :=
 .lets [.mk 1 [[zI 0]]] [] (.lets [.app 1 10 81] [] (.lets [.bin .add 11 (zI 1)] [] (.again 0 [82,83,25,26,80])))
def z0f8:T :=
 .lets [.call 106 [zI 2,39,38,41,zI 0,zI 0,zI 0,zI 0,.c (.nil 3),zI 0,.c (.nil 3),.c (.nil 2)] 0,
 .call 106 [zI 2,39,38,41,zI 0,zI 0,zI 0,zI 0,.c (.nil 3),zI 0,.c (.nil 3),.c (.nil 2)] 1,.call 106
 [zI 2,39,38,41,zI 0,zI 0,zI 0,zI 0,.c (.nil 3),zI 0,.c (.nil 3),.c (.nil 2)] 2,.call 106 [.c (.i
 .i64 2),39,38,41,zI 0,zI 0,zI 0,zI 0,.c (.nil 3),zI 0,.c (.nil 3),.c (.nil 2)] 3,.call 106 [zI 2,.v
 39,38,41,zI 0,zI 0,zI 0,zI 0,.c (.nil 3),zI 0,.c (.nil 3),.c (.nil 2)] 4,.call 106 [zI 2,39,38,
 .v 41,zI 0,zI 0,zI 0,zI 0,.c (.nil 3),zI 0,.c (.nil 3),.c (.nil 2)] 5,.call 106 [zI 2,39,38,41,.c
 (.i .i64 0),zI 0,zI 0,zI 0,.c (.nil 3),zI 0,.c (.nil 3),.c (.nil 2)] 6,.call 106 [zI 2,39,38,41,.c (.i .i64
 0),zI 0,zI 0,zI 0,.c (.nil 3),zI 0,.c (.nil 3),.c (.nil 2)] 7,.call 106 [zI 2,39,38,41,zI 0,.c (.i
 .i64 0),zI 0,zI 0,.c (.nil 3),zI 0,.c (.nil 3),.c (.nil 2)] 8,.call 106 [zI 2,39,38,41,zI 0,zI 0,.c
 (.i .i64 0),zI 0,.c (.nil 3),zI 0,.c (.nil 3),.c (.nil 2)] 9,.call 106 [zI 2,39,38,41,zI 0,zI 0,.c (.i .i64
 0),zI 0,.c (.nil 3),zI 0,.c (.nil 3),.c (.nil 2)] 10,.call 106 [zI 2,39,38,41,zI 0,zI 0,zI 0,.c (.i
 .i64 0),.c (.nil 3),zI 0,.c (.nil 3),.c (.nil 2)] 11] [] (.lets [.mk 12 [[67,68,69,70,71,72,73,74,75,76,77,78]]] []
 (.lets [.app 12 50 79] [] z0f7))
def z0f9:T :=
 .lets [.mk 1 [[zI 0]]] [] (.lets [.app 1 10 67] [] (.lets [.bin .add 11 (zI 1)] [] (.again 0 [68,69,25,26,50])))
def zqu:T :=
 .lets [.mk 1 [[zI 0]]] [] (.lets [.app 1 10 65] [] (.lets [.bin .add 11 (zI 1)] [] (.again 0 [66,67,25,26,50])))
def z0fa:T :=
 .lets [.bin .eql 62 (zI 5)] [] (.ite 64 (.lets [.len 50] [] (.lets [.bin .lss 65 (zI 20)] [] (.ite 66 z0f8 z0f9)))
 zqu)
def z0fb:T :=
 .lets [.bin .eql 62 (zI 0)] [] (.ite 63 (.lets [] [.inr 4 26 39] (.lets [.set 26 39 0 [57,58,59,60]] [] z0f6))
 z0fa)
def z0fc:T :=
 .lets [.call 87 [25,52,53,54,55,41,42,43,44,45] 0,.call 87 [25,52,53,54,55,41,42,43,44,45] 1,.call 87
 [25,52,53,54,55,41,42,43,44,45] 2,.call 87 [25,52,53,54,55,41,42,43,44,45] 3,.call 87 [25,52,
 .v 53,54,55,41,42,43,44,45] 4,.call 87 [25,52,53,54,55,41,42,43,44,45] 5,.call 87 [25,52,53,54,
 .v 55,41,42,43,44,45] 6] [] z0fb
def z0fd:T :=
 .lets [.mk 1 [[zI 0]]] [] (.lets [.app 1 10 62] [] (.lets [.bin .add 11 (zI 1)] [] (.again 0 [63,64,25,26,50])))
def z0fe:T :=
 .lets [.mk 1 [[zI 0]]] [] (.lets [.app 1 10 78] [] (.lets [.bin .add 11 (zI 1)] [] (.again 0 [79,80,25,26,77])))
def z0ff:T :=
 .lets [.call 106 [zI 1,39,38,zI 0,55,56,57,58,59,zI 0,.c (.nil 3),.c (.nil 2)] 0,.call 106 [zI 1,39,.v
 38,zI 0,55,56,57,58,59,zI 0,.c (.nil 3),.c (.nil 2)] 1,.call 106 [zI 1,39,38,zI 0,55,56,57,.v
 58,59,zI 0,.c (.nil 3),.c (.nil 2)] 2,.call 106 [zI 1,39,38,zI 0,55,56,57,58,59,zI 0,.c (.nil 3),.c
 (.nil 2)] 3,.call 106 [zI 1,39,38,zI 0,55,56,57,58,59,zI 0,.c (.nil 3),.c (.nil 2)] 4,.call 106 [zI 1,.v
 39,38,zI 0,55,56,57,58,59,zI 0,.c (.nil 3),.c (.nil 2)] 5,.call 106 [zI 1,39,38,zI 0,55,56,.v
 57,58,59,zI 0,.c (.nil 3),.c (.nil 2)] 6,.call 106 [zI 1,39,38,zI 0,55,56,57,58,59,zI 0,.c (.nil
 3),.c (.nil 2)] 7,.call 106 [zI 1,39,38,zI 0,55,56,57,58,59,zI 0,.c (.nil 3),.c (.nil 2)] 8,.call 106 [.c (.i .i64
 1),39,38,zI 0,55,56,57,58,59,zI 0,.c (.nil 3),.c (.nil 2)] 9,.call 106 [zI 1,39,38,zI 0,55,.v
 56,57,58,59,zI 0,.c (.nil 3),.c (.nil 2)] 10,.call 106 [zI 1,39,38,zI 0,55,56,57,58,59,zI 0,.c
 (.nil 3),.c (.nil 2)] 11] [] (.lets [.mk 12 [[64,65,66,67,68,69,70,71,72,73,74,75]]] [] (.lets [.app 12 50 76] []
 z0fe))
def z0fg:T :=
 .lets [.mk 1 [[zI 0]]] [] (.lets [.app 1 10 64] [] (.lets [.bin .add 11 (zI 1)] [] (.again 0 [65,66,25,26,50])))
def z0fh:T :=
 .lets [.bin .neq 60 (zI 0)] [] (.ite 61 z0fd (.lets [.len 50] [] (.lets [.bin .lss 62 (zI 20)] [] (.ite 63 z0ff
 z0fg))))
def z0fi:T :=
 .lets [.call 65 [53,54,40] 0,.call 65 [53,54,40] 1,.call 65 [53,54,40] 2,.call 65 [53,54,40] 3,.call 65 [53,54,40] 4,
 .call 65 [53,54,40] 5] [] z0fh
def z0fj:T :=
 .lets [.mk 1 [[zI 0]]] [] (.lets [.app 1 10 66] [] (.lets [.bin .add 11 (zI 1)] [] (.again 0 [67,68,58,65,50])))
def z0fk:T :=
 .lets [.bin .neq 63 (zI 0)] [] (.ite 64 zqu (.lets [] [.inr 4 26 39] (.lets [.set 26 39 0 [59,60,61,62]] []
 z0fj)))
def z0fl:T :=
 .lets [.call 88 [25,54,55,56,57,46,47,48] 0,.call 88 [25,54,55,56,57,46,47,48] 1,.call 88 [25,54,55,.v
 56,57,46,47,48] 2,.call 88 [25,54,55,56,57,46,47,48] 3,.call 88 [25,54,55,56,57,46,47,48] 4,.call 88
 [25,54,55,56,57,46,47,48] 5] [] z0fk
def z0fm:T :=
 .lets [.mk 1 [[zI 0]]] [] (.lets [.app 1 10 54] [] (.lets [.bin .add 11 (zI 1)] [] (.again 0 [55,56,25,26,50])))
def z0fn:T :=
 .ite 53 (.lets [] [.inr 4 26 39] (.lets [.idx 26 39 0,.idx 26 39 1,.idx 26 39 2,.idx 26 39 3] [] z0fl)) z0fm
def z0fo:T :=
 .ite 52 (.lets [] [.inr 4 26 39] (.lets [.idx 26 39 0,.idx 26 39 1] [] z0fi)) (.lets [.bin .eql 37 (zI 3)] [] z0fn)
def z0fp:T :=
 .ite 51 (.lets [] [.inr 4 26 39] (.lets [.idx 26 39 0,.idx 26 39 1,.idx 26 39 2,.idx 26 39 3] [] z0fc)) (.lets [.bin
 .eql 37 (zI 2)] [] z0fo)
def z0fq:T :=
 .lets [.idx 27 19 0,.idx 27 19 1,.idx 27 19 2,.idx 27 19 3,.idx 27 19 4,.idx 27 19 5,.idx 27 19 6,.idx
 27 19 7,.idx 27 19 8,.idx 27 19 9,.idx 27 19 10,.idx 27 19 11] [] (.lets [.bin .add 19 (zI 1)] [] (.lets [.call
 108 [27,19,49] 0] [] (.lets [.bin .eql 37 (zI 1)] [] z0fp)))
def z0fr:T :=
 .ite 34 zqq (.lets [.len 27] [] (.lets [.bin .geq 19 35] [] (.ite 36 zix (.lets [] [.inr 12 27 19] z0fq))))
def z0fs:T :=
 .lets [.mk 1 [[zI 0]]] [] (.lets [.app 1 10 40] [] (.lets [.bin .add 11 (zI 1)] [] (.again 0 [41,42,25,26,39])))
def z0ft:T :=
 .lets [.bin .geq 19 36] [] (.ite 37 zqr (.lets [.bin .add 19 (zI 1)] [] (.lets [.call 108 [27,19,38] 0] [] z0fs)))
def z0fu:T :=
 .lets [.mk 1 [[zI 0]]] [] (.lets [.app 1 10 69] [] (.lets [.bin .add 11 (zI 1)] [] (.again 0 [70,71,25,26,68])))
def z0fv:T :=
 .lets [.call 106 [41,42,43,44,45,46,47,48,49,50,51,52] 0,.call 106 [41,42,43,44,45,46,47,48,49,.v
 50,51,52] 1,.call 106 [41,42,43,44,45,46,47,48,49,50,51,52] 2,.call 106 [41,42,43,44,45,46,47,.v
 48,49,50,51,52] 3,.call 106 [41,42,43,44,45,46,47,48,49,50,51,52] 4,.call 106 [41,42,43,44,45,.v
 46,47,48,49,50,51,52] 5,.call 106 [41,42,43,44,45,46,47,48,49,50,51,52] 6,.call 106 [41,42,43,.v
 44,45,46,47,48,49,50,51,52] 7,.call 106 [41,42,43,44,45,46,47,48,49,50,51,52] 8,.call 106 [41,.v
 42,43,44,45,46,47,48,49,50,51,52] 9,.call 106 [41,42,43,44,45,46,47,48,49,50,51,52] 10,.call
 106 [41,42,43,44,45,46,47,48,49,50,51,52] 11] [] (.lets [.mk 12 [[55,56,57,58,59,60,61,62,63,.v
 64,65,66]]] [] (.lets [.app 12 27 67] [] z0fu))
def z0fw:T :=
 .lets [.mk 1 [[zI 0]]] [] (.lets [.app 1 10 55] [] (.lets [.bin .add 11 (zI 1)] [] (.again 0 [56,57,25,26,27])))
def z0fx:T :=
 .lets [.idx 27 19 0,.idx 27 19 1,.idx 27 19 2,.idx 27 19 3,.idx 27 19 4,.idx 27 19 5,.idx 27 19 6,.idx
 27 19 7,.idx 27 19 8,.idx 27 19 9,.idx 27 19 10,.idx 27 19 11] [] (.lets [.len 27] [] (.lets [.bin .lss 53 (.c (.i
 .i64 20))] [] (.ite 54 z0fv z0fw)))
def z0fy:T :=
 .ite 38 zqt (.lets [.len 27] [] (.lets [.bin .eql 39 (zI 20)] [] (.ite 40 zqs (.lets [] [.inr 12 27 19] z0fx))))
def z0fz:T :=
 .lets [.mk 1 [[zI 4]]] [] (.lets [.app 1 10 36] [] (.lets [.bin .add 11 (zI 1)] [] (.again 0 [37,38,12,13,14])))
def z0g0:T :=
 .ite 35 (.lets [.bin .lss 19 (zI 0)] [] (.ite 36 zix (.lets [.len 27] [] (.lets [.bin .geq 19 37] [] z0fy)))) z0fz
def z0g1:T :=
 .ite 34 (.lets [.bin .lss 19 (zI 0)] [] (.ite 35 ziw (.lets [.len 27] [] z0ft))) (.lets [.bin .eql 16 (zI 5)] []
 z0g0)
def z0g2:T :=
 .lets [.bin .eql 16 (zI 3)] [] (.ite 33 (.lets [.bin .lss 19 (zI 0)] [] z0fr) (.lets [.bin .eql 16 (zI 4)] [] z0g1))
def z0g3:T :=
 .ite 31 z0eu (.lets [.bin .eql 16 (zI 8)] [] (.ite 32 (.lets [.bin .lss 17 (zI 0)] [] (.ite 33 zqp z0f5))
 z0g2))
def z0g4:T :=
 .ite 29 (.lets [.bin .lss 17 (zI 0)] [] (.ite 30 z0e6 (.lets [.len 26] [] (.lets [.bin .geq 17 31] [] z0eg)))) (.lets [.bin .eql
 16 (zI 7)] [] (.ite 30 z0ej (.lets [.bin .eql 16 (zI 6)] [] z0g3)))
def z0g5:T :=
 .lets [.call 107 [12,13,14] 0,.call 107 [12,13,14] 1,.call 107 [12,13,14] 2] [] (.lets [.bin .eql 16 (zI 1)] [] (.ite 28
 z0e5 (.lets [.bin .eql 16 (zI 2)] [] z0g4)))
def z0g6:T :=
 .lets [.idx 1 11 0,.idx 1 11 1,.idx 1 11 2,.idx 1 11 3,.idx 1 11 4,.idx 1 11 5,.idx 1 11 6,.idx 1
 11 7,.idx 1 11 8] [] z0g5
def z0g7:T :=
 .loop [.c (.nil 1),zI 0,2,3,4] (.lets [.bin .lss 11 9] [] (.ite 15 (.lets [] [.inr 9 1 11] z0g6) (.ret [12,13,14,.v
 10,zI 0])))
def z0g8:T :=
 .lets [.bin .gtr 7 (zI 60)] [] (.ite 8 (.ret [.c (.nil 1),.c (.nil 4),.c (.nil 12),.c (.nil 1),zI 2]) (.lets [.len 1] [] z0g7))
def z0g9:T :=
 .lets [.bin .neq 5 (zI 0)] [] (.ite 6 (.ret [.c (.nil 1),.c (.nil 4),.c (.nil 12),.c (.nil 1),5]) (.lets [.len 1] [] z0g8))
def zte:T :=
 .lets [.call 103 [0] 0,.call 103 [0] 1,.call 103 [0] 2,.call 103 [0] 3] [] z0g9
attribute [local irreducible] z6z z6y z6a z4t z1z z42 z70 zf9
theorem z0pn:Meets Tryz.prog zcq 17 ⟨[.one,.one],[(true,[.pure,.pure,.pure]),(false,[.pure]),(false,[.scal])],false⟩:=by
 refine z4q (sp:=(zr [(65,z1z),(87,z4t),(88,z6a),(89,z6y),(103,zf9),(106,z42),(107,z70),(108,z6z)])) (sigs:=zy) (cut:=[39,9999,10016,10021,10026,10032,10033,10034,10039,10042,10043,10045]) (hints:=[⟨8,[.r 9 30 1,.t 29,.z 45,.z 26,.z 21,.z 16,.o 7]⟩]) (fns:=[z2k 34 Tryz.f34 [] [9999,10022,10039,10063,10069,10077],z2k 77 Tryz.f77 [] [9999,10016,10028,10055,10060,10064,10070],z2k 80 Tryz.f80 [] [9999,10007,10014,10015,10016,10017,10018],z2k 78 Tryz.f78 [] [9999,10009,10012,10017,10021],z2k 128 Tryz.f128 [] [9999,10013,10017,10021,10023,10024,10036,10039,10040],z2k 129 Tryz.f129 [] [9999,10011,10016,10019],z2k 130 Tryz.f130 [] [9999,10012,10016,10020,10022,10023,10034,10037,10038],z2k 81 Tryz.f81 [] [9999,10016,10020,10029,10030,10037,10038,10039,10040,10052,10055,10056,10072,10073,10075,10076,10087,10090,10091,10107],z2k 131 Tryz.f131 [⟨2,[.c 12 2 365,.t 10,.z 8,.o 255]⟩] [9999,10008]]) (dep:=4) (pool:=300) (fn:=Tryz.f17) (t:=zte) (by kernel_rfl) (by kernel_rfl) (by kernel_rfl) ?_ ?_ ?_
 ·exact (z07 (fn:=Tryz.f34) (by kernel_rfl) (by kernel_rfl) (by kernel_rfl) (by kernel_rfl) (by kernel_rfl) (z07 (fn:=Tryz.f77) (by kernel_rfl) (by kernel_rfl) (by kernel_rfl) (by kernel_rfl) (by kernel_rfl) (z07 (fn:=Tryz.f80) (by kernel_rfl) (by kernel_rfl) (by kernel_rfl) (by kernel_rfl) (by kernel_rfl) (z07 (fn:=Tryz.f78) (by kernel_rfl) (by kernel_rfl) (by kernel_rfl) (by kernel_rfl) (by kernel_rfl) (z07 (fn:=Tryz.f128) (by kernel_rfl) (by kernel_rfl) (by kernel_rfl) (by kernel_rfl) (by kernel_rfl) (z07 (fn:=Tryz.f129) (by kernel_rfl) (by kernel_rfl) (by kernel_rfl) (by kernel_rfl) (by kernel_rfl) (z07 (fn:=Tryz.f130) (by kernel_rfl) (by kernel_rfl) (by kernel_rfl) (by kernel_rfl) (by kernel_rfl) (z07 (fn:=Tryz.f81) (by kernel_rfl) (by kernel_rfl) (by kernel_rfl) (by kernel_rfl) (by kernel_rfl) (z07 (fn:=Tryz.f131) (by kernel_rfl) (by kernel_rfl) (by kernel_rfl) (by kernel_rfl) (by kernel_rfl) z5o)))))))))
 ·exact (zl (L:=[(65,z1z),(87,z4t),(88,z6a),(89,z6y),(103,zf9),(106,z42),(107,z70),(108,z6z)]) ⟨z5 rfl zc5,z5 rfl znr,z5 rfl zvc,z5 rfl z052,z5 rfl z0sn,z5 rfl ziu,z5 rfl z059,z5 rfl z055,trivial⟩)
 ·rintro ds rs - h
  obtain ⟨⟨n,s⟩,hdom,rfl,rfl⟩:=z9 h;clear h;obtain ⟨rfl,rfl⟩:=Prod.mk.inj hdom;clear hdom;refine ⟨⟨mvS.length+5,?_⟩,z10 ⟨rfl,trivial⟩⟩
  show den _ _ zte [I 2,.l 9 (mvS.map zbq)] []=ret (z53 2 mvS)
  have a1:=z098 2;have hnew:=@z0uq 2;have hw0:(z3o 2).1=mvW 0:=by rw [mvW]
  have hn2:(z3o 2).2=0:=rfl;obtain ⟨s,hs0⟩:∃ s,s=mvS:=⟨_,rfl⟩
  have hs4:s.length=4:=by rw [hs0];rfl
  rw [← hs0];unfold zte z53;generalize z3o 2=q at *;obtain ⟨w0,e⟩:=q;simp only at *;subst hn2;rw [if_neg (fun k=>k rfl)];have h60:¬ (s.length:Int) > 60:=by omega
  rw [if_neg h60];obtain ⟨W0,hn0⟩:=hnew rfl;clear hnew
  repeat' (first|refine dq1 ?_|refine dqK rfl (a1) ?_|refine dqF ?_|fail)
  (refine zm (fun (q:Wld × List Int) k=>[.l 1 (q.2.map zf),I k,.l 1 (q.1.book.texts.map z05),.l 4 (q.1.nodes.map z17),.l 12 (q.1.net.map z1p)]) (fun q _ (r:List Happening)=>(((z3q q.1 q.2 r).1,(z3q q.1 q.2 r).2,(0:Int)):Wld × List Int × Int)) (fun q k=>WldOK q.1∧(∀ m ∈ q.1.net,MsgFit m)∧q.2.length=k∧q.1=mvW k) (w0,[]) s ?_ ?_ ?_ ?_ ?_;rfl;exact ⟨W0,(by intro m hm;simp only [hn0] at hm;exact absurd hm (by simp)),rfl,hw0⟩;omega)
  ·rintro ⟨w,said⟩ k x r hx hd hkl ⟨W,hm,hl,hwk⟩ again hag
   simp only at W hm hl hag hwk ⊢;have hxm:mvS[k]? = some x:=by rw [← hs0];exact hx
   have hgood:zqn w x=true:=by rw [hwk];exact z0vi hxm
   have hon:=fun w'=>@z0vj k x w w' hxm hwk
   have hsame:=fun z e=>@z0sr k x w z e hxm hwk
   have hnx:∀ w',z1t w x=(w',0)→(∀ m ∈ w'.net,MsgFit m)→again [.l 1 ((said++[(0:Int)]).map zf),I ((k:Int)+1),.l 1 (w'.book.texts.map z05),.l 4 (w'.nodes.map z17),.l 12 (w'.net.map z1p)]=ret (((z3q w said (x::r)).1,(z3q w said (x::r)).2,(0:Int)):Wld × List Int × Int):=by
    intro w' h hf;rw [z3q,h];exact hag (w',said++[0]) ⟨(zl4 W h).ok,hf,by simp only [zY04,zY19];omega,hon _ h⟩
   have herr:∀ (z:Wld) (e:Int),e≠0→z1t w x=(z,e)→again [.l 1 ((said++[e]).map zf),I ((k:Int)+1),.l 1 (w.book.texts.map z05),.l 4 (w.nodes.map z17),.l 12 (w.net.map z1p)]=ret (((z3q w said (x::r)).1,(z3q w said (x::r)).2,(0:Int)):Wld × List Int × Int):=by
    intro z e he h;rw [z3q,h];simp only;rw [if_neg he];exact hag (w,said++[e]) ⟨W,hm,by simp only [zY04,zY19];omega,hsame _ _ he h⟩
   clear hag hon hsame hwk hxm;generalize (((z3q w said (x::r)).1,(z3q w said (x::r)).2,(0:Int)):Wld × List Int × Int)=fin at hnx herr ⊢;have a2:=zl0 w (W.fit hm);have hle:=W.le;have hnet:=W.net;have hx9:(s.map zbq)[k]? = some (zbq x):=by rw [zY0q,hx];rfl
   repeat' (first|refine dq1 ?_|refine dqc ?_|refine dqN ?_|refine dqK rfl (a2) ?_|refine dqT ?_|fail)
   simp only [zbq,zY1a,zY0z,zY1b];unfold zqn at hgood
   by_cases k1:x.kind=1
   ·rw [if_pos k1,zY0e] at hgood
    obtain ⟨hg1,hg2⟩:=hgood;have hg1:=of_decide_eq_true hg1;have hg2:=of_decide_eq_true hg2;rw [show z1t w x=z7b w x (zhe w x) from if_pos k1] at hnx herr;unfold z7b at hnx herr;have n1:¬ x.node<0:=by omega
    have n2:¬ x.node ≥ w.nodes.length:=by omega
    rw [if_neg n1,if_neg n2] at hnx herr;have hn:=z4g (l:=w.nodes) (i:=x.node) (by omega) (by omega);have a3:=zkw w.book (z0c w.nodes x.node) x.work x.k [⟨1,x.n⟩,⟨7,0⟩] (by simp);have hr:=fun y m b=>@zqk w.book (z0c w.nodes x.node) m x.work x.k [⟨1,x.n⟩,⟨7,0⟩] y b
    unfold zhe at hnx herr;generalize z0c w.nodes x.node=nd at *;generalize z1k w.book nd x.work x.k [⟨1,x.n⟩,⟨7,0⟩]=q at *;obtain ⟨y,m,b,e⟩:=q;simp only at *;subst hg2;have hb:=zta (hr y m b rfl);clear hr;rw [if_neg (fun k=>k rfl)] at hnx herr;have hs:=hnx _ rfl (zoa (fun _=>⟨hb,za9⟩) _ _ _ hm);clear hnx herr;dsimp only at hs
    repeat' (first|refine dq1 ?_|refine dqc ?_|refine dqN ?_|refine dqK rfl (a3) ?_|refine z6 (z1y (r:=[eOp ⟨1,x.n⟩,eOp ⟨7,0⟩]) rfl rfl (by simp)) ?_|refine z6 (zbs m hn (by omega) rfl rfl rfl) ?_|refine dqT ?_|refine dqF ?_|fail)
    generalize hT0:z47 x.node (fun k=>⟨1,x.node,k,0,b,zTx⟩) 0 (w.nodes.set x.node.toNat m) w.net=NET at hs
    (refine zm (fun (s:List Message × Int) k=>[.l 12 (s.1.map z1p),I k,I 1,I x.node,I s.2,I 0,I b.parent,I b.height,I b.work,I b.nonce,.l 3 (b.txs.map eTx),I 0,.l 3 [],.l 2 []]) (fun _ _ (_:List Node)=>fin) (fun s k=>s.1.length≤20∧z47 x.node (fun k=>⟨1,x.node,k,0,b,zTx⟩) k ((w.nodes.set x.node.toNat m).drop k) s.1=NET) (w.net,0) (w.nodes.set x.node.toNat m) ?_ ?_ ?_ ?_ ?_;rfl;exact ⟨hnet,hT0⟩;(rw [zY1d];omega))
    ·rintro ⟨net,to_⟩ j n' r' hx' hd' hkl' ⟨hI,hT⟩ again' hag'
     simp only at hI hT hag' ⊢;have hr':(w.nodes.set x.node.toNat m).drop (j+1)=r':=by rw [← List.tail_drop,hd'];rfl
     subst hr';rw [hd',z47] at hT;have hag1:=fun net' to' (h:net'.length≤20) h2=>hag' (net',to') ⟨h,h2⟩
     clear hag';have hkl2:=hkl';rw [zY1d] at hkl'
     by_cases h1:(j:Int)≠x.node
     ·rw [if_pos h1] at hT
      have hs1:=hag1 (z38 net ⟨1,x.node,j,0,b,zTx⟩) j (zo2 hI) hT;clear hag1 hT hs;unfold z38 at hs1;have a4:=z2o ⟨1,x.node,j,0,b,zTx⟩ ⟨hb,za9⟩
      by_cases h2:(net.length:Int)<20
      ·rw [if_pos h2] at hs1
       repeat' (first|refine dq1 ?_|refine dqK rfl (a4) ?_|refine z6 (z1y (r:=[z1p ⟨1,x.node,j,0,b,zTx⟩]) rfl rfl (by simp)) ?_|exact zb rfl (by kernel_rfl) hs1|refine dqT ?_|fail)
      ·rw [if_neg h2] at hs1
       repeat' (first|refine dq1 ?_|exact zb rfl (by kernel_rfl) hs1|refine dqT ?_|refine dqF ?_|fail)
     ·rw [if_neg h1] at hT
      have hs1:=hag1 net to_ hI hT;clear hag1 hT hs;have h1:(j:Int)=x.node:=by omega
      repeat' (first|refine dq1 ?_|exact zb rfl (by kernel_rfl) hs1|refine dqT ?_|refine dqF ?_|fail)
    ·rintro ⟨net,to_⟩ ⟨hI,hT⟩ again'
     simp only at hI hT ⊢;rw [zY1m,z47] at hT;rw [← hT] at hs;rw [zY1d]
     repeat' (first|refine dq1 ?_|exact zb rfl (by kernel_rfl) hs|refine dqF ?_|fail)
   rw [if_neg k1,zY0e] at hgood;obtain ⟨hg1,hg2⟩:=hgood;have hg1:=of_decide_eq_true hg1;obtain ⟨k3,hk0⟩:=hg1;rw [show z1t w x=z5u w x (z7t w (z2n w.net x.k) (z20 w.net x.k),0) from by unfold z1t;rw [k3];rfl] at hnx herr;unfold z5u at hnx herr;have n1:¬ x.k<0:=by omega
   by_cases n2:x.k ≥ w.net.length
   ·rw [if_neg n1,if_pos n2] at hnx herr;have hs:=herr _ _ (by decide) rfl;repeat' (first|refine dq1 ?_|exact zb rfl (by kernel_rfl) hs|refine dqT ?_|refine dqF ?_|fail)
   rw [decide_eq_false n2,zY2s,zY0e] at hg2;obtain ⟨j1,hg3⟩:=hg2;have j1:=of_decide_eq_true j1;have hg3:=of_decide_eq_true hg3;rw [if_neg n1,if_neg n2] at hnx herr;have hm1:=z9x (l:=w.net) (i:=x.k) (by omega) (by omega);have hmc:=z9k (W.msgs _ (zY07 hm1));have hmf:=hm _ (zY07 hm1);have ad:=zf6 w.net x.k (by omega) (by omega);have hdl:(z20 w.net x.k).length≤19:=by unfold z20;rw [zY04,zY0d,zY10];omega
   have hdm:∀ m ∈ z20 w.net x.k,MsgFit m:=fun m h=>hm m (zqm m h)
   generalize z2n w.net x.k=m at *;generalize z20 w.net x.k=net at *;obtain ⟨c1,c2,c3,c4,c5,c6,c7⟩:=hmc;have hn:=z4g (l:=w.nodes) (i:=m.to) (by omega) (by omega);unfold z7t at hnx herr;rw [if_pos j1] at hnx herr;have a3:=zf0 w.book (z0c w.nodes m.to) m.b;have a4:=z2o ⟨2,m.to,m.src,m.b.parent,z24,zTx⟩ ⟨zdr,za9⟩;unfold zcn at hnx herr;generalize z0c w.nodes m.to=nd at *;generalize z0k w.book nd m.b=q at *;obtain ⟨y,n',nm,e⟩:=q;simp only at *;rw [if_pos hg3] at hnx herr;have hs:=hnx _ rfl hdm;subst hg3;dsimp only at hs
   repeat' (first|refine dq1 ?_|refine dqc ?_|refine dqN ?_|refine dqk rfl (ad) ?_|refine dqK rfl (a3) ?_|refine z6 (zbs n' hn (by omega) rfl rfl rfl) ?_|exact zb rfl (by kernel_rfl) hs|refine dqT ?_|refine dqF ?_|refine z6l rfl ?_|fail)
  ·rintro ⟨w,said⟩ ⟨W,hm,hl,-⟩ again
   simp only at W hm hl ⊢;rw [z3q]
   repeat' (first|refine dq1 ?_|exact z4 rfl rfl|refine dqF ?_|fail)
end
section
open Go.RowKit
open Go.Lib (itoa)
set_option maxRecDepth 100000
set_option maxHeartbeats 4000000
attribute [local irreducible] z0i spD z53
attribute [local irreducible] den denX z0x z1c
noncomputable def z72:z7:=spD (fun _:Unit=>True) fun _=>true
theorem zl5:z72 []=some [.b true]:=za (f:=fun _:Unit=>true) () trivial
def z0ga:T :=
 .lets [.bin .eql 15 (zI 2)] [] (.ite 16 (.lets [.len 3] [] (.lets [.bin .eql 17 (zI 1)] [] (.ret [18]))) (.ret [.c (.b false)]))
def z0gb:T :=
 .lets [.bin .eql 12 (zI 1)] [] (.ite 13 (.lets [] [.inr 4 2 (zI 1)] (.lets [.idx 2 (zI 1) 0] [] (.lets [.len 14] []
 z0ga))) (.ret [.c (.b false)]))
def z0gc:T :=
 .lets [.bin .eql 9 (zI 2)] [] (.ite 10 (.lets [] [.inr 4 2 (zI 0)] (.lets [.idx 2 (zI 0) 0] [] (.lets [.len 11] []
 z0gb))) (.ret [.c (.b false)]))
def z0gd:T :=
 .lets [.mk 1 [[zI 0],[zI 0],[zI 5],[zI 0]]] [] (.lets [.call 117 [4,7] 0] [] (.ite 8 (.lets [.len 2] [] z0gc) (.ret
 [.c (.b false)])))
def z0ge:T :=
 .lets [.call 110 [zI 2,0] 0,.call 110 [zI 2,0] 1,.call 110 [zI 2,0] 2,.call 110 [zI 2,0] 3,.call 110 [zI 2,.v
 0] 4] [] (.lets [.bin .eql 5 (zI 0)] [] (.ite 6 z0gd (.ret [.c (.b false)])))
def zob:T :=
 .lets [.mk 9 [[zI 1,zI 0,zI 0,zI 0,zI 1,zI 0,zI 0,.c (.nil 3),.c (.nil 2)],[zI 3,.c (.i
 .i64 0),zI 0,zI 0,zI 0,zI 0,zI 0,.c (.nil 3),.c (.nil 2)],[zI 3,zI 0,zI 0,zI 0,
 .c (.i .i64 0),zI 0,zI 0,.c (.nil 3),.c (.nil 2)],[zI 1,zI 1,zI 0,zI 0,zI 1,zI 0,.c (.i
 .i64 0),.c (.nil 3),.c (.nil 2)]]] [] z0ge
attribute [local irreducible] zf8 zcq
theorem z05n:Meets Tryz.prog z72 7 ⟨[],[(false,[.scal])],true⟩:=by
 refine z8 (sp:=(zr [(110,zcq),(117,zf8)])) (sigs:=zy) (cut:=[]) (hints:=[]) (fn:=Tryz.f7) (t:=zob) (by kernel_rfl) (by kernel_rfl) (by kernel_rfl) ?_ ?_
 ·exact (zl (L:=[(110,zcq),(117,zf8)]) ⟨z5 rfl z0pn,z5 rfl z0sm,trivial⟩)
 ·rintro ds rs - h
  obtain ⟨⟨⟩,-,rfl,rfl⟩:=z9 h;clear h;refine ⟨⟨1,?_⟩,zq rfl⟩
  show den _ _ zob [] []=ret true
  have a1:=z05m;have a2:=z097 mv1.2.1 [0,0,5,0];obtain ⟨⟨h1,h2⟩,-,h3⟩:=mv_1;obtain ⟨n,m,h4,h5,h6⟩:=mv_2;rw [show z53 2 mvS=mv1 from rfl,h1,h4] at a1;rw [h2,decide_eq_true rfl] at a2;rw [h2] at a1;clear h1 h2;generalize mv1.1.net=net at *;generalize mv1.1.book.texts=k at *;have h30:(net.length:Int)=1:=by omega
  have h50:(n.t.names.length:Int)=1:=by omega
  have h60:(m.t.names.length:Int)=2:=by omega
  have g0:[n,m][0]? = some n:=rfl;have g1:[n,m][1]? = some m:=rfl;have hl:[n,m].length=2:=rfl;generalize [n,m]=l at *;have hll:(l.length:Int)=2:=by omega
  unfold zob
  repeat' (first|refine dq1 ?_|refine dqc ?_|refine dqK rfl (a1) ?_|refine dqk rfl (a2) ?_|refine z6 (z1y (r:=mvS.map zbq) rfl rfl (by simp [mvS])) ?_|refine z6 (z1y (r:=[0,0,5,0].map zf) rfl rfl (by simp)) ?_|refine dqT ?_|refine z6l rfl ?_|fail)
  all_goals (simp only [decide_eq_true h30];exact z4 rfl rfl)
end
section
open Go.RowKit
theorem z099:ShE zfe z1p:=by
 show ShE (z2p shInt (z2p shInt (z2p shInt (z2p shInt (z2p shBlock shTx Prod.mk) _) _) _) _) _
 exact z2x z1d (z2x (e:=fun q:Int × Int × Int × Block × Tx=>z1x zf (z1x zf (z1x zf (z1x zi eTx))) q) z1d (z2x (e:=fun q:Int × Int × Block × Tx=>z1x zf (z1x zf (z1x zi eTx)) q) z1d (z2x (e:=fun q:Int × Block × Tx=>z1x zf (z1x zi eTx) q) z1d (z9u she_block she_tx) (fun x=>⟨x.1,x.2,rfl⟩) (fun _ _=>rfl)) (fun x=>⟨x.1,x.2,rfl⟩) (fun _ _=>rfl)) (fun x=>⟨x.1,x.2,rfl⟩) (fun _ _=>rfl)) (fun x=>⟨x.kind,(x.src,x.to,x.name,x.b,x.t),rfl⟩) (fun a b=>rfl)
theorem she_wld:ShE shWld znw:=z2x (e0:=zaj) (e1:=z1x (eSl 4 z17) (eSl 12 z1p)) she_book (z9u (z4p z0om rfl) (z4p z099 rfl)) (fun x=>⟨x.book,(x.nodes,x.net),rfl⟩) (fun a b=>rfl)
theorem she_happening:ShE shHappening zbq:=by
 show ShE (z2p shInt (z2p shInt (z2p shInt (z2p shInt (z2p shInt (z2p shInt shTx Prod.mk) _) _) _) _) _) _
 exact z2x z1d (z2x (e:=fun q:Int × Int × Int × Int × Int × Tx=>z1x zf (z1x zf (z1x zf (z1x zf (z1x zf eTx)))) q) z1d (z2x (e:=fun q:Int × Int × Int × Int × Tx=>z1x zf (z1x zf (z1x zf (z1x zf eTx))) q) z1d (z2x (e:=fun q:Int × Int × Int × Tx=>z1x zf (z1x zf (z1x zf eTx)) q) z1d (z2x (e:=fun q:Int × Int × Tx=>z1x zf (z1x zf eTx) q) z1d (z9u z1d she_tx) (fun x=>⟨x.1,x.2,rfl⟩) (fun _ _=>rfl)) (fun x=>⟨x.1,x.2,rfl⟩) (fun _ _=>rfl)) (fun x=>⟨x.1,x.2,rfl⟩) (fun _ _=>rfl)) (fun x=>⟨x.1,x.2,rfl⟩) (fun _ _=>rfl)) (fun x=>⟨x.kind,(x.node,x.to,x.k,x.work,x.n,x.t),rfl⟩) (fun a b=>rfl)
end
section
open Go.RowKit Go.ChangeShapes Go.WideShapes
theorem weights_head {P:Program} {t:TypeId} {H:Type} {f:Nat→Bool} {ts:List TypeId} {d:DataW H} {ds:List (DataW H)} (h:(DataW.weightsEach P (t::ts) (d::ds)).all f=true):(d.weights P t).all f=true∧(DataW.weightsEach P ts ds).all f=true:=by
 simp only [DataW.weightsEach,zY3g,zY0e] at h;exact h
end
section
open Go.RowKit
open Go.Lib (itoa)
set_option maxRecDepth 100000
set_option maxHeartbeats 8000000
attribute [local irreducible] z0i spD z5v z1q z80
attribute [local irreducible] den denX z0x z1c
theorem z0ss {w w':Wld} {x:Happening} (h:z5v w x=(w',0)):Next w w':=by
 unfold z5v at h
 by_cases hc:z1q w=0
 ·rw [if_neg (fun k=>k hc)] at h
  exact zl4 (zf5 hc) h
 ·rw [if_pos hc] at h
  exact absurd (congrArg Prod.snd h) hc
theorem zhg {α:Type} {a b:List α} (h:a <+: b):b.take a.length=a:=by
 obtain ⟨c,rfl⟩:=h;exact List.take_left
def zfw (w':List Node):Nat→List Node→Nat
 | _,[]=>0
 | k,n::r=>(if w'[k]? = some n then 0 else 1)+zfw w' (k+1) r
theorem z05o {w':List Node}:∀ (r:List Node) (k i:Nat),(∀ (j:Nat) (n:Node),k+j≠i→r[j]? = some n→w'[k+j]? = some n)→zfw w' k r≤1∧(i<k→zfw w' k r=0)
 | [],_,_,_=>⟨Nat.zero_le _,fun _=>rfl⟩
 | n::r,k,i,h=>by
  have ih:=z05o r (k+1) i fun j m hj hm=>by
   have:=h (j+1) m (by omega) hm
   rwa [show k+(j+1)=k+1+j by omega] at this
  rw [zfw]
  by_cases hk:k=i
  ·have:=ih.2 (by omega)
   split <;> exact ⟨by omega,fun _=>by omega⟩
  ·have h0:=h 0 n (by omega) rfl
   rw [zY21] at h0;rw [if_pos h0];exact ⟨by omega,fun hi=>by have:=ih.2 (by omega);omega⟩
noncomputable def ztf:z7:=spD (fun x:Wld × Happening=>∀ m ∈ x.1.net,MsgFit m) fun _=>true
def zqv:T :=
 .ite 59 (.lets [.bin .add 33 (zI 1)] [] (.lets [.bin .add 34 (zI 1)] [] (.again 0 [32,60,61]))) (.lets [.bin .add 34 (.c (.i .i64
 1))] [] (.again 0 [32,33,60]))
def zqw:T :=
 .lets [.bin .lss 53 51] [] (.ite 57 (.ret [.c (.b false)]) (.lets [.call 91 [36,37,38,39,40,41,42,43] 0] [] (.lets [.not 58] []
 zqv)))
def zqx:T :=
 .lets [.bin .neq 52 (zI 0)] [] (.ite 55 (.ret [.c (.b false)]) (.lets [.bin .neq 54 (zI 0)] [] (.ite 56 (.ret [.c (.b false)])
 zqw)))
def zqy:T :=
 .lets [.call 77 [36,37,39] 0,.call 77 [36,37,39] 1] [] (.lets [.call 77 [40,41,43] 0,.call 77 [40,41,43] 1] [] zqx)
def zqz:T :=
 .lets [.sub 1 40 none (some 47)] [] (.lets [.call 40 [48,36] 0] [] (.lets [.not 49] [] (.ite 50 (.ret [.c (.b false)]) zqy)))
def zr0:T :=
 .lets [.len 40] [] (.lets [.len 36] [] (.lets [.bin .lss 44 45] [] (.ite 46 (.ret [.c (.b false)]) (.lets [.len 36] [] zqz))))
def zr1:T :=
 .lets [.idx 1 34 0,.idx 1 34 1,.idx 1 34 2,.idx 1 34 3] [] (.lets [] [.inr 4 13 34] (.lets [.idx 13 34 0,.idx 13
 34 1,.idx 13 34 2,.idx 13 34 3] [] zr0))
def zr2:T :=
 .lets [.bin .lss 34 31] [] (.ite 35 (.lets [] [.inr 4 1 34] zr1) (.lets [.bin .leq 33 (zI 1)] [] (.ret [36])))
def zr3:T :=
 .lets [.bin .neq 29 (zI 0)] [] (.ite 30 (.ret [.c (.b false)]) (.lets [.len 1] [] (.loop [.c (.b false),zI 0,zI 0] zr2)))
def zr4:T :=
 .lets [.call 57 [26,0] 0] [] (.lets [.not 27] [] (.ite 28 (.ret [.c (.b false)]) (.lets [.call 105 [12,13,14] 0] [] zr3)))
def zoc:T :=
 .lets [.bin .lss 22 23] [] (.ite 24 (.ret [.c (.b false)]) (.lets [.len 0] [] (.lets [.sub 1 12 none (some 25)] [] zr4)))
def zod:T :=
 .lets [.len 1] [] (.lets [.bin .neq 19 20] [] (.ite 21 (.ret [.c (.b false)]) (.lets [.len 12] [] (.lets [.len 0] [] zoc))))
def zoe:T :=
 .ite 17 (.lets [.call 112 [] 0] [] (.ret [18])) (.lets [.bin .neq 15 (zI 0)] [] (.ite 18 (.lets [.call 112 [] 0] [] (.ret [19])) (.lets [.len 13]
 [] zod)))
def zd3:T :=
 .lets [.call 109 [0,1,2,3,4,5,6,7,8,9,10,11] 0,.call 109 [0,1,2,3,4,5,6,7,8,9,10,11]
 1,.call 109 [0,1,2,3,4,5,6,7,8,9,10,11] 2,.call 109 [0,1,2,3,4,5,6,7,8,9,10,11] 3] []
 (.lets [.call 112 [] 0] [] (.lets [.not 16] [] zoe))
attribute [local irreducible] z4s z71 z72 z5k z9e z48 zaa
theorem zxn:Meets Tryz.prog ztf 4 ⟨[.agg 3,.agg 9],[(false,[.scal])],true⟩:=by
 refine z8 (sp:=(zr [(40,z4s),(57,z71),(77,z9e),(91,z5k),(105,z48),(109,zaa),(112,z72)])) (sigs:=zy) (cut:=[]) (hints:=[⟨8,[.t 4,.t 7,.t 69]⟩]) (fn:=Tryz.f4) (t:=zd3) (by kernel_rfl) (by kernel_rfl) (by kernel_rfl) ?_ ?_
 ·exact (zl (L:=[(40,z4s),(57,z71),(77,z9e),(91,z5k),(105,z48),(109,zaa),(112,z72)]) ⟨z5 rfl znc,z5 rfl z05c,z5 rfl z0cp,z5 rfl zo5,z5 rfl zkz,z5 rfl z0lp,z5 rfl z05n,trivial⟩)
 ·rintro ds rs - h
  obtain ⟨⟨w,x⟩,hm,rfl,rfl⟩:=z9 h;clear h;simp only at hm;refine ⟨⟨w.nodes.length+1,?_⟩,zq rfl⟩
  show den _ _ zd3 [.l 1 (w.book.texts.map z05),.l 4 (w.nodes.map z17),.l 12 (w.net.map z1p),I x.kind,I x.node,I x.to,I x.k,I x.work,I x.n,I x.t.height,.l 3 (x.t.ins.map eIn),.l 2 (x.t.outs.map z0z)] []=ret true
  have a1:=zb7 w x hm;have a2:=zl5;have law:=fun w'=>@z0ss w w' x
  unfold zd3;generalize z5v w x=q at *;obtain ⟨v,e⟩:=q;simp only at *
  by_cases he:e=0
  rotate_left
  ·clear law
   repeat' (first|refine dq1 ?_|refine dqK rfl (a1) ?_|refine dqk rfl (a2) ?_|exact z4 rfl rfl|refine dqT ?_|refine z4i rfl ?_|fail)
  subst he;obtain ⟨W,hb,hlen,i,hi,hk⟩:=law v rfl;clear law;have a3:=zd2 v;rw [zhf W] at a3;have a4:=zl2 w.book.texts w.book.texts;rw [decide_eq_true rfl] at a4;have ht:=zhg hb;have hbl:=hb.length_le;have hle:=W.le;have hlen2:(v.nodes.length:Int)=w.nodes.length:=by omega
  have hd:=(z05o (w':=v.nodes) w.nodes 0 i fun j n hj hn=>by rw [zY0s] at hj ⊢;exact hi j n hj hn).1
  repeat' (first|refine dq1 ?_|refine dqK rfl (a1) ?_|refine dqk rfl (a2) ?_|refine dqk rfl (a3) ?_|refine dqk rfl (a4) ?_|refine dqF ?_|refine z4i rfl ?_|fail)
  (refine zm (fun (c:Nat) k=>[.b false,I c,I k]) (fun _ _ (_:List Node)=>true) (fun c k=>c+zfw v.nodes k (w.nodes.drop k)≤1) 0 w.nodes ?_ ?_ ?_ ?_ ?_;rfl;(show 0+zfw v.nodes 0 w.nodes≤1;omega);omega)
  ·intro c k n r hx hdr hkl hI again hag
   rw [hdr,zfw] at hI;have hr:w.nodes.drop (k+1)=r:=by rw [← List.tail_drop,hdr];rfl
   rw [← hr] at hI;clear hdr;have hmx:v.nodes[k]? = some (v.nodes[k]'(by omega)):=zY03 (by omega);generalize v.nodes[k]'(by omega)=m at hmx;have K:Kept n m:=by
    by_cases hki:k=i
    ·exact hk n m (hki ▸ hx) (hki ▸ hmx)
    ·have:=hi k n hki hx
     rw [hmx] at this;obtain rfl:=Option.some.inj this;exact zfv (z7a (W.nodes _ (zY07 hmx))) rfl rfl
   obtain ⟨p,d1,d2,g1,g2,g3⟩:=K;have b1:=zek n.t.names n.t.names;rw [decide_eq_true rfl] at b1;have b2:=zh7 n.t n.tip;have b3:=zh7 m.t m.tip;rw [g1] at b2;rw [g2] at b3;have b4:=zf7 n m;have hpl:=p.length_le;have hp:=zhg p;have hkv:k<v.nodes.length:=by omega
   by_cases hnm:n=m
   ·subst hnm
    rw [if_pos hmx] at hI;have hag:=hag c (by omega);rw [decide_eq_true rfl] at b4
    repeat' (first|refine dq1 ?_|refine dqc ?_|refine dqN ?_|refine dqk rfl (b1) ?_|refine dqK rfl (b2) ?_|refine dqk rfl (b4) ?_|exact zb rfl rfl hag|refine dqT ?_|refine dqF ?_|refine z4i rfl ?_|fail)
   ·rw [if_neg (by rw [hmx];exact fun h=>hnm (Option.some.inj h).symm)] at hI
    have hag:=hag (c+1) (by omega);rw [decide_eq_false hnm] at b4
    repeat' (first|refine dq1 ?_|refine dqc ?_|refine dqN ?_|refine dqk rfl (b1) ?_|refine dqK rfl (b2) ?_|refine dqK rfl (b3) ?_|refine dqk rfl (b4) ?_|exact zb rfl rfl hag|refine dqT ?_|refine dqF ?_|refine z6l rfl ?_|refine z4i rfl ?_|fail)
  ·intro c hI again
   rw [zY1m,zfw] at hI;have hc:(c:Int)≤1:=by omega
   repeat' (first|refine dq1 ?_|refine dqF ?_|fail)
   all_goals (simp only [decide_eq_true hc];exact z4 rfl rfl)
theorem worldKeeps_walk (u:Wld) (c_u:List Value) (x:Happening) (c_x:List Value) (w:World) (h_u:shWld.rep w (Lt w.heap.size) u c_u) (h_x:shHappening.rep w (Lt w.heap.size) x c_x) (z_u:∀ m ∈ u.net,MsgFit m) (hG:Glob w) :
  Calls Tryz.prog 4 #[.agg c_u.toArray,.agg c_x.toArray] w fun e w'=>e = .returned (.bool true)∧Below w.heap.size w w' :=
 zm9 (F:=Lt w.heap.size) (us:=[.agg c_u.toArray,.agg c_x.toArray]) rfl (z2h (fn:=Tryz.f4) (by kernel_rfl) (by kernel_rfl) (by kernel_rfl)) zxn ⟨fun _ h=>h,hG⟩ (za (f:=fun _=>true) (u,x) (z_u))
  (zhu (d1:=znw u) (she_wld.to h_u) rfl (zhu (d1:=zbq x) (she_happening.to h_x) rfl zht))
end
section
open Go.RowKit
set_option maxRecDepth 100000
set_option maxHeartbeats 4000000
attribute [local irreducible] z0i spD
attribute [local irreducible] den denX z0x z1c
theorem z0ur (x y:Tx):decide (x=y)=if x.height≠y.height then false else if (x.ins.length:Int)≠y.ins.length then false else (decide (x.ins=y.ins) && decide (x.outs=y.outs)):=by
 obtain ⟨h,i,o⟩:=x;obtain ⟨h',i',o'⟩:=y
 by_cases h1:h=h'
 ·by_cases h2:i=i'
  ·subst h1;subst h2;simp
  ·simp [h1,h2]
 ·simp [h1]
theorem z0us (x y:In) (b:Bool) (r s:List In):(decide (x::r=y::s) && b)=if x.p≠y.p then false else if decide (x.key=y.key)=true then (decide (r=s) && b) else false:=by
 obtain ⟨p,k⟩:=x;obtain ⟨p',k'⟩:=y
 by_cases h1:p=p'
 ·by_cases h2:k=k'
  ·subst h1;subst h2;simp
  ·simp [h1,h2]
 ·simp [h1]
theorem z05p {α:Type} [DecidableEq α] (x y:α) (r s:List α):decide (x::r=y::s)=if decide (x=y)=true then decide (r=s) else false:=by
 by_cases h:x=y
 ·simp [h]
 ·simp [h]
theorem z0st (x y:Block):decide (x=y)=if x.parent=y.parent then (if x.height=y.height then (if x.work=y.work then (if x.nonce=y.nonce then decide (x.txs=y.txs) else false) else false) else false) else false:=by
 obtain ⟨a,b,c,d,e⟩:=x;obtain ⟨a',b',c',d',e'⟩:=y
 by_cases h1:a=a' <;> by_cases h2:b=b' <;> by_cases h3:c=c' <;> by_cases h4:d=d' <;> simp [h1,h2,h3,h4]
noncomputable def z5b:z7:=spD (fun _:Tx × Tx=>True) fun x=>decide (x.1=x.2)
theorem zd4 (x y:Tx):z5b (eTx x++eTx y)=some [.b (decide (x=y))]:=za (f:=fun x:Tx × Tx=>decide (x.1=x.2)) (x,y) trivial
def z09a:T :=
 .lets [.call 20 [16,20] 0] [] (.lets [.not 21] [] (.ite 22 (.ret [.c (.b false)]) (.lets [.bin .add 12 (zI 1)] [] (.again 0 [11,23]))))
def z09b:T :=
 .lets [.eqs true [(.v 14,.v 17),(.v 15,.v 18)]] [] (.ite 19 (.ret [.c (.b false)]) (.lets [] [.inr 3 4 12] (.lets [.idx 4 12 2] [] z09a)))
def z09c:T :=
 .lets [.idx 1 12 0,.idx 1 12 1,.idx 1 12 2] [] (.lets [] [.inr 3 4 12] (.lets [.idx 4 12 0,.idx 4 12 1] []
 z09b))
def z09d:T :=
 .lets [.call 24 [21,22,23,24] 0] [] (.lets [.not 25] [] (.ite 26 (.ret [.c (.b false)]) (.lets [.bin .add 19 (zI 1)] [] (.again 1 [18,.v
 27]))))
def z09e:T :=
 .lets [] [.inr 2 2 19] (.lets [.idx 2 19 0,.idx 2 19 1] [] (.lets [] [.inr 2 5 19] (.lets [.idx 5 19 0,.idx 5 19 1] []
 z09d)))
def z09f:T :=
 .ite 16 (.ret [.c (.b false)]) (.lets [.len 2] [] (.loop [.c (.b false),zI 0] (.lets [.bin .lss 19 17] [] (.ite 20 z09e (.ret [.c (.b
 true)])))))
def z09g:T :=
 .lets [.bin .lss 12 10] [] (.ite 13 (.lets [] [.inr 3 1 12] z09c) (.lets [.len 2] [] (.lets [.len 5] [] (.lets [.bin .neq 14 15]
 [] z09f))))
def z09h:T :=
 .lets [.len 4] [] (.lets [.bin .neq 7 8] [] (.ite 9 (.ret [.c (.b false)]) (.lets [.len 1] [] (.loop [.c (.b false),zI 0] z09g))))
def zl6:T :=
 .lets [.bin .neq 0 3] [] (.ite 6 (.ret [.c (.b false)]) (.lets [.len 1] [] z09h))
attribute [local irreducible] z50 z9f
theorem zl7:Meets Tryz.prog z5b 43 ⟨[.agg 3,.agg 3],[(false,[.scal])],true⟩:=by
 refine z4q (sp:=(zr [(20,z50),(24,z9f)])) (sigs:=zy) (cut:=[]) (hints:=[⟨4,[.t 4,.t 24]⟩]) (fns:=[z2k 85 Tryz.f85 [⟨4,[.t 6,.t 17]⟩] []]) (dep:=1) (pool:=400) (fn:=Tryz.f43) (t:=zl6) (by kernel_rfl) (by kernel_rfl) (by kernel_rfl) ?_ ?_ ?_
 ·exact (z07 (fn:=Tryz.f85) (by kernel_rfl) (by kernel_rfl) (by kernel_rfl) (by kernel_rfl) (by kernel_rfl) z5o)
 ·exact (zl (L:=[(20,z50),(24,z9f)]) ⟨z5 rfl zlu,z5 rfl z0ct,trivial⟩)
 ·rintro ds rs hok h
  obtain ⟨⟨x,y⟩,-,rfl,rfl⟩:=z9 h;clear h;have hl1:=z98 (hok (.l 3 (x.ins.map eIn)) (zY08 _ (zY0b ..)));have hl2:=z98 (hok (.l 2 (x.outs.map z0z)) (zY08 _ (zY08 _ (zY0b ..))));clear hok;refine ⟨⟨x.ins.length+x.outs.length+1,?_⟩,zq rfl⟩
  show den _ _ zl6 [I x.height,.l 3 (x.ins.map eIn),.l 2 (x.outs.map z0z),I y.height,.l 3 (y.ins.map eIn),.l 2 (y.outs.map z0z)] []=ret (decide (x=y))
  rw [z0ur];obtain ⟨xh,xi,xo⟩:=x;obtain ⟨yh,yi,yo⟩:=y;simp only at hl1 hl2 ⊢;unfold zl6
  repeat' (first|refine dq1 ?_|exact z4 rfl rfl|refine tR (fun h=>?_) fun h=>?_|fail)
  have hlm:xi.length=yi.length:=by omega
  (refine zm (fun (_:Unit) k=>[.b false,I k]) (fun (_:Unit) k (r:List In)=>(decide (r=yi.drop k) && decide (xo=yo))) (fun _ _=>True) () xi ?_ ?_ ?_ ?_ ?_;rfl;exact trivial;omega)
  ·rintro _ k z r hx hd hk - again hag
   have hy:yi[k]? = some (yi[k]'(by omega)):=zY03 (by omega);have hdy:yi.drop k=yi[k]'(by omega)::yi.drop (k+1):=zY0x (by omega);rw [hdy];generalize yi[k]'(by omega)=v at *;rw [z0us];have hkm:k<yi.length:=by omega
   have hag:=hag () trivial
   repeat' (first|refine dq1 ?_|refine dqc ?_|refine dqm ?_|refine dqk rfl (zc7 z.key v.key) ?_|exact zb rfl rfl hag|exact z4 rfl rfl|((first|refine tR ?_ ?_|refine tN ?_ ?_) <;> intro h)|refine dqT ?_|fail)
  ·rintro _ - again
   rw [hlm,zY1m,decide_eq_true (rfl:([]:List In)=[]),zY2f,z3u]
   repeat' (first|refine dq1 ?_|exact z4 rfl rfl|refine tR (fun h=>?_) fun h=>?_|refine dqF ?_|fail)
   have hlo:xo.length=yo.length:=by omega
   (refine zm (fun (_:Unit) k=>[.b false,I k]) (fun (_:Unit) k (r:List Out)=>decide (r=yo.drop k)) (fun _ _=>True) () xo ?_ ?_ ?_ ?_ ?_;rfl;exact trivial;omega)
   ·rintro _ k z r hx hd hk - again hag
    have hy:yo[k]? = some (yo[k]'(by omega)):=zY03 (by omega);have hdy:yo.drop k=yo[k]'(by omega)::yo.drop (k+1):=zY0x (by omega);rw [hdy];generalize yo[k]'(by omega)=v at *;rw [z05p];have hkm:k<yo.length:=by omega
    have hag:=hag () trivial
    repeat' (first|refine dq1 ?_|refine dqc ?_|refine dqm ?_|refine dqk rfl (zsf z v) ?_|exact zb rfl rfl hag|exact z4 rfl rfl|refine tN (fun h=>?_) fun h=>?_|refine dqT ?_|fail)
   ·rintro _ - again
    rw [hlo,zY1m]
    repeat' (first|refine dq1 ?_|exact z4 rfl rfl|refine dqF ?_|fail)
noncomputable def z6k:z7:=spD (fun _:Block × Block=>True) fun x=>decide (x.1=x.2)
theorem zhh (x y:Block):z6k [I x.parent,I x.height,I x.work,I x.nonce,.l 3 (x.txs.map eTx),I y.parent,I y.height,I y.work,I y.nonce,.l 3 (y.txs.map eTx)]=some [.b (decide (x=y))]:=za (f:=fun x:Block × Block=>decide (x.1=x.2)) (x,y) trivial
def z05q:T :=
 .lets [.call 58 [21,22,23,24,25,26] 0] [] (.lets [.not 27] [] (.ite 28 (.ret [.c (.b false)]) (.lets [.bin .add 19 (zI 1)] [] (.again
 0 [18,29]))))
def z05r:T :=
 .lets [.idx 4 19 0,.idx 4 19 1,.idx 4 19 2] [] (.lets [] [.inr 3 9 19] (.lets [.idx 9 19 0,.idx 9 19 1,.idx 9
 19 2] [] z05q))
def z05s:T :=
 .loop [.c (.b false),zI 0] (.lets [.bin .lss 19 17] [] (.ite 20 (.lets [] [.inr 3 4 19] z05r) (.ret [.c (.b true)])))
def z05t:T :=
 .lets [.len 4] [] (.lets [.len 9] [] (.lets [.bin .neq 14 15] [] (.ite 16 (.ret [.c (.b false)]) (.lets [.len 4] [] z05s))))
def z05u:T :=
 .ite 11 (.lets [.bin .eql 2 7] [] (.ite 12 (.lets [.bin .eql 3 8] [] (.ite 13 z05t (.ret [.c (.b false)]))) (.ret [.c (.b false)]))) (.ret
 [.c (.b false)])
def ziy:T :=
 .lets [.bin .eql 0 5] [] (.ite 10 (.lets [.bin .eql 1 6] [] z05u) (.ret [.c (.b false)]))
theorem zr5:Meets Tryz.prog z6k 42 ⟨[.agg 5,.agg 5],[(false,[.scal])],true⟩:=by
 refine z4q (sp:=(zr [(58,z5b)])) (sigs:=zy) (cut:=[]) (hints:=[]) (fns:=[z2k 37 Tryz.f37 [⟨4,[.t 6,.t 17]⟩] []]) (dep:=1) (pool:=400) (fn:=Tryz.f42) (t:=ziy) (by kernel_rfl) (by kernel_rfl) (by kernel_rfl) ?_ ?_ ?_
 ·exact (z07 (fn:=Tryz.f37) (by kernel_rfl) (by kernel_rfl) (by kernel_rfl) (by kernel_rfl) (by kernel_rfl) z5o)
 ·exact (zl (L:=[(58,z5b)]) ⟨z5 rfl zl7,trivial⟩)
 ·rintro ds rs hok h
  obtain ⟨⟨x,y⟩,-,rfl,rfl⟩:=z9 h;clear h;have hl1:=z98 (hok (.l 3 (x.txs.map eTx)) (zY08 _ (zY08 _ (zY08 _ (zY08 _ (zY0b ..))))));clear hok;refine ⟨⟨x.txs.length+1,?_⟩,zq rfl⟩
  show den _ _ ziy [I x.parent,I x.height,I x.work,I x.nonce,.l 3 (x.txs.map eTx),I y.parent,I y.height,I y.work,I y.nonce,.l 3 (y.txs.map eTx)] []=ret (decide (x=y))
  rw [z0st,z3u];obtain ⟨xa,xb,xc,xd,xl⟩:=x;obtain ⟨ya,yb,yc,yd,yl⟩:=y;simp only at hl1 ⊢;unfold ziy
  repeat' (first|refine dq1 ?_|exact z4 rfl rfl|refine tR (fun h=>?_) fun h=>?_|fail)
  have hlm:xl.length=yl.length:=by omega
  (refine zm (fun (_:Unit) k=>[.b false,I k]) (fun (_:Unit) k (r:List Tx)=>decide (r=yl.drop k)) (fun _ _=>True) () xl ?_ ?_ ?_ ?_ ?_;rfl;exact trivial;omega)
  ·rintro _ k z r hx hd hk - again hag
   have hy:yl[k]? = some (yl[k]'(by omega)):=zY03 (by omega);have hdy:yl.drop k=yl[k]'(by omega)::yl.drop (k+1):=zY0x (by omega);rw [hdy];generalize yl[k]'(by omega)=v at *;rw [z05p];have hkm:k<yl.length:=by omega
   have hag:=hag () trivial
   repeat' (first|refine dq1 ?_|refine dqc ?_|refine dqm ?_|refine dqk rfl (zd4 z v) ?_|exact zb rfl rfl hag|exact z4 rfl rfl|refine tN (fun h=>?_) fun h=>?_|refine dqT ?_|fail)
  ·rintro _ - again
   rw [hlm,zY1m]
   repeat' (first|refine dq1 ?_|exact z4 rfl rfl|refine dqF ?_|fail)
end
section
open Go.RowKit
open Go.Lib (itoa)
set_option maxRecDepth 100000
set_option maxHeartbeats 8000000
section
variable {sp:Nat→z7} {N:Nat} {E E':Env} {ks:List (List Dt→Option (List Dt))} {res:Option (List Dt)}
end
def atI (k n:Int):Int:=if k.tmod n<0 then k.tmod n+n else k.tmod n
theorem z0ut {k n:Int} (h:1≤n):0≤atI k n∧atI k n<n:=by
 have h1:(k.tmod n).natAbs<n.natAbs:=by
  rw [Int.natAbs_tmod];exact Nat.mod_lt _ (by omega)
 unfold atI
 split <;> omega
noncomputable def zl8:z7:=spD (fun x:Int × Int=>1≤x.2) fun x=>atI x.1 x.2
theorem z0m9 (k n:Int) (h:1≤n):zl8 [I k,I n]=some [I (atI k n)]:=za (p:=fun x:Int × Int=>1≤x.2) (f:=fun x:Int × Int=>atI x.1 x.2) (k,n) h
def z0gf:T :=
 .lets [.bin .rem 0 1] [] (.lets [.bin .lss 2 (zI 0)] [] (.ite 3 (.lets [.bin .add 2 1] [] (.ret [4])) (.ret [2])))
theorem z0vk:Meets Tryz.prog zl8 9 ⟨[.one,.one],[(false,[.scal])],true⟩:=by
 refine z8 (sp:=(zr [])) (sigs:=zy) (cut:=[]) (hints:=[]) (fn:=Tryz.f9) (t:=z0gf) (by kernel_rfl) (by kernel_rfl) (by kernel_rfl) ?_ ?_
 ·exact (zl (L:=[]) trivial)
 ·rintro ds rs hok h
  obtain ⟨⟨k,n⟩,hn,rfl,rfl⟩:=z9 h;clear h;simp only at hn;refine ⟨⟨1,?_⟩,zq rfl⟩;have h2:=hok (I n) (by simp [Enc.e,zf])
  show den _ _ z0gf [I k,I n] []=ret (atI k n)
  have h1:(k.tmod n).natAbs<n.natAbs:=by
   rw [Int.natAbs_tmod];exact Nat.mod_lt _ (by omega)
  have h3:n≤9223372036854775807:=by
   cases h2 with
   | i _ _ h=>exact (zjl h).2
  unfold z0gf atI;refine z6 (zrl rfl rfl (by omega)) ?_
  repeat' (first|refine dq1 ?_|refine dqc ?_|refine dqm ?_|exact z4 rfl rfl|((first|refine tR ?_ ?_|refine tB ?_ ?_|refine tC ?_ ?_|refine tN ?_ ?_|refine tF ?_ ?_|refine tG ?_ ?_|refine tP ?_ ?_|refine tQ ?_ ?_|refine tA ?_ ?_|refine tO ?_ ?_|refine tU ?_ ?_|refine tV ?_ ?_) <;> intro h)|refine dqT ?_|refine dqF ?_|refine z6l rfl ?_|refine z4i rfl ?_|refine dqTn ?_|refine dqFn ?_)
end
section
open Go.RowKit
open Go.Lib (itoa)
set_option maxRecDepth 100000
set_option maxHeartbeats 4000000
attribute [local irreducible] z0i spD
attribute [local irreducible] den denX z0x z1c
noncomputable def ziz:z7:=spD (fun _:List Tx × List Tx=>True) fun x=>decide (x.1=x.2)
theorem z09i (l m:List Tx):ziz [.l 3 (l.map eTx),.l 3 (m.map eTx)]=some [.b (decide (l=m))]:=za (f:=fun x:List Tx × List Tx=>decide (x.1=x.2)) (l,m) trivial
def z0ma:T :=
 .lets [.call 58 [9,10,11,12,13,14] 0] [] (.lets [.not 15] [] (.ite 16 (.ret [.c (.b false)]) (.lets [.bin .add 7 (zI 1)] [] (.again 0
 [6,17]))))
def z0mb:T :=
 .lets [.idx 0 7 0,.idx 0 7 1,.idx 0 7 2] [] (.lets [] [.inr 3 1 7] (.lets [.idx 1 7 0,.idx 1 7 1,.idx 1 7
 2] [] z0ma))
def z0mc:T :=
 .lets [.len 0] [] (.loop [.c (.b false),zI 0] (.lets [.bin .lss 7 5] [] (.ite 8 (.lets [] [.inr 3 0 7] z0mb) (.ret [.c (.b true)]))))
def ztg:T :=
 .lets [.len 0] [] (.lets [.len 1] [] (.lets [.bin .neq 2 3] [] (.ite 4 (.ret [.c (.b false)]) z0mc)))
attribute [local irreducible] z5b
theorem z0su:Meets Tryz.prog ziz 37 ⟨[.one,.one,.clos 43 []],[(false,[.scal])],true⟩:=by
 refine z8 (sp:=(zr [(58,z5b)])) (sigs:=zy) (cut:=[]) (hints:=[⟨4,[.t 6,.t 17]⟩]) (fn:=Tryz.f37) (t:=ztg) (by kernel_rfl) (by kernel_rfl) (by kernel_rfl) ?_ ?_
 ·exact (zl (L:=[(58,z5b)]) ⟨z5 rfl zl7,trivial⟩)
 ·rintro ds rs hok h
  obtain ⟨⟨l,m⟩,-,rfl,rfl⟩:=z9 h;clear h;have hll:=z98 (hok (.l 3 (l.map eTx)) (zY0b ..));refine ⟨⟨l.length+1,?_⟩,zq rfl⟩
  show den _ _ ztg [.l 3 (l.map eTx),.l 3 (m.map eTx)] []=ret (decide (l=m))
  rw [z3u];unfold ztg
  repeat' (first|refine dq1 ?_|exact z4 rfl rfl|refine tR (fun h=>?_) fun h=>?_|fail)
  have hlm:l.length=m.length:=by omega
  (refine zm (fun (_:Unit) k=>[.b false,I k]) (fun (_:Unit) k (r:List Tx)=>decide (r=m.drop k)) (fun _ _=>True) () l ?_ ?_ ?_ ?_ ?_;rfl;exact trivial;exact zY1i _)
  ·rintro _ k x r hx hd hk - again hag
   have hy:m[k]? = some (m[k]'(by omega)):=zY03 (by omega);have hdy:m.drop k=m[k]'(by omega)::m.drop (k+1):=zY0x (by omega);rw [hdy];generalize m[k]'(by omega)=y at *;have e:decide (x::r=y::m.drop (k+1))=if decide (x=y)=true then decide (r=m.drop (k+1)) else false:=by
    by_cases h:x=y
    ·simp [h]
    ·simp [h]
   rw [e];have hkm:k<m.length:=by omega
   have hag:=hag () trivial
   repeat' (first|refine dq1 ?_|refine dqc ?_|refine dqm ?_|refine dqk rfl (zd4 x y) ?_|exact zb rfl rfl hag|exact z4 rfl rfl|refine tN (fun h=>?_) fun h=>?_|refine dqT ?_|fail)
  ·rintro _ - again
   rw [hlm,zY1m]
   repeat' (first|refine dq1 ?_|exact z4 rfl rfl|refine dqF ?_|fail)
noncomputable def zfx:z7:=spD (fun _:List Block × List Block=>True) fun x=>decide (x.1=x.2)
theorem z05v (l m:List Block):zfx [.l 5 (l.map zi),.l 5 (m.map zi)]=some [.b (decide (l=m))]:=za (f:=fun x:List Block × List Block=>decide (x.1=x.2)) (l,m) trivial
def z0gg:T :=
 .lets [.call 75 [9,10,11,12,13,14,15,16,17,18] 0] [] (.lets [.not 19] [] (.ite 20 (.ret [.c (.b false)]) (.lets [.bin .add 7
 (zI 1)] [] (.again 0 [6,21]))))
def z0gh:T :=
 .lets [] [.inr 5 1 7] (.lets [.idx 1 7 0,.idx 1 7 1,.idx 1 7 2,.idx 1 7 3,.idx 1 7 4] [] z0gg)
def z0gi:T :=
 .lets [] [.inr 5 0 7] (.lets [.idx 0 7 0,.idx 0 7 1,.idx 0 7 2,.idx 0 7 3,.idx 0 7 4] [] z0gh)
def z0gj:T :=
 .ite 4 (.ret [.c (.b false)]) (.lets [.len 0] [] (.loop [.c (.b false),zI 0] (.lets [.bin .lss 7 5] [] (.ite 8 z0gi (.ret [.c (.b
 true)])))))
def zof:T :=
 .lets [.len 0] [] (.lets [.len 1] [] (.lets [.bin .neq 2 3] [] z0gj))
attribute [local irreducible] z6k
theorem z0po:Meets Tryz.prog zfx 35 ⟨[.one,.one,.clos 42 []],[(false,[.scal])],true⟩:=by
 refine z8 (sp:=(zr [(75,z6k)])) (sigs:=zy) (cut:=[]) (hints:=[⟨4,[.t 6,.t 17]⟩]) (fn:=Tryz.f35) (t:=zof) (by kernel_rfl) (by kernel_rfl) (by kernel_rfl) ?_ ?_
 ·exact (zl (L:=[(75,z6k)]) ⟨z5 rfl zr5,trivial⟩)
 ·rintro ds rs hok h
  obtain ⟨⟨l,m⟩,-,rfl,rfl⟩:=z9 h;clear h;have hll:=z98 (hok (.l 5 (l.map zi)) (zY0b ..));refine ⟨⟨l.length+1,?_⟩,zq rfl⟩
  show den _ _ zof [.l 5 (l.map zi),.l 5 (m.map zi)] []=ret (decide (l=m))
  rw [z3u];unfold zof
  repeat' (first|refine dq1 ?_|exact z4 rfl rfl|refine tR (fun h=>?_) fun h=>?_|fail)
  have hlm:l.length=m.length:=by omega
  (refine zm (fun (_:Unit) k=>[.b false,I k]) (fun (_:Unit) k (r:List Block)=>decide (r=m.drop k)) (fun _ _=>True) () l ?_ ?_ ?_ ?_ ?_;rfl;exact trivial;exact zY1i _)
  ·rintro _ k x r hx hd hk - again hag
   have hy:m[k]? = some (m[k]'(by omega)):=zY03 (by omega);have hdy:m.drop k=m[k]'(by omega)::m.drop (k+1):=zY0x (by omega);rw [hdy];generalize m[k]'(by omega)=y at *;have e:decide (x::r=y::m.drop (k+1))=if decide (x=y)=true then decide (r=m.drop (k+1)) else false:=by
    by_cases h:x=y
    ·simp [h]
    ·simp [h]
   rw [e];have hkm:k<m.length:=by omega
   have hag:=hag () trivial
   repeat' (first|refine dq1 ?_|refine dqc ?_|refine dqm ?_|refine dqk rfl (zhh x y) ?_|exact zb rfl rfl hag|exact z4 rfl rfl|refine tN (fun h=>?_) fun h=>?_|refine dqT ?_|fail)
  ·rintro _ - again
   rw [hlm,zY1m]
   repeat' (first|refine dq1 ?_|exact z4 rfl rfl|refine dqF ?_|fail)
noncomputable def zb8:z7:=spD (fun _:Tree × Tree=>True) fun x=>decide (x.1=x.2)
theorem zr6 (a b:Tree):zb8 [.l 1 (a.names.map zf),.l 5 (a.blocks.map zi),.l 1 (b.names.map zf),.l 5 (b.blocks.map zi)]=some [.b (decide (a=b))]:=za (f:=fun x:Tree × Tree=>decide (x.1=x.2)) (a,b) trivial
def zgd:T :=
 .lets [.call 40 [0,2] 0] [] (.ite 4 (.lets [.call 120 [1,3] 0] [] (.ret [5])) (.ret [.c (.b false)]))
attribute [local irreducible] z4s
theorem z09j:Meets Tryz.prog zb8 86 ⟨[.agg 2,.agg 2],[(false,[.scal])],true⟩:=by
 refine z8 (sp:=(zr [(40,z4s),(120,zfx)])) (sigs:=zy) (cut:=[]) (hints:=[]) (fn:=Tryz.f86) (t:=zgd) (by kernel_rfl) (by kernel_rfl) (by kernel_rfl) ?_ ?_
 ·exact (zl (L:=[(40,z4s),(120,zfx)]) ⟨z5 rfl znc,z5 rfl z0po,trivial⟩)
 ·rintro ds rs - h
  obtain ⟨⟨a,b⟩,-,rfl,rfl⟩:=z9 h;clear h;refine ⟨⟨1,?_⟩,zq rfl⟩
  show den _ _ zgd [.l 1 (a.names.map zf),.l 5 (a.blocks.map zi),.l 1 (b.names.map zf),.l 5 (b.blocks.map zi)] []=ret (decide (a=b))
  obtain ⟨n1,b1⟩:=a;obtain ⟨n2,b2⟩:=b;have c0:=zek n1 n2;have c1:=z05v b1 b2;have e:decide ((⟨n1,b1⟩:Tree)=⟨n2,b2⟩)=if decide (n1=n2)=true then (decide (b1=b2)) else false:=by
   by_cases h0:n1=n2
   ·skip
    by_cases h1:b1=b2
    ·simp [h0,h1]
    ·simp [h0,h1]
   ·simp [h0]
  rw [e];unfold zgd;simp only
  repeat' (first|refine dqk rfl (c0) ?_|refine dqk rfl (c1) ?_|exact z4 rfl rfl|refine tB (fun h=>?_) fun h=>?_|fail)
noncomputable def z8n:z7:=spD (fun _:Node × Node=>True) fun x=>decide (x.1=x.2)
theorem zr7 (a b:Node):z8n [.l 1 (a.t.names.map zf),.l 5 (a.t.blocks.map zi),.l 3 (a.pool.map eTx),I a.tip,.l 1 (b.t.names.map zf),.l 5 (b.t.blocks.map zi),.l 3 (b.pool.map eTx),I b.tip]=some [.b (decide (a=b))]:=za (f:=fun x:Node × Node=>decide (x.1=x.2)) (a,b) trivial
def zxo:T :=
 .ite 8 (.lets [.call 122 [0,1,4,5] 0] [] (.ite 9 (.lets [.call 121 [2,6] 0] [] (.ret [10])) (.ret [.c (.b false)]))) (.ret [.c (.b false)])
def zge:T :=
 .lets [.bin .eql 3 7] [] zxo
theorem z09k:Meets Tryz.prog z8n 39 ⟨[.agg 4,.agg 4],[(false,[.scal])],true⟩:=by
 refine z8 (sp:=(zr [(121,ziz),(122,zb8)])) (sigs:=zy) (cut:=[]) (hints:=[]) (fn:=Tryz.f39) (t:=zge) (by kernel_rfl) (by kernel_rfl) (by kernel_rfl) ?_ ?_
 ·exact (zl (L:=[(121,ziz),(122,zb8)]) ⟨z5 rfl z0su,z5 rfl z09j,trivial⟩)
 ·rintro ds rs - h
  obtain ⟨⟨a,b⟩,-,rfl,rfl⟩:=z9 h;clear h;refine ⟨⟨1,?_⟩,zq rfl⟩
  show den _ _ zge [.l 1 (a.t.names.map zf),.l 5 (a.t.blocks.map zi),.l 3 (a.pool.map eTx),I a.tip,.l 1 (b.t.names.map zf),.l 5 (b.t.blocks.map zi),.l 3 (b.pool.map eTx),I b.tip] []=ret (decide (a=b))
  obtain ⟨t1,p1,i1⟩:=a;obtain ⟨t2,p2,i2⟩:=b;have c0:=zr6 t1 t2;have c1:=z09i p1 p2;have e:decide ((⟨t1,p1,i1⟩:Node)=⟨t2,p2,i2⟩)=if i1=i2 then (if decide (t1=t2)=true then (decide (p1=p2)) else false) else false:=by
   by_cases h0:i1=i2
   ·skip
    by_cases h1:t1=t2
    ·skip
     by_cases h2:p1=p2
     ·simp [h0,h1,h2]
     ·simp [h0,h1,h2]
    ·simp [h0,h1]
   ·simp [h0]
  rw [e];unfold zge;simp only
  repeat' (first|refine dq1 ?_|refine dqk rfl (c0) ?_|refine dqk rfl (c1) ?_|exact z4 rfl rfl|((first|refine tR ?_ ?_|refine tB ?_ ?_) <;> intro h)|fail)
noncomputable def zds:z7:=spD (fun _:List Node × List Node=>True) fun x=>decide (x.1=x.2)
theorem zxp (l m:List Node):zds [.l 4 (l.map z17),.l 4 (m.map z17)]=some [.b (decide (l=m))]:=za (f:=fun x:List Node × List Node=>decide (x.1=x.2)) (l,m) trivial
def z09l:T :=
 .lets [.call 123 [9,10,11,12,13,14,15,16] 0] [] (.lets [.not 17] [] (.ite 18 (.ret [.c (.b false)]) (.lets [.bin .add 7 (.c (.i .i64
 1))] [] (.again 0 [6,19]))))
def z09m:T :=
 .lets [.idx 0 7 0,.idx 0 7 1,.idx 0 7 2,.idx 0 7 3] [] (.lets [] [.inr 4 1 7] (.lets [.idx 1 7 0,.idx 1 7
 1,.idx 1 7 2,.idx 1 7 3] [] z09l))
def z09n:T :=
 .lets [.len 0] [] (.loop [.c (.b false),zI 0] (.lets [.bin .lss 7 5] [] (.ite 8 (.lets [] [.inr 4 0 7] z09m) (.ret [.c (.b true)]))))
def zl9:T :=
 .lets [.len 0] [] (.lets [.len 1] [] (.lets [.bin .neq 2 3] [] (.ite 4 (.ret [.c (.b false)]) z09n)))
attribute [local irreducible] z8n
theorem z0md:Meets Tryz.prog zds 11 ⟨[.one,.one,.clos 39 []],[(false,[.scal])],true⟩:=by
 refine z8 (sp:=(zr [(123,z8n)])) (sigs:=zy) (cut:=[]) (hints:=[⟨4,[.t 6,.t 17]⟩]) (fn:=Tryz.f11) (t:=zl9) (by kernel_rfl) (by kernel_rfl) (by kernel_rfl) ?_ ?_
 ·exact (zl (L:=[(123,z8n)]) ⟨z5 rfl z09k,trivial⟩)
 ·rintro ds rs hok h
  obtain ⟨⟨l,m⟩,-,rfl,rfl⟩:=z9 h;clear h;have hll:=z98 (hok (.l 4 (l.map z17)) (zY0b ..));refine ⟨⟨l.length+1,?_⟩,zq rfl⟩
  show den _ _ zl9 [.l 4 (l.map z17),.l 4 (m.map z17)] []=ret (decide (l=m))
  rw [z3u];unfold zl9
  repeat' (first|refine dq1 ?_|exact z4 rfl rfl|refine tR (fun h=>?_) fun h=>?_|fail)
  have hlm:l.length=m.length:=by omega
  (refine zm (fun (_:Unit) k=>[.b false,I k]) (fun (_:Unit) k (r:List Node)=>decide (r=m.drop k)) (fun _ _=>True) () l ?_ ?_ ?_ ?_ ?_;rfl;exact trivial;exact zY1i _)
  ·rintro _ k x r hx hd hk - again hag
   have hy:m[k]? = some (m[k]'(by omega)):=zY03 (by omega);have hdy:m.drop k=m[k]'(by omega)::m.drop (k+1):=zY0x (by omega);rw [hdy];generalize m[k]'(by omega)=y at *;have e:decide (x::r=y::m.drop (k+1))=if decide (x=y)=true then decide (r=m.drop (k+1)) else false:=by
    by_cases h:x=y
    ·simp [h]
    ·simp [h]
   rw [e];have hkm:k<m.length:=by omega
   have hag:=hag () trivial
   repeat' (first|refine dq1 ?_|refine dqc ?_|refine dqN ?_|refine dqk rfl (zr7 x y) ?_|exact zb rfl rfl hag|exact z4 rfl rfl|refine tN (fun h=>?_) fun h=>?_|refine dqT ?_|fail)
  ·rintro _ - again
   rw [hlm,zY1m]
   repeat' (first|refine dq1 ?_|exact z4 rfl rfl|refine dqF ?_|fail)
noncomputable def z9l:z7:=spD (fun _:Message × Message=>True) fun x=>decide (x.1=x.2)
theorem zth (a b:Message):z9l [I a.kind,I a.src,I a.to,I a.name,I a.b.parent,I a.b.height,I a.b.work,I a.b.nonce,.l 3 (a.b.txs.map eTx),I a.t.height,.l 3 (a.t.ins.map eIn),.l 2 (a.t.outs.map z0z),I b.kind,I b.src,I b.to,I b.name,I b.b.parent,I b.b.height,I b.b.work,I b.b.nonce,.l 3 (b.b.txs.map eTx),I b.t.height,.l 3 (b.t.ins.map eIn),.l 2 (b.t.outs.map z0z)]=some [.b (decide (a=b))]:=za (f:=fun x:Message × Message=>decide (x.1=x.2)) (a,b) trivial
def z05w:T :=
 .lets [.call 75 [4,5,6,7,8,16,17,18,19,20] 0] [] (.ite 28 (.lets [.call 58 [9,10,11,21,22,23] 0] [] (.ret [.v
 29])) (.ret [.c (.b false)]))
def z05x:T :=
 .lets [.bin .eql 2 14] [] (.ite 26 (.lets [.bin .eql 3 15] [] (.ite 27 z05w (.ret [.c (.b false)]))) (.ret [.c (.b false)]))
def zj0:T :=
 .lets [.bin .eql 0 12] [] (.ite 24 (.lets [.bin .eql 1 13] [] (.ite 25 z05x (.ret [.c (.b false)]))) (.ret [.c (.b false)]))
theorem z0gk:Meets Tryz.prog z9l 41 ⟨[.agg 12,.agg 12],[(false,[.scal])],true⟩:=by
 refine z8 (sp:=(zr [(58,z5b),(75,z6k)])) (sigs:=zy) (cut:=[]) (hints:=[]) (fn:=Tryz.f41) (t:=zj0) (by kernel_rfl) (by kernel_rfl) (by kernel_rfl) ?_ ?_
 ·exact (zl (L:=[(58,z5b),(75,z6k)]) ⟨z5 rfl zl7,z5 rfl zr5,trivial⟩)
 ·rintro ds rs - h
  obtain ⟨⟨a,b⟩,-,rfl,rfl⟩:=z9 h;clear h;refine ⟨⟨1,?_⟩,zq rfl⟩
  show den _ _ zj0 [I a.kind,I a.src,I a.to,I a.name,I a.b.parent,I a.b.height,I a.b.work,I a.b.nonce,.l 3 (a.b.txs.map eTx),I a.t.height,.l 3 (a.t.ins.map eIn),.l 2 (a.t.outs.map z0z),I b.kind,I b.src,I b.to,I b.name,I b.b.parent,I b.b.height,I b.b.work,I b.b.nonce,.l 3 (b.b.txs.map eTx),I b.t.height,.l 3 (b.t.ins.map eIn),.l 2 (b.t.outs.map z0z)] []=ret (decide (a=b))
  obtain ⟨k1,s1,q1,n1,b1,t1⟩:=a;obtain ⟨k2,s2,q2,n2,b2,t2⟩:=b;have c0:=zhh b1 b2;have c1:=zd4 t1 t2;have e:decide ((⟨k1,s1,q1,n1,b1,t1⟩:Message)=⟨k2,s2,q2,n2,b2,t2⟩)=if k1=k2 then (if s1=s2 then (if q1=q2 then (if n1=n2 then (if decide (b1=b2)=true then (decide (t1=t2)) else false) else false) else false) else false) else false:=by
   by_cases h0:k1=k2
   ·skip
    by_cases h1:s1=s2
    ·skip
     by_cases h2:q1=q2
     ·skip
      by_cases h3:n1=n2
      ·skip
       by_cases h4:b1=b2
       ·skip
        by_cases h5:t1=t2
        ·simp [h0,h1,h2,h3,h4,h5]
        ·simp [h0,h1,h2,h3,h4,h5]
       ·simp [h0,h1,h2,h3,h4]
      ·simp [h0,h1,h2,h3]
     ·simp [h0,h1,h2]
    ·simp [h0,h1]
   ·simp [h0]
  rw [e];unfold zj0;simp only
  repeat' (first|refine dq1 ?_|refine dqk rfl (c0) ?_|refine dqk rfl (c1) ?_|exact z4 rfl rfl|((first|refine tR ?_ ?_|refine tB ?_ ?_) <;> intro h)|fail)
noncomputable def zfy:z7:=spD (fun _:List Message × List Message=>True) fun x=>decide (x.1=x.2)
theorem z05y (l m:List Message):zfy [.l 12 (l.map z1p),.l 12 (m.map z1p)]=some [.b (decide (l=m))]:=za (f:=fun x:List Message × List Message=>decide (x.1=x.2)) (l,m) trivial
def z0gl:T :=
 .lets [.call 125 [9,10,11,12,13,14,15,16,17,18,19,20,21,22,23,24,25,26,27,28,29,30,31,.v
 32] 0] [] (.lets [.not 33] [] (.ite 34 (.ret [.c (.b false)]) (.lets [.bin .add 7 (zI 1)] [] (.again 0 [6,35]))))
def z0gm:T :=
 .lets [.idx 1 7 0,.idx 1 7 1,.idx 1 7 2,.idx 1 7 3,.idx 1 7 4,.idx 1 7 5,.idx 1 7 6,.idx 1 7
 7,.idx 1 7 8,.idx 1 7 9,.idx 1 7 10,.idx 1 7 11] [] z0gl
def z0gn:T :=
 .lets [.idx 0 7 0,.idx 0 7 1,.idx 0 7 2,.idx 0 7 3,.idx 0 7 4,.idx 0 7 5,.idx 0 7 6,.idx 0 7
 7,.idx 0 7 8,.idx 0 7 9,.idx 0 7 10,.idx 0 7 11] [] (.lets [] [.inr 12 1 7] z0gm)
def z0go:T :=
 .lets [.len 0] [] (.loop [.c (.b false),zI 0] (.lets [.bin .lss 7 5] [] (.ite 8 (.lets [] [.inr 12 0 7] z0gn) (.ret [.c (.b true)]))))
def zog:T :=
 .lets [.len 0] [] (.lets [.len 1] [] (.lets [.bin .neq 2 3] [] (.ite 4 (.ret [.c (.b false)]) z0go)))
attribute [local irreducible] z9l
theorem z0pp:Meets Tryz.prog zfy 40 ⟨[.one,.one,.clos 41 []],[(false,[.scal])],true⟩:=by
 refine z8 (sp:=(zr [(125,z9l)])) (sigs:=zy) (cut:=[]) (hints:=[⟨4,[.t 6,.t 17]⟩]) (fn:=Tryz.f40) (t:=zog) (by kernel_rfl) (by kernel_rfl) (by kernel_rfl) ?_ ?_
 ·exact (zl (L:=[(125,z9l)]) ⟨z5 rfl z0gk,trivial⟩)
 ·rintro ds rs hok h
  obtain ⟨⟨l,m⟩,-,rfl,rfl⟩:=z9 h;clear h;have hll:=z98 (hok (.l 12 (l.map z1p)) (zY0b ..));refine ⟨⟨l.length+1,?_⟩,zq rfl⟩
  show den _ _ zog [.l 12 (l.map z1p),.l 12 (m.map z1p)] []=ret (decide (l=m))
  rw [z3u];unfold zog
  repeat' (first|refine dq1 ?_|exact z4 rfl rfl|refine tR (fun h=>?_) fun h=>?_|fail)
  have hlm:l.length=m.length:=by omega
  (refine zm (fun (_:Unit) k=>[.b false,I k]) (fun (_:Unit) k (r:List Message)=>decide (r=m.drop k)) (fun _ _=>True) () l ?_ ?_ ?_ ?_ ?_;rfl;exact trivial;exact zY1i _)
  ·rintro _ k x r hx hd hk - again hag
   have hy:m[k]? = some (m[k]'(by omega)):=zY03 (by omega);have hdy:m.drop k=m[k]'(by omega)::m.drop (k+1):=zY0x (by omega);rw [hdy];generalize m[k]'(by omega)=y at *;have e:decide (x::r=y::m.drop (k+1))=if decide (x=y)=true then decide (r=m.drop (k+1)) else false:=by
    by_cases h:x=y
    ·simp [h]
    ·simp [h]
   rw [e];have hkm:k<m.length:=by omega
   have hag:=hag () trivial
   repeat' (first|refine dq1 ?_|refine dqc ?_|refine dqN ?_|refine dqk rfl (zth x y) ?_|exact zb rfl rfl hag|exact z4 rfl rfl|refine tN (fun h=>?_) fun h=>?_|refine dqT ?_|fail)
  ·rintro _ - again
   rw [hlm,zY1m]
   repeat' (first|refine dq1 ?_|exact z4 rfl rfl|refine dqF ?_|fail)
noncomputable def zb9:z7:=spD (fun _:Wld × Wld=>True) fun x=>decide (x.1=x.2)
theorem zxq (a b:Wld):zb9 [.l 1 (a.book.texts.map z05),.l 4 (a.nodes.map z17),.l 12 (a.net.map z1p),.l 1 (b.book.texts.map z05),.l 4 (b.nodes.map z17),.l 12 (b.net.map z1p)]=some [.b (decide (a=b))]:=za (f:=fun x:Wld × Wld=>decide (x.1=x.2)) (a,b) trivial
def z09o:T :=
 .ite 6 (.lets [.call 124 [1,4] 0] [] (.ite 7 (.lets [.call 126 [2,5] 0] [] (.ret [8])) (.ret [.c (.b false)]))) (.ret [.c (.b false)])
def zla:T :=
 .lets [.call 57 [0,3] 0] [] z09o
attribute [local irreducible] z71
theorem z0me:Meets Tryz.prog zb9 13 ⟨[.agg 3,.agg 3],[(false,[.scal])],true⟩:=by
 refine z8 (sp:=(zr [(57,z71),(124,zds),(126,zfy)])) (sigs:=zy) (cut:=[]) (hints:=[]) (fn:=Tryz.f13) (t:=zla) (by kernel_rfl) (by kernel_rfl) (by kernel_rfl) ?_ ?_
 ·exact (zl (L:=[(57,z71),(124,zds),(126,zfy)]) ⟨z5 rfl z05c,z5 rfl z0md,z5 rfl z0pp,trivial⟩)
 ·rintro ds rs - h
  obtain ⟨⟨a,b⟩,-,rfl,rfl⟩:=z9 h;clear h;refine ⟨⟨1,?_⟩,zq rfl⟩
  show den _ _ zla [.l 1 (a.book.texts.map z05),.l 4 (a.nodes.map z17),.l 12 (a.net.map z1p),.l 1 (b.book.texts.map z05),.l 4 (b.nodes.map z17),.l 12 (b.net.map z1p)] []=ret (decide (a=b))
  obtain ⟨⟨k1⟩,n1,m1⟩:=a;obtain ⟨⟨k2⟩,n2,m2⟩:=b;have c0:=zl2 k1 k2;have c1:=zxp n1 n2;have c2:=z05y m1 m2;have e:decide ((⟨⟨k1⟩,n1,m1⟩:Wld)=⟨⟨k2⟩,n2,m2⟩)=if decide (k1=k2)=true then (if decide (n1=n2)=true then (decide (m1=m2)) else false) else false:=by
   by_cases h0:k1=k2
   ·skip
    by_cases h1:n1=n2
    ·skip
     by_cases h2:m1=m2
     ·simp [h0,h1,h2]
     ·simp [h0,h1,h2]
    ·simp [h0,h1]
   ·simp [h0]
  rw [e];unfold zla;simp only
  repeat' (first|refine dqk rfl (c0) ?_|refine dqk rfl (c1) ?_|refine dqk rfl (c2) ?_|exact z4 rfl rfl|refine tB (fun h=>?_) fun h=>?_|fail)
end
end Go.Proofs.YtiblpmghkcfgdaaGreatDoor
