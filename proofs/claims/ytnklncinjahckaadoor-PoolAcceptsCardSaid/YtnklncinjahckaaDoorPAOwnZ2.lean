/- Own texts, put together by wip/bundle.py: VB5, VC0, VEr, VC1, VB6, VU7, VRow, VDel, VIns, VU8, VU9, VPU, VPB, VC2, VC3, VC5, VC8, VC9, VC10, VC7, VT4, VR1, VR4, VR2, VR5, VW15. -/
import Derived.Laws.IdiomCopy
import Derived.Lib.AppendZerosOnto
import Derived.Deep.RegionLaw
import Derived.Lib.Hide
import Derived.Laws.Externs
import Derived.Laws.NewBlocks
import Derived.Test.YtnklncinjahckaaDoorPAOwnB
import Derived.Test.YtnklncinjahckaaDoorPAOwnC
import Derived.Test.YtnklncinjahckaaDoorPAOwnR
import Derived.Test.YtnklncinjahckaaDoorPAOwnS
import Derived.Test.YtnklncinjahckaaDoorPAOwnV2
import Derived.Test.YtnklncinjahckaaDoorPAOwnZ1
set_option linter.unusedVariables false
set_option linter.unusedSimpArgs false
namespace Go.Proofs.YtnklncinjahckaaDoor
section
open Go.RowKit
open Go.Lib (itoa)
set_option maxRecDepth 100000
set_option maxHeartbeats 4000000
theorem z054 (x y:In):(if x.p=y.p then decide (x.key=y.key) else false)=decide (x=y):=by
 cases x;cases y
 by_cases h:(‹Point› : Point)=‹Point› <;> simp only [In.mk.injEq,Bool.decide_and] <;> split <;> simp [*]
theorem z055 (t u:Tx):(if t.height=u.height then if decide (t.ins=u.ins)=true then decide (t.outs=u.outs) else false else false)=decide (t=u):=by
 cases t;cases u
 simp only [Tx.mk.injEq,Bool.decide_and]
 split <;> rename_i h
 ·split <;> rename_i h2
  ·simp [h,h2]
  ·simp [h,h2]
 ·simp [h]
noncomputable def z7l:z6:=spD (fun _:In × In=>True) fun x=>decide (x.1=x.2)
theorem zjr (x y:In):z7l (eIn x++eIn y)=some [.b (decide (x=y))]:=zp (f:=fun x:In × In=>decide (x.1=x.2)) (x,y) trivial
noncomputable def z9x:z6:=spD (fun _:List In × List In=>True) fun x=>decide (x.1=x.2)
theorem zus (l m:List In):z9x [.l 3 (l.map eIn),.l 3 (m.map eIn)]=some [.b (decide (l=m))]:=zp (f:=fun x:List In × List In=>decide (x.1=x.2)) (l,m) trivial
noncomputable def zap:z6:=spD (fun _:List Out × List Out=>True) fun x=>decide (x.1=x.2)
theorem zri (l m:List Out):zap [.l 2 (l.map z16),.l 2 (m.map z16)]=some [.b (decide (l=m))]:=zp (f:=fun x:List Out × List Out=>decide (x.1=x.2)) (l,m) trivial
noncomputable def z1h:z6:=spD (fun _:Tx × Tx=>True) fun x=>decide (x.1=x.2)
theorem zc1 (x y:Tx):z1h (eTx x++eTx y)=some [.b (decide (x=y))]:=zp (f:=fun x:Tx × Tx=>decide (x.1=x.2)) (x,y) trivial
attribute [local irreducible] z05 spD z1b za zj
attribute [local irreducible] den denX z0h z0z
def zc2:T :=
 .lets [.eqs false [(.v 0,.v 3),(.v 1,.v 4)]] [] (.ite (.v 6) (.lets [.call 19 [.v 2,.v 5] 0] [] (.ret [.v 7])) (.ret [.c (.b false)]))
def zzp:T :=
 .lets [.call 38 [.v 9,.v 10,.v 11,.v 12,.v 13,.v 14] 0] [] (.lets [.not (.v 15)] [] (.ite (.v 16) (.ret [.c (.b false)]) (.lets [.bin .add (.v 7) (.c (.i .i64 1))] [] (.again 0
 [.v 6,.v 17]))))
def zzq:T :=
 .lets [.idx (.v 0) (.v 7) 0,.idx (.v 0) (.v 7) 1,.idx (.v 0) (.v 7) 2] [] (.lets [] [.inr 3 (.v 1) (.v 7)] (.lets [.idx (.v 1) (.v 7) 0,.idx (.v 1) (.v 7) 1,.idx (.v 1) (.v 7)
 2] [] zzp))
def zzr:T :=
 .lets [.len (.v 0)] [] (.loop [.c (.b false),.c (.i .i64 0)] (.lets [.bin .lss (.v 7) (.v 5)] [] (.ite (.v 8) (.lets [] [.inr 3 (.v 0) (.v 7)] zzq) (.ret [.c (.b true)]))))
def zox:T :=
 .lets [.len (.v 0)] [] (.lets [.len (.v 1)] [] (.lets [.bin .neq (.v 2) (.v 3)] [] (.ite (.v 4) (.ret [.c (.b false)]) zzr)))
def zxc:T :=
 .lets [.call 20 [.v 9,.v 10,.v 11,.v 12] 0] [] (.lets [.not (.v 13)] [] (.ite (.v 14) (.ret [.c (.b false)]) (.lets [.bin .add (.v 7) (.c (.i .i64 1))] [] (.again 0 [.v 6,.v
 15]))))
def zxd:T :=
 .lets [] [.inr 2 (.v 0) (.v 7)] (.lets [.idx (.v 0) (.v 7) 0,.idx (.v 0) (.v 7) 1] [] (.lets [] [.inr 2 (.v 1) (.v 7)] (.lets [.idx (.v 1) (.v 7) 0,.idx (.v 1) (.v 7) 1] []
 zxc)))
def zxe:T :=
 .ite (.v 4) (.ret [.c (.b false)]) (.lets [.len (.v 0)] [] (.loop [.c (.b false),.c (.i .i64 0)] (.lets [.bin .lss (.v 7) (.v 5)] [] (.ite (.v 8) zxd (.ret [.c (.b
 true)])))))
def zh0:T :=
 .lets [.len (.v 0)] [] (.lets [.len (.v 1)] [] (.lets [.bin .neq (.v 2) (.v 3)] [] zxe))
def ze5:T :=
 .lets [.bin .eql (.v 0) (.v 3)] [] (.ite (.v 6) (.lets [.call 39 [.v 1,.v 4] 0] [] (.ite (.v 7) (.lets [.call 40 [.v 2,.v 5] 0] [] (.ret [.v 8])) (.ret [.c (.b false)]))) (.ret
 [.c (.b false)]))
attribute [local irreducible] z53
theorem zxf:Meets Tryd.prog z7l 30 ⟨[.agg 3,.agg 3],[(false,[.scal])],true⟩:=by
 refine zu (sp:=(z0l [(19,z53)])) (sigs:=z0y) (cut:=[]) (hints:=[]) (fn:=Tryd.f30) (t:=zc2) (by kernel_rfl) (by kernel_rfl) (by kernel_rfl) ?_ ?_
 ·exact (z0c (L:=[(19,z53)]) ⟨zb rfl zt6,trivial⟩)
 ·rintro ds rs - h
  obtain ⟨⟨x,y⟩,-,rfl,rfl⟩:=zt h
  clear h
  refine ⟨⟨1,?_⟩,z09 rfl⟩
  show den _ _ zc2 [I x.p.tx,I x.p.at_,.l 2 (x.key.map eOp),I y.p.tx,I y.p.at_,.l 2 (y.key.map eOp)] []=ret (decide (x=y))
  rw [← z054]
  unfold zc2
  repeat' (first|refine dq1 ?_|refine dqk rfl (zdc _ _) ?_|exact z4 rfl rfl|refine tR (fun h=>?_) fun h=>?_|fail)
theorem z04d:Meets Tryd.prog z9x 29 ⟨[.one,.one,.clos 30 []],[(false,[.scal])],true⟩:=by
 refine zu (sp:=(z0l [(38,z7l)])) (sigs:=z0y) (cut:=[]) (hints:=[⟨4,[.t 6,.t 17]⟩]) (fn:=Tryd.f29) (t:=zox) (by kernel_rfl) (by kernel_rfl) (by kernel_rfl) ?_ ?_
 ·exact (z0c (L:=[(38,z7l)]) ⟨zb rfl zxf,trivial⟩)
 ·rintro ds rs hok h
  obtain ⟨⟨l,m⟩,-,rfl,rfl⟩:=zt h
  clear h
  have hll:=zur (hok (.l 3 (l.map eIn)) (List.mem_cons_self ..))
  refine ⟨⟨l.length+1,?_⟩,z09 rfl⟩
  show den _ _ zox [.l 3 (l.map eIn),.l 3 (m.map eIn)] []=ret (decide (l=m))
  rw [z90]
  unfold zox
  repeat' (first|refine dq1 ?_|exact z4 rfl rfl|refine tR (fun h=>?_) fun h=>?_|fail)
  have hlm:l.length=m.length:=by omega
  (refine z0p (fun (_:Unit) k=>[.b false,I k]) (fun (_:Unit) k (r:List In)=>decide (r=m.drop k)) (fun _ _=>True) () l ?_ ?_ ?_ ?_ ?_;rfl;exact trivial;exact Nat.lt_succ_self _)
  ·rintro _ k x r hx hd hk - again hag
   have hy:m[k]? = some (m[k]'(by omega)):=List.getElem?_eq_getElem (by omega)
   have hdy:m.drop k=m[k]'(by omega)::m.drop (k+1):=List.drop_eq_getElem_cons (by omega)
   rw [hdy]
   generalize m[k]'(by omega)=y at *
   have e:decide (x::r=y::m.drop (k+1))=if decide (x=y)=true then decide (r=m.drop (k+1)) else false:=by
    by_cases h:x=y
    ·simp [h]
    ·simp [h]
   rw [e]
   have hkm:k<m.length:=by omega
   repeat' (first|refine dq1 ?_|refine dqc ?_|refine dqm ?_|refine dqk rfl (zjr x y) ?_|exact z4 rfl rfl|exact zq rfl rfl (hag () trivial)|refine tN (fun h=>?_) fun h=>?_|refine dqT ?_|fail)
  ·rintro _ - again
   rw [hlm,List.drop_length]
   repeat' (first|refine dq1 ?_|exact z4 rfl rfl|refine dqF ?_|fail)
attribute [local irreducible] z4b
theorem z02a:Meets Tryd.prog zap 32 ⟨[.one,.one,.clos 33 []],[(false,[.scal])],true⟩:=by
 refine zu (sp:=(z0l [(20,z4b)])) (sigs:=z0y) (cut:=[]) (hints:=[⟨4,[.t 6,.t 17]⟩]) (fn:=Tryd.f32) (t:=zh0) (by kernel_rfl) (by kernel_rfl) (by kernel_rfl) ?_ ?_
 ·exact (z0c (L:=[(20,z4b)]) ⟨zb rfl zrh,trivial⟩)
 ·rintro ds rs hok h
  obtain ⟨⟨l,m⟩,-,rfl,rfl⟩:=zt h
  clear h
  have hll:=zur (hok (.l 2 (l.map z16)) (List.mem_cons_self ..))
  refine ⟨⟨l.length+1,?_⟩,z09 rfl⟩
  show den _ _ zh0 [.l 2 (l.map z16),.l 2 (m.map z16)] []=ret (decide (l=m))
  rw [z90]
  unfold zh0
  repeat' (first|refine dq1 ?_|exact z4 rfl rfl|refine tR (fun h=>?_) fun h=>?_|fail)
  have hlm:l.length=m.length:=by omega
  (refine z0p (fun (_:Unit) k=>[.b false,I k]) (fun (_:Unit) k (r:List Out)=>decide (r=m.drop k)) (fun _ _=>True) () l ?_ ?_ ?_ ?_ ?_;rfl;exact trivial;exact Nat.lt_succ_self _)
  ·rintro _ k x r hx hd hk - again hag
   have hy:m[k]? = some (m[k]'(by omega)):=List.getElem?_eq_getElem (by omega)
   have hdy:m.drop k=m[k]'(by omega)::m.drop (k+1):=List.drop_eq_getElem_cons (by omega)
   rw [hdy]
   generalize m[k]'(by omega)=y at *
   have e:decide (x::r=y::m.drop (k+1))=if decide (x=y)=true then decide (r=m.drop (k+1)) else false:=by
    by_cases h:x=y
    ·simp [h]
    ·simp [h]
   rw [e]
   have hkm:k<m.length:=by omega
   repeat' (first|refine dq1 ?_|refine dqc ?_|refine dqm ?_|refine dqk rfl (zfx x y) ?_|exact z4 rfl rfl|exact zq rfl rfl (hag () trivial)|refine tN (fun h=>?_) fun h=>?_|refine dqT ?_|fail)
  ·rintro _ - again
   rw [hlm,List.drop_length]
   repeat' (first|refine dq1 ?_|exact z4 rfl rfl|refine dqF ?_|fail)
attribute [local irreducible] z9x
theorem ze6:Meets Tryd.prog z1h 15 ⟨[.agg 3,.agg 3],[(false,[.scal])],true⟩:=by
 refine zu (sp:=(z0l [(39,z9x),(40,zap)])) (sigs:=z0y) (cut:=[]) (hints:=[]) (fn:=Tryd.f15) (t:=ze5) (by kernel_rfl) (by kernel_rfl) (by kernel_rfl) ?_ ?_
 ·exact (z0c (L:=[(39,z9x),(40,zap)]) ⟨zb rfl z04d,zb rfl z02a,trivial⟩)
 ·rintro ds rs - h
  obtain ⟨⟨x,y⟩,-,rfl,rfl⟩:=zt h
  clear h
  refine ⟨⟨1,?_⟩,z09 rfl⟩
  show den _ _ ze5 [I x.height,.l 3 (x.ins.map eIn),.l 2 (x.outs.map z16),I y.height,.l 3 (y.ins.map eIn),.l 2 (y.outs.map z16)] []=ret (decide (x=y))
  rw [← z055]
  unfold ze5
  repeat' (first|refine dq1 ?_|refine dqk rfl (zus _ _) ?_|refine dqk rfl (zri _ _) ?_|exact z4 rfl rfl|((first|refine tR ?_ ?_|refine tB ?_ ?_) <;> intro h)|fail)
end
section
open Go.RowKit
def ze7:List CF→List Dt→Prop
 | .scal::fs,d::ds=>d.scal=true∧ze7 fs ds
 | _::fs,_::ds=>ze7 fs ds
 | _,_=>True
theorem zh1:∀ {fs:List CF} {ds:List Dt},ze7 fs ds→∀ (j:Nat) (d:Dt),fs[j]? = some .scal→ds[j]? = some d→d.scal=true
 | [],_,_,j,d,hf,_=>by cases hf
 | _::_,[],_,j,d,_,hd=>by cases hd
 | c::fs,x::ds,h,j,d,hf,hd=>by
  cases j with
  | zero =>
   simp only [List.getElem?_cons_zero,Option.some.injEq] at hf hd
   subst hf;subst hd
   exact h.1
  | succ j =>
   have h':ze7 fs ds:=by
    cases c with
    | scal=>exact h.2
    | pure=>exact h
    | fresh e sz=>exact h
   exact zh1 h' j d (by simpa using hf) (by simpa using hd)
theorem z91 {s:Sig} {rs:List Dt} (h:ze7 (zd s) rs):z41 s rs:=fun i d h1 h2=>zh1 h i d h1 h2
def zcw:List CF→Bool
 | []=>true
 | .fresh _ _::_=>false
 | _::fs=>zcw fs
theorem z9d:∀ {fs:List CF},zcw fs=true→∀ c ∈ fs,c = .scal∨c = .pure
 | [],_,c,h=>by cases h
 | x::fs,h,c,hc=>by
  cases x with
  | scal =>
   rcases List.mem_cons.1 hc with rfl|hc
   ·exact .inl rfl
   ·exact z9d (fs:=fs) h c hc
  | pure =>
   rcases List.mem_cons.1 hc with rfl|hc
   ·exact .inr rfl
   ·exact z9d (fs:=fs) h c hc
  | fresh e sz=>cases h
section
variable {W W':World} {F F':Nat→Prop} {pk:List PK} {b:Bool}
theorem resP {s:Sig} {rs:List Dt} {v:Value} {us:List Value} (hv:zgc s.res v us) (hc:zcw (zd s)=true) (hs:ze7 (zd s) rs) (hr:Reps W' F' rs us) (hl:rs.length=(zd s).length) (hF':∀ b,F' b→F b∨(W.heap.size≤b∧b<W'.heap.size)):∃ us F',ResR W F W' s rs v us F' :=
 ⟨us,F',zdy hv (z9d hc) (zh1 hs) hl hr hF'⟩
theorem z056 {fs:List CF} {ds:List Dt} {cs:List Value} (hc:zcw fs=true) (hs:ze7 fs ds) (hr:Reps W' F' ds cs) (hl:ds.length=fs.length) (hF':∀ b,F' b→F b∨(W.heap.size≤b∧b<W'.heap.size)):∃ us F',ResR W F W' ⟨pk,[(true,fs)],b⟩ ds (.agg cs.toArray) us F' :=
 resP (us:=cs) (F':=F') ⟨rfl,by rw [← hr.len,hl]⟩ (by simpa [zd] using hc) (by simpa [zd] using hs) hr (by simpa [zd] using hl) hF'
theorem z02b {W W':World} {F:Nat→Prop} {Γ:List Res}:∀ b,Free W.heap.size F Γ W' b→F b∨(W.heap.size≤b∧b<W'.heap.size):=fun b h=>h.1
end
theorem z02c {α:Type} {S:Sh α} {e:α→List Dt} (hE:ShE S e) {W:World} {F:Nat→Prop} (hF:∀ b,F b→b<W.heap.size) {x:α} {cs:List Value} (hr:Reps W F (e x) cs):Sep W F [rep x cs S] W:=(Sep.start W F hF).addRep (S:=S) (S.more (fun b hb=>⟨.inl hb,by simp⟩) (hE.of hr))
end
section
open Go.RowKit
end
section
open Go.RowKit
set_option maxRecDepth 100000
set_option maxHeartbeats 4000000
theorem zik:∀ l s:List (List UInt8),Er (z44 l s)
 | [],_=>z0d _ rfl
 | x::l,s=>z0i (z0d _ rfl) (z0i (z0d _ rfl) (zik l _))
theorem zt7 (k:Book):Er (zo k):=z0i (z0d _ rfl) (zik _ _)
theorem zzv (t:List (List UInt8)) (s:List UInt8):Er (z1m t s):=z0i (z0d _ rfl) (z0i (z0d _ rfl) (z0d _ rfl))
theorem zzw (k:Book) (s:List UInt8):Er (z0o k s):=z0i (zt7 k) (z0i (z0d _ rfl) (zzv _ _))
theorem z6v {n:Int} (h:0≤n∧n≤1000):I64 n:=⟨by have:=h.1;omega,by have:=h.2;omega⟩
noncomputable def z37:z6:=spD (fun _:Book=>True) fun k=>zo k
theorem zfz (k:Book):z37 [.l 1 (k.texts.map z0e)]=some [I (zo k)]:=zp (f:=fun k:Book=>zo k) k trivial
theorem zrl:Meets Tryd.prog z37 19 ⟨[.agg 1],[(false,[.scal])],true⟩ :=
 zfp rfl (z2l (fn:=Tryd.f19) (by kernel_rfl) (by kernel_rfl) (by kernel_rfl)) fun k _ W F us hF h=>by
  obtain ⟨cs,rfl,hr⟩:=z8c h
  exact ⟨(zt7 k).i64,zaw k cs W F (she_book.of hr) hF.1⟩
theorem z04g {W W':World} {F:Nat→Prop}:∀ b,Mid W W' b→F b∨(W.heap.size≤b∧b<W'.heap.size):=fun b h=>.inr h
theorem zzx (k:Book) (s:List UInt8):I64 (z06 k s):=by
 unfold z06
 split
 ·exact z6v ⟨by decide,by decide⟩
 rename_i h
 split
 ·exact z6v ⟨by decide,by decide⟩
 ·exact z6v (zz2 (z6z (Decidable.not_not.1 h)))
noncomputable def z3r:z6:=spD (fun _:Book × List UInt8=>True) fun x=>(z10 x.1 x.2,z06 x.1 x.2,z0o x.1 x.2)
theorem zh2 (k:Book) (s:List UInt8):z3r [.l 1 (k.texts.map z0e),.s s]=some [.l 1 ((z10 k s).map z0e),I (z06 k s),I (z0o k s)]:=zp (f:=fun x:Book × List UInt8=>(z10 x.1 x.2,z06 x.1 x.2,z0o x.1 x.2)) (k,s) trivial
theorem zuw:Meets Tryd.prog z3r 45 ⟨[.agg 1,.one],[(true,[.pure]),(false,[.scal]),(false,[.scal])],false⟩ :=
 z5e rfl (z2l (fn:=Tryd.f45) (by kernel_rfl) (by kernel_rfl) (by kernel_rfl)) fun x _ W F us hF h=>by
  obtain ⟨k,s⟩:=x
  obtain ⟨cs,us,rfl,h1,h⟩:=z016 (d1:=z7a k) (d2:=z0e s) h rfl
  obtain ⟨v,us,rfl,h2,h⟩:=z1p h
  obtain rfl:=z34 h
  obtain ⟨rfl,hs⟩:=zcs h2
  refine (zwa k cs s W F (she_book.of h1) hF.1 hs).mono ?_
  rintro e w' ⟨A,n,c,rfl,hr,hb⟩
  refine ⟨_,rfl,hb,?_⟩
  exact resP (us:=[.slice A n c,.int .i64 (z06 k s),.int .i64 (z0o k s)]) (F':=Mid W w') ⟨[.agg #[.slice A n c],.int .i64 (z06 k s),.int .i64 (z0o k s)],rfl,.agg #[.slice A n c],_,[.slice A n c],_,rfl,rfl,⟨rfl,rfl⟩,.int .i64 (z06 k s),_,[.int .i64 (z06 k s)],_,rfl,rfl,⟨rfl,rfl⟩,.int .i64 (z0o k s),[],[.int .i64 (z0o k s)],[],rfl,rfl,⟨rfl,rfl⟩,rfl,rfl⟩ rfl ⟨rfl,rfl,trivial⟩ ⟨z9m zcn hr,.i _ _ (wrap_i64 (zzx k s)),.i _ _ (wrap_i64 (zzw k s).i64),trivial⟩ rfl z04g
noncomputable def zux:z6:=spD (fun x:Book × List (List UInt8)=>x.2.length≤8796093022207) fun x=>z68 x.1 x.2
noncomputable def z3s:z6:=spD (fun _:Block=>True) fun k=>z07 k
theorem zh3 (b:Block):z3s [I b.parent,I b.height,I b.work,I b.nonce,.l 3 (b.txs.map eTx)]=some [I (z07 b)]:=zp (f:=fun k:Block=>z07 k) b trivial
theorem zuy:Meets Tryd.prog z3s 34 ⟨[.agg 5],[(false,[.scal])],true⟩ :=
 zfp rfl (z2l (fn:=Tryd.f34) (by kernel_rfl) (by kernel_rfl) (by kernel_rfl)) fun k _ W F us hF h=>by
  obtain ⟨cs,rfl,hr⟩:=z8c h
  exact ⟨(z041 k).i64,zgq k cs W F (she_block.of hr) hF.1⟩
theorem zil (n:Int):0≤z0u n∧z0u n≤1000:=by
  unfold z0u
  split
  ·exact ⟨by decide,by decide⟩
  ·rename_i h
   have h1:(0:Int)≤2 ^ (min ((n - 1) / 8) 30).toNat:=Int.pow_nonneg (by decide)
   have h2:=Int.ediv_nonneg (show (0:Int)≤64 by decide) h1
   have h3:=Int.ediv_le_self (2 ^ (min ((n - 1) / 8) 30).toNat) (show (0:Int)≤64 by decide)
   exact ⟨h2,by omega⟩
theorem zim (n:Int):I64 (z0u n)∧I64 (z1r n):=by
 have h1:=zil n
 have h2:0≤z1r n∧z1r n≤1000:=by
  unfold z1r
  split <;> exact ⟨by decide,by decide⟩
 exact ⟨z6v h1,z6v h2⟩
noncomputable def z2p:z6:=spD (fun _:Int=>True) fun n=>(z0u n,z1r n)
theorem ze8 (n:Int):z2p [I n]=some [I (z0u n),I (z1r n)]:=zp (f:=fun n:Int=>(z0u n,z1r n)) n trivial
theorem z02f (n:Int) (w:World):Calls Tryd.prog 40 #[.int .i64 n] w fun e w'=>e = .returned (.tuple #[.int .i64 (z0u n),.int .i64 (z1r n)])∧w=w':=by
 by_cases h:n<1∨1000<n
 ·go_enter Tryd.func40,Tryd.ntmps40
  go_wp2
  all_goals (go_ret2;refine ⟨z7y ?_ ?_,rfl⟩)
  all_goals simp [z0u,z1r,h]
 ·have h1:1≤n:=by omega
  have h2:n≤1000:=by omega
  go_enter Tryd.func40,Tryd.ntmps40
  go_wp2
  all_goals (go_ret2;refine ⟨z7y ?_ ?_,rfl⟩)
  all_goals first|(simp only [z0u];rw [if_neg (by omega)])|(simp [z1r];omega)
theorem zp1:Meets Tryd.prog z2p 40 ⟨[.one],[(false,[.scal]),(false,[.scal])],true⟩ :=
 z5e rfl (z2l (fn:=Tryd.f40) (by kernel_rfl) (by kernel_rfl) (by kernel_rfl)) fun n _ W F us hF h=>by
  obtain ⟨v,us,rfl,h2,h⟩:=z1p (d:=I n) h
  obtain rfl:=z34 h
  obtain ⟨rfl,hn⟩:=zgr h2
  refine (z02f n W).mono ?_
  rintro e w' ⟨rfl,rfl⟩
  exact ⟨_,rfl,Below.refl _ _,zt4 rfl rfl (.i _ _ (wrap_i64 (zim n).1)) (.i _ _ (wrap_i64 (zim n).2))⟩
noncomputable def z8n:z6:=spD (fun l:List (List UInt8)=>l.length≤1000000) fun l=>l
theorem zrm (l:List (List UInt8)) (h:l.length≤1000000):z8n [.l 1 (l.map z0e)]=some [.l 1 (l.map z0e)]:=zp (p:=fun l:List (List UInt8)=>l.length≤1000000) (f:=fun l:List (List UInt8)=>l) l h
theorem z02g:Meets Tryd.prog z8n 20 ⟨[.one],[(false,[.fresh 9 1])],false⟩ :=
 z97 (e:=fun x:{ l:List (List UInt8) // l.length≤1000000 }=>Enc.e x.1) (xs:=fun x=>x.1) zcn rfl rfl (by decide) (z2l (fn:=Tryd.f20) (by kernel_rfl) (by kernel_rfl) (by kernel_rfl)) fun x W F us hF h=>by
  obtain ⟨v,us,rfl,h1,h⟩:=z1p h
  obtain rfl:=z34 h
  obtain ⟨A,n,c,rfl,k1⟩:=z64 zcn h1
  have:=x.2
  have:=k1.1
  exact (zbh x.1 A n c W F k1 hF (by omega)).mono fun r W' h=>⟨n,h⟩
noncomputable def z3e:z6:=spD TxSmall fun t=>t
theorem zc3 (t:Tx) (h:TxSmall t):z3e [I t.height,.l 3 (t.ins.map eIn),.l 2 (t.outs.map z16)]=some (eTx t):=zp (p:=TxSmall) (f:=fun t:Tx=>t) t h
theorem zp2:Meets Tryd.prog z3e 25 ⟨[.agg 3],[(true,[.scal,.pure,.pure])],false⟩ :=
 z5e rfl (z2l (fn:=Tryd.f25) (by kernel_rfl) (by kernel_rfl) (by kernel_rfl)) fun t ht W F us hF h=>by
  obtain ⟨cs,rfl,hr⟩:=z8c h
  refine (zzs t cs (z02c she_tx hF.1 hr) At.z ht).mono ?_
  rintro e w' ⟨cs',rfl,hS⟩
  exact ⟨_,rfl,hS.below,z056 rfl ⟨rfl,trivial⟩ (she_tx.to (hS.getRep At.z)) rfl z02b⟩
end
section
open Go.RowKit
open Go.Lib (itoa)
set_option maxRecDepth 100000
set_option maxHeartbeats 4000000
def z02h (b:Block):List (List UInt8):=b.txs.map fun t=>(zw t).1
def zzy (k:Book) (s:List UInt8) (l:List (List UInt8)):List (List UInt8) × Int × List Int × Int :=
 if (z68 k (l++[s])).2.2≠0 then ([],0,[],(z68 k (l++[s])).2.2) else
 ((z68 k (l++[s])).1,((z68 k (l++[s])).2.1).getD l.length 0,((z68 k (l++[s])).2.1).take l.length,0)
def z2q (k:Book) (b:Block):List (List UInt8) × Int × List Int × Int :=
 if (z6a b).2≠0 then ([],0,[],(z6a b).2) else zzy k (z6a b).1 (z02h b)
attribute [local irreducible] z05 spD z68 z6a zw
attribute [local irreducible] den denX z0h z0z
noncomputable def zdd:z6:=spD (fun _:Book × Block=>True) fun x=>z2q x.1 x.2
theorem zh4 (t:Tx):z3g [I t.height,.l 3 (t.ins.map eIn),.l 2 (t.outs.map z16)]=some [.s (zw t).1,I (zw t).2]:=zjq t
attribute [local irreducible] zda zux z3g
end
section
open Go.RowKit
set_option maxRecDepth 100000
set_option maxHeartbeats 4000000
section
variable {ρ:Type}
def z20 (h:Int) (bad:Int→ρ) (K:List Coin→List Coin→ρ):List Coin→List Coin→List In→ρ
 | r,s,[]=>K r s
 | r,s,x::xs=>if z1n r x.p=true then
   if ((r[ze r x.p]?).getD z4z).reward=true then
    if h<((r[ze r x.p]?).getD z4z).height+2 then bad 10
    else if (z2u ((r[ze r x.p]?).getD z4z).o.lock x.key h).1=true then z20 h bad K (r.take (ze r x.p)++r.drop (ze r x.p+1)) (s++[(r[ze r x.p]?).getD z4z]) xs else bad 8
   else if (z2u ((r[ze r x.p]?).getD z4z).o.lock x.key h).1=true then z20 h bad K (r.take (ze r x.p)++r.drop (ze r x.p+1)) (s++[(r[ze r x.p]?).getD z4z]) xs else bad 8
  else bad 7
def z2a (nm h:Int) (rw:Bool) (bad:Int→ρ) (K:List Coin→ρ):List Coin→Nat→List Out→ρ
 | r,_,[]=>K r
 | r,i,o::os=>if z1n r ⟨nm,i⟩=true then bad 6 else z2a nm h rw bad K (r.take (ze r ⟨nm,i⟩)++[⟨⟨nm,i⟩,o,h,rw⟩]++r.drop (ze r ⟨nm,i⟩)) (i+1) os
end
def z2n (e:Int):List Coin × List Coin × Int:=([],[],e)
def z75 (s r:List Coin):List Coin × List Coin × Int:=if zh r≠0 then z2n (zh r) else (r,s,0)
def zl (l:List Coin) (t:Tx) (nm h:Int):List Coin × List Coin × Int :=
 if zh l≠0 then z2n (zh l) else if zj t≠0 then z2n (zj t) else
 if nm<1∨120<nm∨h<1∨1000<h then z2n 3 else
 if (t.ins.length:Int)=0 then
  if t.height≠h then z2n 4 else z20 h z2n (fun r s=>z2a nm h (decide ((t.ins.length:Int)=0)) z2n (z75 s) r 0 t.outs) l [] t.ins
 else z20 h z2n (fun r s=>if z0s t s<0 then z2n 9 else z2a nm h (decide ((t.ins.length:Int)=0)) z2n (z75 s) r 0 t.outs) l [] t.ins
section
variable {ρ:Type}
def z00m (nm:Int) (bad:Int→ρ) (K:List Coin→ρ):List Coin→Nat→List Out→ρ
 | r,_,[]=>K r
 | r,i,o::os=>if z1n r ⟨nm,i⟩=true then (if decide (((r[ze r ⟨nm,i⟩]?).getD z4z).o=o)=true then z00m nm bad K (r.take (ze r ⟨nm,i⟩)++r.drop (ze r ⟨nm,i⟩+1)) (i+1) os else bad 7) else bad 7
def z00n (ins:List In) (bad:Int→ρ) (K:List Coin→ρ):List Coin→Nat→List Coin→ρ
 | r,_,[]=>K r
 | r,i,c::cs=>if z1n r c.p=true then bad 6 else if ((ins[i]?).getD ⟨⟨0,0⟩,[]⟩).p≠c.p then bad 6 else z00n ins bad K (r.take (ze r c.p)++[c]++r.drop (ze r c.p)) (i+1) cs
end
def zh5 (e:Int):List Coin × Int:=([],e)
def endR (r:List Coin):List Coin × Int:=if zh r≠0 then zh5 (zh r) else (r,0)
def z54 (l:List Coin) (t:Tx) (nm:Int) (u:List Coin):List Coin × Int :=
 if zh l≠0 then zh5 (zh l) else if zj t≠0 then zh5 (zj t) else if (u.length:Int)≠t.ins.length then zh5 4 else
  z00m nm zh5 (fun r=>z00n t.ins zh5 endR r 0 u) l 0 t.outs
theorem z7n {r:List Coin} (h:zx r) (k:Nat):zx (r.take k++r.drop (k+1)):=by
 have:(r.take k++r.drop (k+1))=r.eraseIdx k:=(List.eraseIdx_eq_take_drop_succ r k).symm
 rw [this]
 exact h.sublist (List.eraseIdx_sublist r k)
theorem z7o {r:List Coin} (h:zx r) {c:Coin} (hc:z1n r c.p=false):zx (r.take (ze r c.p)++[c]++r.drop (ze r c.p)):=by
 obtain ⟨i1,i2⟩:=zd7 h c.p
 have hle:=zdz r c.p
 have hne:∀ t (ht:t<r.length),r[t].p≠c.p:=fun t ht he=>by
  have:z1n r c.p=true:=List.any_eq_true.2 ⟨_,List.getElem_mem ht,by simpa using he⟩
  rw [this] at hc;cases hc
 unfold zx
 rw [List.append_assoc,List.pairwise_append]
 refine ⟨List.Pairwise.sublist (List.take_sublist _ _) h,?_,?_⟩
 ·rw [List.singleton_append,List.pairwise_cons]
  refine ⟨fun d hd=>?_,List.Pairwise.sublist (List.drop_sublist _ _) h⟩
  obtain ⟨t,ht,rfl⟩:=List.getElem_of_mem hd
  rw [List.length_drop] at ht
  rw [List.getElem_drop]
  have:=i2 (ze r c.p+t) (by omega) (by omega)
  rcases zsx c.p r[ze r c.p+t].p with h|h|h
  ·exact h
  ·exact absurd h.symm (hne _ (by omega))
  ·exact absurd h this
 ·intro a ha b hb
  obtain ⟨t,ht,rfl⟩:=List.getElem_of_mem ha
  rw [List.length_take] at ht
  rw [List.getElem_take]
  have hat:=i1 t (by omega) (by omega)
  rw [List.singleton_append,List.mem_cons] at hb
  rcases hb with rfl|hb
  ·exact hat
  ·obtain ⟨u,hu,rfl⟩:=List.getElem_of_mem hb
   rw [List.length_drop] at hu
   rw [List.getElem_drop]
   have:=i2 (ze r c.p+u) (by omega) (by omega)
   rcases zsx r[t].p r[ze r c.p+u].p with h|h|h
   ·exact h
   ·exact absurd (h ▸ hat) this
   ·exact absurd (z59 h hat) this
structure SpI (l:List Coin) (st:List Coin × List Coin) (k:Nat):Prop where
 sorted:zx st.1
 len:st.1.length≤l.length
 good:∀ c ∈ st.1,z35 c=0
 cnt:st.2.length=k
 spent:∀ c ∈ st.2,z35 c=0
theorem SpI.cut {l:List Coin} {r s:List Coin} {k:Nat} {c:Coin} {j:Nat} (h:SpI l (r,s) k) (hc:r[j]? = some c):SpI l (r.take j++r.drop (j+1),s++[c]) (k+1):=by
 refine ⟨z7n h.sorted j,?_,fun d hd=>?_,?_,fun d hd=>?_⟩
 ·have:=h.len
  simp only [List.length_append,List.length_take,List.length_drop] at this ⊢
  omega
 ·rcases List.mem_append.1 hd with hd|hd
  ·exact h.good d (List.mem_of_mem_take hd)
  ·exact h.good d (List.mem_of_mem_drop hd)
 ·have:=h.cnt
  simp only [List.length_append,List.length_singleton] at this ⊢
  omega
 ·rcases List.mem_append.1 hd with hd|hd
  ·exact h.spent d hd
  ·simp only [List.mem_singleton] at hd
   subst hd
   exact h.good d (List.mem_of_getElem? hc)
theorem SpI.fee {l:List Coin} {r s:List Coin} {t:Tx} (h:SpI l (r,s) t.ins.length) (ht:TxOK t):zc0 (t,s) :=
 ⟨by have:=h.cnt;have:=ht.ins;simp only at *;omega,fun c hc=>by have:=z2s (h.spent c hc);omega,by have:=ht.outs;simp only;omega,fun o ho=>by have:=ht.good o ho;omega⟩
end
section
open Go.RowKit
section
variable {P:Program} {W:World}
theorem za1 {g o t:Nat} {vs cs:List Value} (hg:W.heap[g]? = some (.cells vs.toArray t (0,0))) (hn:o+cs.length≤vs.length) (h1:∀ v ∈ cs,v.oneCell'=true):(storeCells ⟨g,o,none⟩ cs 0).run P W = .ok () (W.setCells g o cs):=by
 have h:=zb5 (fr:=(0,0)) hg (o:=o) (n:=cs.length) hn
 have:=run_storeCells_cells (P:=P) g o cs 0 W (fun j hj=>by rw [Nat.add_zero];exact (h j hj).1) (fun j hj=>by rw [Nat.add_zero];exact (h j hj).2) h1
 simpa using this
theorem zxi {t e ty sz:Nat} {z:Value} (ht:P.underlying t=some (.slice e)) (hv:∀ w,(zeroValue e).run P w = .ok z w) (hz:z.cells.size=sz) (h1:∀ v ∈ z.cells.toList,v.oneCell'=true) {g o n c tt:Nat} {vs:List Value} (hg:W.heap[g]? = some (.cells vs.toArray tt (0,0))) (hn:o+n * sz≤vs.length) :
  (Builtin.clear_ #[t] ty #[.slice (some ⟨g,o,none⟩) n c]).run P W = .ok (.tuple #[]) (W.setCells g o (Builtin.zeroCells z.cells n).toList):=by
 have hzl:(Builtin.zeroCells z.cells n).toList.length=n * sz:=by simp [Builtin.zeroCells,hz]
 cases n with
 | zero =>
  have:(Builtin.zeroCells z.cells 0).toList=[]:=List.eq_nil_of_length_eq_zero (by rw [hzl];simp)
  rw [this]
  simp [Builtin.clear_,run_underlying ht,World.setCells]
 | succ n =>
  have hs:=za1 (P:=P) (cs:=(Builtin.zeroCells z.cells (n+1)).toList) hg (by rw [hzl];exact hn) (fun v hv=>by
   rw [Array.mem_toList_iff] at hv
   simp only [Builtin.zeroCells,Array.mem_map] at hv
   obtain ⟨i,hi,rfl⟩:=hv
   have hpos:0<z.cells.size:=by
    rcases Nat.eq_zero_or_pos z.cells.size with h|h
    ·rw [h] at hi;simp at hi
    ·exact h
   have hlt:i % z.cells.size<z.cells.size:=Nat.mod_lt _ hpos
   rw [getElem!_pos z.cells _ hlt]
   exact h1 _ (by simp))
  simp [Builtin.clear_,run_underlying ht,hv,hs]
theorem zaq {t t' e ty sz:Nat} (ht:P.underlying t=some (.slice e)) (hsz:(P.info? e).map (·.size)=some sz) {g o dLen dCap sLen sCap tt:Nat} {a:Addr} {vs cs:List Value} (hg:W.heap[g]? = some (.cells vs.toArray tt (0,0))) (hl:cs.length=Nat.min sLen dLen * sz) (hsrc:∀ j v,cs[j]? = some v→W.cell? (a.add j)=some v) (hn:o+cs.length≤vs.length) (h1:∀ v ∈ cs,v.oneCell'=true) :
  (Builtin.copy_ #[t,t'] ty #[.slice (some ⟨g,o,none⟩) dLen dCap,.slice (some a) sLen sCap]).run P W = .ok (goInt (Nat.min sLen dLen)) (W.setCells g o cs):=by
 have hs:=za1 (P:=P) hg hn h1
 have hlc:=run_loadCells_list (P:=P) W a cs hsrc
 cases hq:P.info? e with
 | none=>simp [hq] at hsz
 | some i =>
  have hi:i.size=sz:=by simpa [hq] using hsz
  simp [Builtin.copy_,run_underlying ht,Builtin.lenOf,Builtin.firstCells,sizeOf,typeInfo,hq,hi,← hl,hlc,hs]
end
theorem zzz {pre mid post us:List Value} {o:Nat} (ho:o=pre.length) (h:us.length=mid.length):z0n (pre++mid++post) o us=pre++us++post:=by subst ho;exact zdl us pre mid post h
theorem z5f {vs us:List Value} {o:Nat} (h:o+us.length≤vs.length):z0n vs o us=vs.take o++us++vs.drop (o+us.length):=by
 have e:vs=vs.take o++(vs.drop o).take us.length++vs.drop (o+us.length):=by
  rw [List.append_assoc,← List.drop_drop,List.take_append_drop,List.take_append_drop]
 have h1:o=(vs.take o).length:=by rw [List.length_take];omega
 have h2:us.length=((vs.drop o).take us.length).length:=by rw [List.length_take,List.length_drop];omega
 conv=>lhs;rw [e]
 exact zzz h1 h2
theorem zc4 {sz:Nat}:∀ {xs:List (List Dt)},(∀ x ∈ xs,x.length=sz)→xs.flatten.length=xs.length * sz
 | [],_=>by simp
 | x::xs,h=>by rw [List.flatten_cons,List.length_append,h x (List.mem_cons_self ..),zc4 fun y hy=>h y (List.mem_cons_of_mem _ hy),List.length_cons,Nat.succ_mul,Nat.add_comm]
theorem zar {sz:Nat}:∀ {xs:List (List Dt)} (i:Nat),(∀ x ∈ xs,x.length=sz)→(xs.take i).flatten=xs.flatten.take (i * sz)
 | [],i,_=>by simp
 | x::xs,0,_=>by simp
 | x::xs,i+1,h=>by
  have hx:=h x (List.mem_cons_self ..)
  rw [List.take_succ_cons,List.flatten_cons,List.flatten_cons,zar i fun y hy=>h y (List.mem_cons_of_mem _ hy),List.take_append,hx,List.take_of_length_le (show x.length≤(i+1) * sz by rw [hx,Nat.succ_mul];omega),Nat.succ_mul,Nat.add_sub_cancel]
theorem zg0 {sz:Nat} {xs:List (List Dt)} (i:Nat) (h:∀ x ∈ xs,x.length=sz):(xs.drop i).flatten=xs.flatten.drop (i * sz):=by
 have e:xs.flatten=(xs.take i).flatten++(xs.drop i).flatten:=by rw [← List.flatten_append,List.take_append_drop]
 by_cases hi:i≤xs.length
 ·have h1:(xs.take i).flatten.length=i * sz:=by rw [zc4 fun y hy=>h y (List.mem_of_mem_take hy),List.length_take,Nat.min_eq_left hi]
  rw [e,← h1,List.drop_left]
 ·rw [List.drop_of_length_le (by omega),List.drop_of_length_le]
  ·rfl
  ·rw [zc4 h];exact Nat.mul_le_mul_right _ (by omega)
section
variable {P:Program}
theorem zxj {α:Type} [Enc α] {f e sz:Nat} (hn:Enc.n α=sz) (hpos:0<sz) (hen:En P f) (zc:Array Value) (hzc:zc.size=sz)
  (h0:∀ (W:World) (A:Option Addr) (n cap i:Nat),i≤n→n≤cap→cap≤maxLen→Calls P f #[.slice A n cap,.int .i64 i,.int .i64 i] W fun r W'=>r = .returned (.slice A n cap)∧W'=W)
  (hw:∀ (W:World) (g n cap i j:Nat) (vs:List Value),W.heap[g]? = some (.cells vs.toArray e (0,0))→n≤cap→cap≤maxLen→vs.length=cap * sz→(∀ u ∈ vs.take (n * sz),u.oneCell'=true)→i<j→j≤n →
   Calls P f #[.slice (some ⟨g,0,none⟩) n cap,.int .i64 i,.int .i64 j] W fun r W'=>r = .returned (.slice (some ⟨g,0,none⟩) (n - (j - i)) cap)∧W'=((W.drewN 1).setCells g (i * sz) ((vs.take (n * sz)).drop (j * sz))).setCells g ((i+(n - j)) * sz) (Builtin.zeroCells zc (j - i)).toList) :
  Meets P (spD (fun x:List α × Int × Int=>0≤x.2.1∧x.2.1≤x.2.2∧x.2.2≤x.1.length) fun x=>x.1.take x.2.1.toNat++x.1.drop x.2.2.toNat) f ⟨[.mine e sz,.one,.one],[(false,[.fresh e sz])],false⟩:=by
 refine ⟨fun h=>(by cases h),?_⟩
 intro e' sz' ps hps
 injection hps with h1 h2
 injection h1 with h1 h1'
 subst h1;subst h1';subst h2
 intro W F base v xs cells ds args rs hF hbase hvF hxs hown hreps hargs hsp
 obtain ⟨⟨l,i,j⟩,⟨hi0,hij,hjl⟩,he,rfl⟩:=zt hsp
 have he':Dt.l sz xs::ds=Dt.l (Enc.n α) (l.map Enc.e)::[I i,I j]:=he
 injection he' with g1 g2
 injection g1 with g3 g1
 subst g2;subst g1
 simp only at hi0 hij hjl
 obtain ⟨va,vas,rfl,ha,hargs⟩:=z1p hargs
 obtain ⟨vb,vbs,rfl,hb,hargs⟩:=z1p hargs
 obtain rfl:=z34 hargs
 obtain ⟨rfl,_⟩:=z1j ha
 obtain ⟨rfl,_⟩:=z1j hb
 obtain ⟨a,rfl⟩:∃ a:Nat,i=a:=⟨i.toNat,by omega⟩
 obtain ⟨b,rfl⟩:∃ b:Nat,j=b:=⟨j.toNat,by omega⟩
 have hlen:(l.map Enc.e).length=l.length:=List.length_map _
 rw [hlen] at hown
 refine ⟨(l.take a++l.drop b).map Enc.e,?_,fun x hx=>hxs x ?_,?_⟩
 ·show [Dt.l (Enc.n α) _]=_
  rw [hn];rfl
 ·rw [List.map_append,List.map_take,List.map_drop] at hx
  rcases List.mem_append.1 hx with hx|hx
  ·exact List.mem_of_mem_take hx
  ·exact List.mem_of_mem_drop hx
 by_cases hab:a=b
 ·subst hab
  have hsame:l.take a++l.drop a=l:=List.take_append_drop ..
  simp only [Int.toNat_natCast,hsame]
  have hv:∃ A cap,v = .slice A l.length cap∧l.length≤cap∧cap≤maxLen:=by
   rcases hown.2 with ⟨rfl,h0⟩|⟨g,cap,cur,rfl,_,_,h1,h2,_⟩
   ·exact ⟨none,0,by rw [h0],by omega,by unfold maxLen;omega⟩
   ·exact ⟨_,cap,rfl,h1,h2⟩
  obtain ⟨A,cap,rfl,h1,h2⟩:=hv
  refine .inl ⟨hen.run _ _,(h0 W A l.length cap a (by omega) h1 h2).mono ?_⟩
  rintro r W' ⟨rfl,rfl⟩
  exact ⟨_,rfl,_,cells,⟨fun h=>(by cases h),fun _=>rfl⟩,World.grownBy.refl _ _,by rw [hlen];exact hown,hreps,fun _ h=>.inl h⟩
 ·rcases hown.2 with ⟨rfl,h0⟩|⟨g,cap,cur,rfl,hbg,hg,h1,h2,hcs,htk⟩
  ·omega
  ·have hkeep:=hown
   have hml:cells.length=l.length * sz:=hown.1
   have hcs':cur.toList.length=cap * sz:=by simpa using hcs
   have hones:∀ u ∈ cur.toList.take (l.length * sz),u.oneCell'=true:=by rw [htk];exact hreps.one
   refine .inl ⟨hen.run _ _,(hw W g l.length cap a b cur.toList (by simpa using hg) h1 h2 hcs' hones (by omega) (by omega)).mono ?_⟩
   rintro r W' ⟨rfl,rfl⟩
   have hgF:¬ F g:=hvF g rfl
   generalize hW1:(W.drewN 1).setCells g (a * sz) ((cur.toList.take (l.length * sz)).drop (b * sz))=W1
   have hg0:(W.drewN 1).heap[g]? = some (.cells cur.toList.toArray e (0,0)):=by simpa using hg
   have hnl:((cur.toList.take (l.length * sz)).drop (b * sz)).length=(l.length - b) * sz:=by
    rw [htk,List.length_drop,hml,Nat.sub_mul]
   have hzl:(Builtin.zeroCells zc (b - a)).toList.length=(b - a) * sz:=by simp [Builtin.zeroCells,hzc]
   have hg1:=z0t ((cur.toList.take (l.length * sz)).drop (b * sz)) (a * sz) (W.drewN 1) cur.toList hg0
   rw [hW1] at hg1
   have hg2:=z0t (Builtin.zeroCells zc (b - a)).toList ((a+(l.length - b)) * sz) W1 _ hg1
   have hmul1:a * sz+(l.length - b) * sz=(a+(l.length - b)) * sz:=(Nat.add_mul ..).symm
   have hle1:(a+(l.length - b)) * sz≤cap * sz:=Nat.mul_le_mul_right _ (by omega)
   have hle2:(a+(l.length - b)) * sz+(b - a) * sz≤cap * sz:=by rw [← Nat.add_mul];exact Nat.mul_le_mul_right _ (by omega)
   have hle3:a * sz≤l.length * sz:=Nat.mul_le_mul_right _ (by omega)
   have hle4:l.length * sz≤cap * sz:=Nat.mul_le_mul_right _ h1
   have hfar:∀ k,k≠g→(W1.setCells g ((a+(l.length - b)) * sz) (Builtin.zeroCells zc (b - a)).toList).heap[k]? = W.heap[k]?:=by
    intro k hk
    rw [z15 g _ _ _ k hk,← hW1,z15 g _ _ _ k hk]
    rfl
   refine ⟨_,rfl,_,cells.take (a * sz)++cells.drop (b * sz),⟨fun h=>(by cases h),fun _=>rfl⟩,?_,?_,?_,fun _ h=>.inl h⟩
   ·obtain ⟨k1,k2,k3,k4⟩:=z1x g (Builtin.zeroCells zc (b - a)).toList ((a+(l.length - b)) * sz) W1
    obtain ⟨q1,q2,q3,q4⟩:=z1x g ((cur.toList.take (l.length * sz)).drop (b * sz)) (a * sz) (W.drewN 1)
    rw [hW1] at q1 q2 q3 q4
    refine ⟨k1.trans q1,k2.trans q2,k3.trans q3,?_,fun k hk hne=>hfar k fun h=>hne (by rw [h];rfl)⟩
    rw [k4,q4]
    exact Nat.le_refl _
   ·have hl2:((l.take a++l.drop b).map (Enc.e (α:=α))).length=a+(l.length - b):=by
     rw [List.length_map,List.length_append,List.length_take,List.length_drop];omega
    rw [hl2]
    refine ⟨?_,.inr ⟨g,cap,_,by rw [show l.length - (b - a)=a+(l.length - b) by omega],hbg,hg2,by omega,h2,?_,?_⟩⟩
    ·rw [List.length_append,List.length_take,List.length_drop,hml,Nat.min_eq_left hle3,← Nat.sub_mul,hmul1]
    ·rw [List.size_toArray,z0q,z0q];exact hcs'
    ·rw [List.toList_toArray,z5f (by rw [z0q,hzl];omega),List.append_assoc,List.take_append_of_le_length (by rw [List.length_take,z0q];omega),List.take_take,Nat.min_self,z5f (by rw [hnl];omega),List.take_append_of_le_length (by rw [List.length_append,List.length_take,hnl];omega),List.take_of_length_le (by rw [List.length_append,List.length_take,hnl];omega),htk]
     congr 1
     rw [← htk,List.take_take,Nat.min_eq_left hle3]
   ·rw [List.map_append,List.map_take,List.map_drop,List.flatten_append,zar a hxs,zg0 b hxs]
    have hag:Agree F W (W1.setCells g ((a+(l.length - b)) * sz) (Builtin.zeroCells zc (b - a)).toList):=fun k hk=>hfar k fun h=>hgF (h ▸ hk)
    exact ((hreps.take (a * sz)).append (hreps.drop (b * sz))).mono hag (fun _ h=>h)
theorem zp3 {tS tR e sz:Nat} {W:World} (ht:P.underlying tS=some (.slice e)) (hz:∀ w,(sizeOf e).run P w = .ok sz w) {g o b off la ca lb cb t:Nat} {vs:List Value} (hg:W.heap[g]? = some (.cells vs.toArray t (0,0))) (hvs:0<vs.length) (hne:b≠g) {u:Value} (hb:W.cell? ⟨b,off,none⟩=some u) :
  (Extern.SlicesOverlaps.overlaps #[tS,tS] #[tR] #[.slice (some ⟨b,off,none⟩) la ca,.slice (some ⟨g,o,none⟩) lb cb]).run P W = .ok (.bool false) W:=by
 have hnb:(b != g)=true:=by simpa using hne
 have hnb':(b == g)=false:=by simpa using hne
 obtain ⟨arr,tb,fr,hbh,hsz⟩:∃ arr tb fr,W.heap[b]? = some (.cells arr tb fr)∧0<arr.size:=by
  unfold World.cell? at hb
  split at hb
  ·rename_i arr tb fr h
   simp at hb
   obtain ⟨hlt,_⟩:=Array.getElem?_eq_some_iff.1 hb
   exact ⟨arr,tb,fr,h,by omega⟩
  ·cases hb
 have hsa:W.shape? b=some (tb,arr.size):=by simp [World.shape?,hbh]
 have hsb:W.shape? g=some (t,vs.length):=by simp [World.shape?,hg]
 have hfg:∀ k,W.frozen? ⟨g,k,none⟩=false:=fun k=>by simp [World.frozen?,hg]
 obtain ⟨n1,hn1⟩:∃ n,arr.size=n+1:=⟨arr.size - 1,by omega⟩
 obtain ⟨n2,hn2⟩:∃ n,vs.length=n+1:=⟨vs.length - 1,by omega⟩
 rw [hn1] at hsa
 rw [hn2] at hsb
 change Sem.run P (α:=Value) (do
  let some t:=(#[tS,tS]:Array TypeId)[0]? | stuck "slices.overlaps: no parameter types"
  let .slice elem ← underlying t|stuck "slices.overlaps: slice type expected"
  let size ← sizeOf elem
  match (some ⟨b,off,none⟩:Option Addr),(some ⟨g,o,none⟩:Option Addr) with
  | some a,some b =>
   if la=0∨lb=0∨size=0 then pure (Value.bool false)
   else if a.block != b.block && (← frozen a) && (← frozen b) then unsupported .addressObserved
   else do
    if a.block != b.block then do
     noView a;noView b
     if ← mayBeOne a b then return Value.bool ((← choose (.extern "sameAddr.stringBytes" 2)) == 1)
    pure (Value.bool (a.block == b.block && a.off<b.off+lb * size && b.off<a.off+la * size))
  | _,_=>pure (Value.bool false)) W=_
 by_cases h0:la=0∨lb=0∨sz=0
 ·simp [run_underlying ht,hz,h0]
 ·cases hf1:W.frozen? ⟨b,off,none⟩ <;> cases hf2:W.frozen? ⟨b,n1+1,none⟩ <;>
   simp [run_underlying ht,hz,h0,hnb,hnb',frozen,noView,viewAt,mayBeOne,stringish,shape,Sem.run,hsa,hsb,hfg,hf1,hf2]
theorem zde {W:World} {b k:Nat} {v:Value} (o:Obj) (h:W.cell? ⟨b,k,none⟩=some v):(W.alloc o).cell? ⟨b,k,none⟩=some v:=by
 have hlt:b<W.heap.size:=by
  rcases Nat.lt_or_ge b W.heap.size with h'|h'
  ·exact h'
  ·simp [World.cell?,Array.getElem?_eq_none h'] at h
 rw [← h]
 simp only [World.cell?,World.alloc,Array.getElem?_push,Nat.ne_of_lt hlt,if_false]
theorem zxk {W:World} {g o b k:Nat} {us:List Value} (h:b≠g):(W.setCells g o us).cell? ⟨b,k,none⟩=W.cell? ⟨b,k,none⟩:=by
 simp only [World.cell?,z15 g us o W b h]
theorem zxl {W:World} {o:Oper} {a:Act} {K:Act→World→Prop} {Q:Exit→Act→World→Prop} (d s:Operand) (t t':TypeId)
  (ho:o.op = .call { callee:=.builtin .copy,args:=#[d,s],argTypes:=#[t,t'] }) (v u:Value) (hd:a.eval d=v) (hs:a.eval s=u) {v':Value} {w':World}
  (hr:(Builtin.copy_ #[t,t'] o.type #[v,u]).run P W = .ok v' w') (h:K (a.put o.dst v') w'):o.wp P a W K Q:=by
 unfold Oper.wp execOp
 simp only [ho,resolve,invoke,builtin,Sem.run_bind,Sem.run_pure,Result.andThen_ok,List.map_toArray,List.map_cons,List.map_nil,hd,hs,hr]
 exact h
theorem zjs {W:World} {ops:Array Oper} {rest:List Oper} {o:Oper} {a:Act} {Q:Exit→Act→World→Prop} (hgd:o.guard=none) (d s:Operand) (t t':TypeId)
  (ho:o.op = .call { callee:=.builtin .copy,args:=#[d,s],argTypes:=#[t,t'] }) (v u:Value) (hd:a.eval d=v) (hs:a.eval s=u) {v':Value} {w':World}
  (hr:(Builtin.copy_ #[t,t'] o.type #[v,u]).run P W = .ok v' w') (h:wpList P ops Q rest (a.put o.dst v') w'):wpList P ops Q (o::rest) a W :=
 wpList_plain hgd fun _ hK=>zxl d s t t' ho v u hd hs hr (hK _ _ h)
theorem zdf {ops:Array Oper} {o:Oper} {a:Act} {W:World} {K:Act→World→Prop} {Q:Exit→Act→World→Prop} {E:Prop}
  (hg:o.guard=none) (d x:Operand) (dT sT:TypeId) (hop:o.op=Op.call { callee:=Callee.builtin Builtin.copy,args:=#[d,x],argTypes:=#[dT,sT] })
  (v u:Value) (hd:a.eval d=v) (hx:a.eval x=u) {v':Value} {w':World} (hr:(Builtin.copy_ #[dT,sT] o.type #[v,u]).run P W = .ok v' w') (hK:K (a.put o.dst v') w') :
  if Region.wanted o (yielded ops a.tmps)=true then Oper.wp P o a W K Q else E:=by
 have hw:Region.wanted o (yielded ops a.tmps)=true:=by simp [Region.wanted,hg]
 rw [if_pos hw]
 unfold Oper.wp
 simp [execOp,hop,resolve,invoke,builtin,hd,hx,hr,Result.andThen]
 exact hK
theorem zxm {α:Type} [Enc α] {f e sz:Nat} (hn:Enc.n α=sz) (hpos:0<sz) (hen:En P f)
  (hroom:∀ (W:World) (g n cap i b off c:Nat) (vs cs:List Value),W.heap[g]? = some (.cells vs.toArray e (0,0))→n<cap→cap≤maxLen→vs.length=cap * sz→(∀ u ∈ vs.take (n * sz),u.oneCell'=true)→i<n→b≠g→cs.length=sz→(∀ j v,cs[j]? = some v→W.cell? ⟨b,off+j,none⟩=some v)→(∀ v ∈ cs,v.oneCell'=true) →
   Calls P f #[.slice (some ⟨g,0,none⟩) n cap,.int .i64 i,.slice (some ⟨b,off,none⟩) 1 c] W fun r W'=>r = .returned (.slice (some ⟨g,0,none⟩) (n+1) cap)∧W'=((W.drewN 1).setCells g ((i+1) * sz) ((vs.take (n * sz)).drop (i * sz))).setCells g (i * sz) cs)
  (hend:∀ (W:World) (base:Nat) (v:Value) (n b off c:Nat) (olds cs:List Value),W.ownsRow base e sz v n olds→base≤W.heap.size→n≤1000000→cs.length=sz→(∀ j v,cs[j]? = some v→W.cell? ⟨b,off+j,none⟩=some v)→(∀ v ∈ cs,v.oneCell'=true) →
   Calls P f #[v,.int .i64 n,.slice (some ⟨b,off,none⟩) 1 c] W fun r W'=>∃ v',r = .returned v'∧W'.ownsRow base e sz v' (n+1) (olds++cs)∧W.grownBy W' v.ownBlock∧(v'.ownBlock=v.ownBlock∨v'.ownBlock=some W.heap.size))
  (hgrow:∀ (W:World) (g n cap i b off c:Nat) (vs cs:List Value),W.heap[g]? = some (.cells vs.toArray e (0,0))→n=cap→n≤1000000→vs.length=cap * sz→(∀ u ∈ vs.take (n * sz),u.oneCell'=true)→i<n→cs.length=sz→(∀ j v,cs[j]? = some v→W.cell? ⟨b,off+j,none⟩=some v)→(∀ v ∈ cs,v.oneCell'=true) →
   Calls P f #[.slice (some ⟨g,0,none⟩) n cap,.int .i64 i,.slice (some ⟨b,off,none⟩) 1 c] W fun r W'=>∃ G,∃ row:List Value,n+1≤G∧G≤maxLen∧row.length=G * sz∧r = .returned (.slice (some ⟨W.heap.size,0,none⟩) (n+1) G)∧(∀ u ∈ row.take (i * sz),u.oneCell'=true)∧row.take (i * sz)=vs.take (i * sz) ∧
    W'=(((W.alloc (.cells row.toArray e)).drew.setCells W.heap.size (i * sz) cs).drew).setCells W.heap.size ((i+1) * sz) ((vs.take (n * sz)).drop (i * sz))) :
  Meets P (spD (fun x:List α × Int × List α=>0≤x.2.1∧x.2.1≤x.1.length∧x.1.length≤1000000∧x.2.2.length=1) fun x=>x.1.take x.2.1.toNat++x.2.2++x.1.drop x.2.1.toNat) f ⟨[.mine e sz,.one,.one],[(false,[.fresh e sz])],false⟩:=by
 refine ⟨fun h=>(by cases h),?_⟩
 intro e' sz' ps hps
 injection hps with h1 h2
 injection h1 with h1 h1'
 subst h1;subst h1';subst h2
 intro W F base v xs cells ds args rs hF hbase hvF hxs hown hreps hargs hsp
 obtain ⟨⟨l,i,ys⟩,⟨hi0,hil,hlm,hy1⟩,he,rfl⟩:=zt hsp
 have he':Dt.l sz xs::ds=Dt.l (Enc.n α) (l.map Enc.e)::[I i,.l (Enc.n α) (ys.map Enc.e)]:=he
 injection he' with g1 g2
 injection g1 with g3 g1
 subst g2;subst g1
 simp only at hi0 hil hlm hy1
 obtain ⟨y,rfl⟩:=List.length_eq_one_iff.1 hy1
 obtain ⟨va,vas,rfl,ha,hargs⟩:=z1p hargs
 obtain ⟨vb,vbs,rfl,hb,hargs⟩:=z1p hargs
 obtain rfl:=z34 hargs
 obtain ⟨rfl,_⟩:=z1j ha
 obtain ⟨a,rfl⟩:∃ a:Nat,i=a:=⟨i.toNat,by omega⟩
 have hlen:(l.map Enc.e).length=l.length:=List.length_map _
 have hyl:(Enc.e y).length=sz:=by rw [Enc.len,hn]
 rw [hlen] at hown
 have hml:cells.length=l.length * sz:=hown.1
 obtain ⟨b,off,c,cs,rfl,hFb,hcl,hcell,hcr⟩:∃ b off c,∃ cs:List Value,vb = .slice (some ⟨b,off,none⟩) 1 c∧F b∧cs.length=sz∧(∀ j v,cs[j]? = some v→W.cell? ⟨b,off+j,none⟩=some v)∧Reps W F (Enc.e y) cs:=by
  generalize hd:Dt.l (Enc.n α) ([y].map Enc.e)=d at hb
  cases hb with
  | l sz0 zs A n c b o vs k0 k1 k2 k3 k4 k5 k6 =>
   injection hd with e1 e2
   subst e2
   obtain ⟨rfl,hFb⟩:=k4 (by simp)
   refine ⟨b,o,c,(List.range sz).map (vs 0),by rw [k0];rfl,hFb,by simp,fun j v hv=>?_,Reps.of (by simp [hyl]) fun j d v hd hv=>?_⟩
   ·obtain ⟨hj,rfl⟩:=z1a hv
    have h:=k5 0 j (Enc.e y) _ rfl (List.getElem?_eq_getElem (by omega))
    rwa [Nat.zero_mul,Nat.add_zero] at h
   ·obtain ⟨hj,rfl⟩:=z1a hv
    exact k6 0 j (Enc.e y) d rfl hd
  | _=>cases hd
 have hc1:∀ v ∈ cs,v.oneCell'=true:=hcr.one
 refine ⟨(l.take a++[y]++l.drop a).map Enc.e,?_,fun x hx=>?_,?_⟩
 ·show [Dt.l (Enc.n α) _]=_
  rw [hn];rfl
 ·obtain ⟨z,_,rfl⟩:=List.mem_map.1 hx
  rw [Enc.len,hn]
 have hl2:((l.take a++[y]++l.drop a).map (Enc.e (α:=α))).length=l.length+1:=by
  rw [List.length_map,List.length_append,List.length_append,List.length_take,List.length_drop,List.length_singleton];omega
 have hflat:((l.take a++[y]++l.drop a).map (Enc.e (α:=α))).flatten=(l.map Enc.e).flatten.take (a * sz)++Enc.e y++(l.map Enc.e).flatten.drop (a * sz):=by
  rw [List.map_append,List.map_append,List.map_take,List.map_drop,List.flatten_append,List.flatten_append,zar a hxs,zg0 a hxs]
  simp
 rw [hl2,hflat]
 have hle3:a * sz≤l.length * sz:=Nat.mul_le_mul_right _ (by omega)
 have hnew:∀ {W':World},Agree F W W'→Reps W' F ((l.map Enc.e).flatten.take (a * sz)++Enc.e y++(l.map Enc.e).flatten.drop (a * sz)) (cells.take (a * sz)++cs++cells.drop (a * sz)):=fun hag=>(((hreps.take (a * sz)).append hcr).append (hreps.drop (a * sz))).mono hag (fun _ h=>h)
 have hnl:(cells.take (a * sz)++cs++cells.drop (a * sz)).length=(l.length+1) * sz:=by
  rw [List.length_append,List.length_append,List.length_take,List.length_drop,hcl,hml,Nat.min_eq_left hle3,Nat.succ_mul];omega
 by_cases hend':a=l.length
 ·subst hend'
  refine .inl ⟨hen.run _ _,(hend W base v l.length b off c cells cs hown hbase (by omega) hcl hcell hc1).mono ?_⟩
  rintro r W' ⟨v',rfl,q1,q2,q3⟩
  have hag:Agree F W W':=fun k hk=>q2.block k (hF.1 k hk) fun h=>hvF k h.symm hk
  refine ⟨_,rfl,v',_,⟨fun h=>(by cases h),fun _=>rfl⟩,q2,?_,hnew hag,fun k hk=>?_⟩
  ·rw [List.take_of_length_le (by omega),List.drop_of_length_le (by omega),List.append_nil];exact q1
  ·rcases q3 with q3|q3
   ·exact .inl (q3 ▸ hk)
   ·rw [q3] at hk;injection hk with hk;exact .inr (Nat.le_of_eq hk)
 ·rcases hown.2 with ⟨rfl,h0⟩|⟨g,cap,cur,rfl,hbg,hg,h1,h2,hcs,htk⟩
  ·omega
  ·have hcs':cur.toList.length=cap * sz:=by simpa using hcs
   have hones:∀ u ∈ cur.toList.take (l.length * sz),u.oneCell'=true:=by rw [htk];exact hreps.one
   have hgF:¬ F g:=hvF g rfl
   have hbg':b≠g:=fun h=>hgF (h ▸ hFb)
   have hg':W.heap[g]? = some (.cells cur.toList.toArray e (0,0)):=by simpa using hg
   have hal:a<l.length:=by omega
   have hmvl:((cur.toList.take (l.length * sz)).drop (a * sz)).length=(l.length - a) * sz:=by rw [htk,List.length_drop,hml,Nat.sub_mul]
   have e1:(a+1) * sz=a * sz+sz:=Nat.succ_mul ..
   have e2:(a+1) * sz+(l.length - a) * sz=(l.length+1) * sz:=by rw [← Nat.add_mul];congr 1;omega
   have hsplit:∀ vs':List Value,(l.length+1) * sz≤vs'.length→vs'.take (a * sz)=cells.take (a * sz)→(z0n (z0n vs' ((a+1) * sz) ((cur.toList.take (l.length * sz)).drop (a * sz))) (a * sz) cs).take ((l.length+1) * sz)=cells.take (a * sz)++cs++cells.drop (a * sz):=by
    intro vs' hl' ht'
    have k1:a * sz+cs.length≤(z0n vs' ((a+1) * sz) ((cur.toList.take (l.length * sz)).drop (a * sz))).length:=by rw [z0q];omega
    rw [z5f k1,z5f (by rw [hmvl];omega),hcl,hmvl,e2,htk]
    have k2:(vs'.take ((a+1) * sz)++cells.drop (a * sz)++vs'.drop ((l.length+1) * sz)).take (a * sz)=cells.take (a * sz):=by
     rw [List.append_assoc,List.take_append_of_le_length (by rw [List.length_take];omega),List.take_take,Nat.min_eq_left (by omega),ht']
    have k3:(vs'.take ((a+1) * sz)++cells.drop (a * sz)++vs'.drop ((l.length+1) * sz)).drop (a * sz+sz)=cells.drop (a * sz)++vs'.drop ((l.length+1) * sz):=by
     rw [List.append_assoc,List.drop_append,List.drop_of_length_le (by rw [List.length_take];omega),List.length_take,Nat.min_eq_left (by omega),e1,Nat.sub_self,List.nil_append,List.drop_zero]
    rw [k2,k3,← List.append_assoc,List.take_append_of_le_length (by rw [hnl];omega),List.take_of_length_le (by rw [hnl];omega)]
   rcases Nat.lt_or_ge l.length cap with hr|hr
   ·have hcapm:(l.length+1) * sz≤cap * sz:=Nat.mul_le_mul_right _ hr
    refine .inl ⟨hen.run _ _,(hroom W g l.length cap a b off c cur.toList cs hg' hr h2 hcs' hones hal hbg' hcl hcell hc1).mono ?_⟩
    rintro r W' ⟨rfl,rfl⟩
    have hfar:∀ k,k≠g→(((W.drewN 1).setCells g ((a+1) * sz) ((cur.toList.take (l.length * sz)).drop (a * sz))).setCells g (a * sz) cs).heap[k]? = W.heap[k]?:=by
     intro k hk
     rw [z15 g _ _ _ k hk,z15 g _ _ _ k hk]
     rfl
    have hag:Agree F W (((W.drewN 1).setCells g ((a+1) * sz) ((cur.toList.take (l.length * sz)).drop (a * sz))).setCells g (a * sz) cs):=fun k hk=>hfar k fun h=>hgF (h ▸ hk)
    refine ⟨_,rfl,_,_,⟨fun h=>(by cases h),fun _=>rfl⟩,?_,⟨hnl,.inr ⟨g,cap,_,rfl,hbg,z0t cs (a * sz) _ _ (z0t _ ((a+1) * sz) (W.drewN 1) _ hg'),hr,h2,by rw [List.size_toArray,z0q,z0q];exact hcs',?_⟩⟩,hnew hag,fun _ h=>.inl h⟩
    ·obtain ⟨k1,k2,k3,k4⟩:=z1x g cs (a * sz) ((W.drewN 1).setCells g ((a+1) * sz) ((cur.toList.take (l.length * sz)).drop (a * sz)))
     obtain ⟨q1,q2,q3,q4⟩:=z1x g ((cur.toList.take (l.length * sz)).drop (a * sz)) ((a+1) * sz) (W.drewN 1)
     exact ⟨k1.trans q1,k2.trans q2,k3.trans q3,by rw [k4,q4];exact Nat.le_refl _,fun k hk hne=>hfar k fun h=>hne (by rw [h];rfl)⟩
    ·rw [List.toList_toArray]
     refine hsplit _ (by omega) ?_
     rw [← htk,List.take_take,Nat.min_eq_left hle3]
   ·have hcap:l.length=cap:=by omega
    refine .inl ⟨hen.run _ _,(hgrow W g l.length cap a b off c cur.toList cs hg' hcap (by omega) hcs' hones hal hcl hcell hc1).mono ?_⟩
    rintro r W' ⟨G,row,r1,r2,r3,rfl,r4,r5,rfl⟩
    have hGm:(l.length+1) * sz≤G * sz:=Nat.mul_le_mul_right _ r1
    generalize hW0:(W.alloc (.cells row.toArray e)).drew=W0
    have hs0:W0.heap.size=W.heap.size+1:=by rw [← hW0];show (W.heap.push _).size=_;simp
    have hn0:W0.heap[W.heap.size]? = some (.cells row.toArray e (0,0)):=by rw [← hW0];exact heap_alloc_new W _
    have ho0:∀ k,k<W.heap.size→W0.heap[k]? = W.heap[k]?:=fun k hk=>by
     rw [← hW0]
     show (W.alloc (.cells row.toArray e)).heap[k]? = _
     simp only [World.alloc,Array.getElem?_push,Nat.ne_of_lt hk,if_false]
    have hfar:∀ k,k<W.heap.size→(((W0.setCells W.heap.size (a * sz) cs).drew).setCells W.heap.size ((a+1) * sz) ((cur.toList.take (l.length * sz)).drop (a * sz))).heap[k]? = W.heap[k]?:=by
     intro k hk
     rw [z15 _ _ _ _ k (by omega)]
     show (W0.setCells W.heap.size (a * sz) cs).heap[k]? = _
     rw [z15 _ _ _ _ k (by omega),ho0 k hk]
    obtain ⟨z1,z2,z3⟩:W0.os=W.os∧W0.tape=W.tape∧W0.output=W.output:=by rw [← hW0];exact ⟨rfl,rfl,rfl⟩
    have hag:Agree F W (((W0.setCells W.heap.size (a * sz) cs).drew).setCells W.heap.size ((a+1) * sz) ((cur.toList.take (l.length * sz)).drop (a * sz))):=fun k hk=>hfar k (hF.1 k hk)
    have hheap:=z0t ((cur.toList.take (l.length * sz)).drop (a * sz)) ((a+1) * sz) ((W0.setCells W.heap.size (a * sz) cs).drew) _ (z0t cs (a * sz) W0 _ hn0)
    refine ⟨_,rfl,_,_,⟨fun h=>(by cases h),fun _=>rfl⟩,?_,⟨hnl,.inr ⟨W.heap.size,G,_,rfl,hbase,hheap,r1,r2,by rw [List.size_toArray,z0q,z0q];exact r3,?_⟩⟩,hnew hag,fun k hk=>?_⟩
    ·obtain ⟨k1,k2,k3,k4⟩:=z1x W.heap.size ((cur.toList.take (l.length * sz)).drop (a * sz)) ((a+1) * sz) ((W0.setCells W.heap.size (a * sz) cs).drew)
     obtain ⟨q1,q2,q3,q4⟩:=z1x W.heap.size cs (a * sz) W0
     refine ⟨k1.trans (q1.trans z1),k2.trans (q2.trans z2),k3.trans (q3.trans z3),?_,fun k hk hne=>hfar k hk⟩
     rw [k4]
     show W.heap.size≤(W0.setCells W.heap.size (a * sz) cs).heap.size
     rw [q4,hs0];omega
    ·rw [List.toList_toArray]
     have hswap:z0n (z0n row (a * sz) cs) ((a+1) * sz) ((cur.toList.take (l.length * sz)).drop (a * sz))=z0n (z0n row ((a+1) * sz) ((cur.toList.take (l.length * sz)).drop (a * sz))) (a * sz) cs:=by
      have hL:a * sz+cs.length≤row.length:=by omega
      have hR:(a+1) * sz+((cur.toList.take (l.length * sz)).drop (a * sz)).length≤row.length:=by rw [hmvl];omega
      rw [z5f (vs:=z0n row (a * sz) cs) (by rw [z0q];exact hR),z5f hL,z5f (vs:=z0n row ((a+1) * sz) _) (by rw [z0q];exact hL),z5f hR]
      have t1:(row.take (a * sz)++cs++row.drop (a * sz+cs.length)).take ((a+1) * sz)=row.take (a * sz)++cs:=by
       rw [List.take_append_of_le_length (by rw [List.length_append,List.length_take];omega),List.take_of_length_le (by rw [List.length_append,List.length_take];omega)]
      have t2:(row.take (a * sz)++cs++row.drop (a * sz+cs.length)).drop ((a+1) * sz+((cur.toList.take (l.length * sz)).drop (a * sz)).length)=row.drop ((a+1) * sz+((cur.toList.take (l.length * sz)).drop (a * sz)).length):=by
       rw [List.drop_append,List.drop_of_length_le (by rw [List.length_append,List.length_take];omega),List.nil_append,List.drop_drop]
       congr 1
       rw [List.length_append,List.length_take];omega
      have t3:(row.take ((a+1) * sz)++((cur.toList.take (l.length * sz)).drop (a * sz))++row.drop ((a+1) * sz+((cur.toList.take (l.length * sz)).drop (a * sz)).length)).take (a * sz)=row.take (a * sz):=by
       rw [List.append_assoc,List.take_append_of_le_length (by rw [List.length_take];omega),List.take_take,Nat.min_eq_left (by omega)]
      have t4:(row.take ((a+1) * sz)++((cur.toList.take (l.length * sz)).drop (a * sz))++row.drop ((a+1) * sz+((cur.toList.take (l.length * sz)).drop (a * sz)).length)).drop (a * sz+cs.length)=((cur.toList.take (l.length * sz)).drop (a * sz))++row.drop ((a+1) * sz+((cur.toList.take (l.length * sz)).drop (a * sz)).length):=by
       rw [List.append_assoc,List.drop_append,List.drop_of_length_le (by rw [List.length_take];omega),List.nil_append,List.length_take,Nat.min_eq_left (by omega),hcl,e1,Nat.sub_self,List.drop_zero]
      rw [t1,t2,t3,t4,List.append_assoc,List.append_assoc]
     rw [hswap]
     refine hsplit _ (by omega) ?_
     rw [r5,← htk,List.take_take,Nat.min_eq_left hle3]
    ·simp only [Value.ownBlock,Option.some.injEq] at hk
     exact .inr (Nat.le_of_eq hk)
end
end
section
open Go.RowKit
set_option maxRecDepth 100000
set_option maxHeartbeats 4000000
theorem z000 {W:World} {g n cap i j:Nat} {vs:List Value} (hg:W.heap[g]? = some (.cells vs.toArray 63 (0,0))) (hn:n≤cap) (hm:cap≤maxLen) (hcs:vs.length=cap * 6) (h1:∀ u ∈ vs.take (n * 6),u.oneCell'=true) (hij:i<j) (hj:j≤n) :
  Calls Tryd.prog 71 #[.slice (some ⟨g,0,none⟩) n cap,.int .i64 i,.int .i64 j] W fun e w'=>e = .returned (.slice (some ⟨g,0,none⟩) (n - (j - i)) cap) ∧
   w'=((W.drewN 1).setCells g (i * 6) ((vs.take (n * 6)).drop (j * 6))).setCells g ((i+(n - j)) * 6) (Builtin.zeroCells #[.int .i64 0,.int .i64 0,.int .i64 0,.slice none 0 0,.int .i64 0,.bool false] (j - i)).toList:=by
 have hm':cap≤9223372036854775807:=hm
 obtain ⟨news,hnews⟩:∃ news,news=(vs.take (n * 6)).drop (j * 6):=⟨_,rfl⟩
 have hlen:news.length=(n - j) * 6:=by rw [hnews,List.length_drop,List.length_take];omega
 have hg1:W.drew.heap[g]? = some (.cells vs.toArray 63 (0,0)):=hg
 obtain ⟨A,hA,hsrc⟩:∃ A:Addr,(if cap=j then some (⟨g,0,none⟩:Addr) else some ⟨g,j * 6,none⟩)=some A∧Hid (∀ t u,news[t]? = some u→W.drew.cell? (A.add t)=some u):=by
  by_cases h:cap=j
  ·refine ⟨⟨g,0,none⟩,by simp [h],fun t u hu=>?_⟩
   have:=(List.getElem?_eq_some_iff.1 hu).1
   omega
  ·refine ⟨⟨g,j * 6,none⟩,by simp [h],fun t u hu=>?_⟩
   have ht:=(List.getElem?_eq_some_iff.1 hu).1
   rw [hnews,List.getElem?_drop,List.getElem?_take,if_pos (by omega)] at hu
   rw [z3k,cell_of_row _ g _ _ 63 (0,0) hg1]
   simpa using hu
 have s1:Hid (news.length=(n - j) * 6):=hlen
 have s2:Hid (∀ u ∈ news,u.oneCell'=true):=by
  intro u hu
  rw [hnews] at hu
  exact h1 u (List.mem_of_mem_drop hu)
 have s3:Hid (∀ t,t<news.length→(W.drew.cell? ⟨g,0+i * 6+t,none⟩).isSome=true∧W.drew.frozen? ⟨g,0+i * 6+t,none⟩=false):=by
  intro t ht
  have:=zb5 (fr:=(0,0)) hg1 (o:=0+i * 6) (n:=news.length) (by omega)
  exact this t ht
 obtain ⟨W1,hW1⟩:∃ W1,W1=W.drew.setCells g (0+i * 6) news:=⟨_,rfl⟩
 have hg2:W1.heap[g]? = some (.cells (z0n vs (0+i * 6) news).toArray 63 (0,0)):=by rw [hW1];exact z0t _ _ _ _ hg1
 have hcl:∀ ty,(Builtin.clear_ #[39] ty #[.slice (some ⟨g,(i+(n - j)) * 6,none⟩) (n - (i+(n - j))) (cap - (i+(n - j)))]).run Tryd.prog W1 = .ok (.tuple #[]) (W1.setCells g ((i+(n - j)) * 6) (Builtin.zeroCells #[.int .i64 0,.int .i64 0,.int .i64 0,.slice none 0 0,.int .i64 0,.bool false] (n - (i+(n - j)))).toList) :=
  fun ty=>zxi (sz:=6) Tryd.underlying39 Tryd.zeroValue63 rfl (by simp [Value.cells,Value.oneCell']) hg2 (by rw [z0q];omega)
 have hW:Hid (W1=W.drew.setCells g (0+i * 6) news):=hW1
 have hic:i≤cap:=by omega
 have hjc:j≤cap:=by omega
 have hnews:=Lib.hid hnews
 clear hW1 hg2 hg hg1 hlen
 go_enter Tryd.func71,Tryd.ntmps71
 go_wp2_with fail
 obtain ⟨ht,ie,zv,he,hz0,hsz,hbz,hzs⟩:=zgy
 go_region_law (refine step_append_room rfl (.tmp 22) (.tmp 25) 39 rfl 63 ie 6 ht he hsz g 0 i cap (by simp [Act.eval,Act.put]) A (n - j) (cap - j) news (by simp [Act.eval,Act.put,hA]) s1.out hsrc.out s2.out (by omega) s3.out ?_;rw [← hW.out])
 go_wp2
 go_ret
 refine ⟨by rw [show n - (j - i)=i+(n - j) by omega];rfl,?_⟩
 rw [hW.out,Nat.zero_add,hnews.out,show n - (i+(n - j))=j - i by omega]
 rfl
theorem z001 {W:World} {A:Option Addr} {n cap i:Nat} (hi:i≤n) (hn:n≤cap) (hm:cap≤maxLen):Calls Tryd.prog 71 #[.slice A n cap,.int .i64 i,.int .i64 i] W fun r W'=>r = .returned (.slice A n cap)∧W'=W:=by
 have hm':cap≤9223372036854775807:=hm
 have hic:i≤cap:=by omega
 go_enter Tryd.func71,Tryd.ntmps71
 go_wp2_with fail
 all_goals (go_ret;exact ⟨rfl,rfl⟩)
noncomputable def z7p:z6:=spD (fun x:List Coin × Int × Int=>0≤x.2.1∧x.2.1≤x.2.2∧x.2.2≤x.1.length) fun x=>x.1.take x.2.1.toNat++x.1.drop x.2.2.toNat
theorem zxn:Meets Tryd.prog z7p 71 ⟨[.mine 63 6,.one,.one],[(false,[.fresh 63 6])],false⟩ :=
 zxj rfl (by decide) (z2l (fn:=Tryd.f71) (by kernel_rfl) (by kernel_rfl) (by kernel_rfl)) #[.int .i64 0,.int .i64 0,.int .i64 0,.slice none 0 0,.int .i64 0,.bool false] rfl (fun W A n cap i h1 h2 h3=>z001 h1 h2 h3) (fun W g n cap i j vs h1 h2 h3 h4 h5 h6 h7=>z000 h1 h2 h3 h4 h5 h6 h7)
end
section
open Go.RowKit
set_option maxRecDepth 100000
set_option maxHeartbeats 4000000
theorem z002 {W:World} {g o b off la ca lb cb:Nat} {vs:List Value} (hg:W.heap[g]? = some (.cells vs.toArray 63 (0,0))) (hvs:0<vs.length) (hne:b≠g) {u:Value} (hb:W.cell? ⟨b,off,none⟩=some u) :
  (callFunc 74 #[.slice (some ⟨b,off,none⟩) la ca,.slice (some ⟨g,o,none⟩) lb cb]).run Tryd.prog W = .ok (.value (.bool false)) W:=by
 rw [run_callFunc_extern Tryd.func74 (by kernel_rfl) (by kernel_rfl) (by kernel_rfl) (e:=Extern.SlicesOverlaps.overlaps #[39,39] #[4]) (by kernel_rfl),
  zp3 (e:=63) (sz:=6) Tryd.underlying39 Tryd.sizeOf63 hg hvs hne hb]
 rfl
theorem z003 {W:World} {g n cap i b off c:Nat} {vs cs:List Value} (hg:W.heap[g]? = some (.cells vs.toArray 63 (0,0))) (hn:n<cap) (hm:cap≤maxLen) (hcs:vs.length=cap * 6) (h1:∀ u ∈ vs.take (n * 6),u.oneCell'=true) (hi:i<n) (hne:b≠g) (hcl:cs.length=6) (hb:∀ j v,cs[j]? = some v→W.cell? ⟨b,off+j,none⟩=some v) (h1c:∀ v ∈ cs,v.oneCell'=true) :
  Calls Tryd.prog 62 #[.slice (some ⟨g,0,none⟩) n cap,.int .i64 i,.slice (some ⟨b,off,none⟩) 1 c] W fun r W'=>r = .returned (.slice (some ⟨g,0,none⟩) (n+1) cap)∧W'=((W.drewN 1).setCells g ((i+1) * 6) ((vs.take (n * 6)).drop (i * 6))).setCells g (i * 6) cs:=by
 have hm':cap≤9223372036854775807:=hm
 obtain ⟨mv,hmv⟩:∃ mv,mv=(vs.take (n * 6)).drop (i * 6):=⟨_,rfl⟩
 have hlen:mv.length=(n - i) * 6:=by rw [hmv,List.length_drop,List.length_take];omega
 have hg1:W.drew.heap[g]? = some (.cells vs.toArray 63 (0,0)):=hg
 obtain ⟨u0,hu0⟩:∃ u,W.cell? ⟨b,off,none⟩=some u:=by
  have h:=hb 0 (cs[0]'(by omega)) (List.getElem?_eq_getElem (by omega))
  exact ⟨_,h⟩
 have hov:∀ lb cb,(callFunc 74 #[.slice (some ⟨b,off,none⟩) 1 c,.slice (some ⟨g,(i+1) * 6,none⟩) lb cb]).run Tryd.prog W = .ok (.value (.bool false)) W:=fun lb cb=>z002 hg (by omega) hne hu0
 have hsz:(Tryd.prog.info? 63).map (·.size)=some 6:=by kernel_rfl
 have hcp1:∀ ty dc sc,(Builtin.copy_ #[39,39] ty #[.slice (some ⟨g,(i+1) * 6,none⟩) (n - i) dc,.slice (some ⟨g,i * 6,none⟩) (n+1 - i) sc]).run Tryd.prog W.drew = .ok (goInt (Nat.min (n+1 - i) (n - i):Nat)) (W.drew.setCells g ((i+1) * 6) mv):=fun ty dc sc =>
  zaq Tryd.underlying39 hsz hg1 (by rw [hlen];show _=min _ _ * 6;rw [Nat.min_def];split <;> omega) (fun j v hj=>by
   rw [z3k,cell_of_row _ g _ _ 63 (0,0) hg1]
   have hlt:=(List.getElem?_eq_some_iff.1 hj).1
   rw [hmv,List.getElem?_drop,List.getElem?_take,if_pos (by omega)] at hj
   simpa using hj) (by omega) (fun v hv=>h1 v (by rw [hmv] at hv;exact List.mem_of_mem_drop hv))
 obtain ⟨W1,hW1⟩:∃ W1,W1=W.drew.setCells g ((i+1) * 6) mv:=⟨_,rfl⟩
 have hg2:W1.heap[g]? = some (.cells (z0n vs ((i+1) * 6) mv).toArray 63 (0,0)):=by rw [hW1];exact z0t _ _ _ _ hg1
 have hcp2:∀ ty dc,(Builtin.copy_ #[39,39] ty #[.slice (some ⟨g,i * 6,none⟩) (n+1 - i) dc,.slice (some ⟨b,off,none⟩) 1 c]).run Tryd.prog W1 = .ok (goInt (Nat.min 1 (n+1 - i):Nat)) (W1.setCells g (i * 6) cs):=fun ty dc =>
  zaq Tryd.underlying39 hsz hg2 (by rw [hcl];show _=min _ _ * 6;rw [Nat.min_def];split <;> omega) (fun j v hj=>by
   rw [z3k,hW1,zxk hne]
   exact hb j v hj) (by rw [z0q];omega) h1c
 rw [← hW1] at hcp1
 have hw1:IntKind.i64.wrap ((i:Int)+1)=(i:Int)+1:=by rw [IntKind.wrap_i64];omega
 have hw2:IntKind.i64.wrap ((n:Int)+1)=(n:Int)+1:=by rw [IntKind.wrap_i64];omega
 have hz2:¬ ((i:Int)=(n:Int)):=by omega
 have hp1:(i:Int)≤(n:Int)+1:=by omega
 have hp0:(0:Int)≤(i:Int)+1:=by omega
 have hb1:¬ (cap=i+1):=by omega
 have hb4:¬ (cap=i):=by omega
 have hin:i≤n:=by omega
 have hic:i≤cap:=by omega
 have hW:=Lib.hid hW1
 have hmv':=Lib.hid hmv
 clear hmv hlen hg hg1 hg2 hW1 hcs h1 hb h1c hcl hu0
 go_enter Tryd.func62,Tryd.ntmps62
 go_wp2_with (simp only [hov])
 go_region_law (refine zdf rfl _ _ 39 39 rfl _ _ (by simp [Act.eval,Act.put]) (by simp [Act.eval,Act.put]) (hcp1 _ _ _) ?_)
 go_wp2_with (at_builtin;refine zjs rfl _ _ 39 39 rfl _ _ rfl rfl (hcp2 _ _) ?_)
 go_ret
 refine ⟨rfl,?_⟩
 rw [hW.out,hmv'.out]
 rfl
theorem z02i {W:World} {base:Nat} {v:Value} {n b off c:Nat} {olds cs:List Value} (hown:W.ownsRow base 63 6 v n olds) (hbase:base≤W.heap.size) (hn:n≤1000000) (hcl:cs.length=6) (hb:∀ j v,cs[j]? = some v→W.cell? ⟨b,off+j,none⟩=some v) (h1c:∀ v ∈ cs,v.oneCell'=true) :
  Calls Tryd.prog 62 #[v,.int .i64 n,.slice (some ⟨b,off,none⟩) 1 c] W fun r W'=>∃ v',r = .returned v'∧W'.ownsRow base 63 6 v' (n+1) (olds++cs)∧W.grownBy W' v.ownBlock∧(v'.ownBlock=v.ownBlock∨v'.ownBlock=some W.heap.size):=by
 obtain ⟨ht,ie,zv,he,hz0,hsz,hbz,hzs⟩:=zgy
 have hrun:∀ ty,∃ v' W',(Builtin.append_ #[39,39] ty #[v,.slice (some ⟨b,off,none⟩) 1 c]).run Tryd.prog W = .ok v' W'∧W'.ownsRow base 63 6 v' (n+1) (olds++cs)∧W.grownBy W' v.ownBlock∧(v'.ownBlock=v.ownBlock∨v'.ownBlock=some W.heap.size):=fun ty=>by
  obtain ⟨v',W',hr,h2,h3,_,h5⟩:=run_append_own_at (P:=Tryd.prog) W base 39 ty 63 ie zv 6 64 ht he hz0 hsz hbz hzs (by decide) v n olds hown ⟨b,off,none⟩ 1 c cs (by omega) (fun j u hj=>by rw [z3k];exact hb j u hj) h1c (by unfold maxLen;omega) (by omega) hbase
  exact ⟨v',W',hr,h2,h3,h5⟩
 obtain ⟨v',W',hr,h2,h3,h4⟩:=hrun 39
 have hv:∃ A cap,v = .slice A n cap∧n≤cap∧cap≤maxLen:=by
  rcases hown.2 with ⟨rfl,h0⟩|⟨g,cap,cur,rfl,_,_,h1,h2,_⟩
  ·exact ⟨none,0,by rw [h0],by omega,by unfold maxLen;omega⟩
  ·exact ⟨_,cap,rfl,h1,h2⟩
 obtain ⟨A,cap,rfl,hc1,hc2⟩:=hv
 have hc3:cap≤9223372036854775807:=hc2
 have R:=Lib.hid (And.intro h2 (And.intro h3 h4))
 clear h2 h3 h4 hown hrun hb h1c hcl hbase
 go_enter Tryd.func62,Tryd.ntmps62
 go_wp2_with (at_builtin;refine Lib.wpList_append_run _ rfl _ _ _ _ rfl _ _ rfl rfl _ _ hr ?_)
 all_goals (go_ret;have R':=R.out;first|exact ⟨v',rfl,R'⟩|(subst_vars;exact ⟨v',rfl,R'⟩))
theorem z004 {W:World} {g n cap i b off c:Nat} {vs cs:List Value} (hg:W.heap[g]? = some (.cells vs.toArray 63 (0,0))) (hn:n=cap) (hm:n≤1000000) (hcs:vs.length=cap * 6) (h1:∀ u ∈ vs.take (n * 6),u.oneCell'=true) (hi:i<n) (hcl:cs.length=6) (hb:∀ j v,cs[j]? = some v→W.cell? ⟨b,off+j,none⟩=some v) (h1c:∀ v ∈ cs,v.oneCell'=true) :
  Calls Tryd.prog 62 #[.slice (some ⟨g,0,none⟩) n cap,.int .i64 i,.slice (some ⟨b,off,none⟩) 1 c] W fun r W'=>∃ G,∃ row:List Value,n+1≤G∧G≤maxLen∧row.length=G * 6∧r = .returned (.slice (some ⟨W.heap.size,0,none⟩) (n+1) G)∧(∀ u ∈ row.take (i * 6),u.oneCell'=true)∧row.take (i * 6)=vs.take (i * 6) ∧
   W'=(((W.alloc (.cells row.toArray 63)).drew.setCells W.heap.size (i * 6) cs).drew).setCells W.heap.size ((i+1) * 6) ((vs.take (n * 6)).drop (i * 6)):=by
 obtain ⟨ht,ie,zv,he,hz0,hszI,hbz,hzs⟩:=zgy
 have hz1:¬ ((1:Int)=0):=by decide
 have hz2:¬ ((i:Int)=(n:Int)):=by omega
 have hz3:(cap:Int)<(n:Int)+1:=by omega
 have hsz:(Tryd.prog.info? 63).map (·.size)=some 6:=by kernel_rfl
 have hgl:g<W.heap.size:=by
  rcases Nat.lt_or_ge g W.heap.size with h|h
  ·exact h
  ·rw [Array.getElem?_eq_none h] at hg;cases hg
 have hbl:b<W.heap.size:=block_lt_of_cell (hb 0 _ (List.getElem?_eq_getElem (by omega)))
 have hkk:(n:Int)+1 - (i:Int)=((n+1 - i:Nat):Int):=by omega
 have hik:i+(n+1 - i)=n+1:=by omega
 have hg1:W.drew.heap[g]? = some (.cells vs.toArray 63 (0,0)):=hg
 have hold:(Builtin.firstCells ie.size i (.slice (some ⟨g,0,none⟩) i cap)).run Tryd.prog W.drew = .ok (vs.take (i * 6)).toArray W.drew:=by
  rw [hszI]
  exact run_firstCells_some W.drew 6 i ⟨g,0,none⟩ i cap (vs.take (i * 6)) (by rw [List.length_take];omega) (fun j v hj=>by
   rw [z3k,cell_of_row _ g _ _ 63 (0,0) hg1]
   rw [List.getElem?_take] at hj
   split at hj
   ·simpa using hj
   ·cases hj)
 have hrz:∀ ty,(Builtin.append_ #[39,3] ty #[.slice (some ⟨g,0,none⟩) i cap,.int .i64 ((n:Int)+1 - (i:Int))]).run Tryd.prog W =
   .ok (.slice (some ⟨W.heap.size,0,none⟩) (n+1) (grownCap W (n+1) cap 63)) (W.drew.alloc (.cells ((vs.take (i * 6)).toArray++Builtin.zeroCells zv.cells (n+1 - i)++Builtin.zeroCells zv.cells (grownCap W (n+1) cap 63 - (n+1))) 63)):=fun ty=>by
  have h:=Lib.run_append_grow_zeros W 39 3 ty 63 ie zv .i64 .i64 ht Tryd.underlying3 he hz0 (some ⟨g,0,none⟩) i cap (vs.take (i * 6)) hold (n+1 - i) (by omega) (by omega) (by omega) (by omega) (by rw [hbz];omega) (by rw [hbz,hik];exact growslice_fits (by omega) (by omega))
  rw [hik] at h
  rw [hkk]
  exact h
 obtain ⟨G,hG⟩:∃ G,G=grownCap W (n+1) cap 63:=⟨_,rfl⟩
 obtain ⟨row,hrow⟩:∃ row:List Value,row=vs.take (i * 6)++(Builtin.zeroCells zv.cells (n+1 - i)).toList++(Builtin.zeroCells zv.cells (G - (n+1))).toList:=⟨_,rfl⟩
 have hrowA:row.toArray=(vs.take (i * 6)).toArray++Builtin.zeroCells zv.cells (n+1 - i)++Builtin.zeroCells zv.cells (G - (n+1)):=by rw [hrow];simp
 rw [← hG,← hrowA] at hrz
 have hGn:n+1≤G:=by rw [hG];exact grownCap_ge W _ _ _
 have hGm:G≤maxLen:=by rw [hG];exact grownCap_le_maxLen W (n+1) cap 63 (by unfold maxLen;omega)
 have hG63:G≤9223372036854775807:=hGm
 have hrl:row.length=G * 6:=by
  rw [hrow]
  simp only [List.length_append,List.length_take,Array.length_toList,Builtin.zeroCells,Array.size_map,Array.size_range,hzs]
  omega
 have hrt:row.take (i * 6)=vs.take (i * 6):=by
  rw [hrow,List.append_assoc,List.take_append_of_le_length (by rw [List.length_take];omega),List.take_take,Nat.min_self]
 obtain ⟨mv,hmv⟩:∃ mv,mv=(vs.take (n * 6)).drop (i * 6):=⟨_,rfl⟩
 have hlen:mv.length=(n - i) * 6:=by rw [hmv,List.length_drop,List.length_take];omega
 have hcpA:∀ (W':World),W'.heap[W.heap.size]? = some (.cells row.toArray 63 (0,0))→(∀ k v,W.cell? ⟨b,k,none⟩=some v→W'.cell? ⟨b,k,none⟩=some v)→∀ ty dc,(Builtin.copy_ #[39,39] ty #[.slice (some ⟨W.heap.size,i * 6,none⟩) (n+1 - i) dc,.slice (some ⟨b,off,none⟩) 1 c]).run Tryd.prog W' = .ok (goInt (Nat.min 1 (n+1 - i):Nat)) (W'.setCells W.heap.size (i * 6) cs):=fun W' h1' h2' ty dc =>
  zaq ht hsz h1' (by rw [hcl];show _=min _ _ * 6;rw [Nat.min_def];split <;> omega) (fun j v hj=>by rw [z3k];exact h2' _ v (hb j v hj)) (by omega) h1c
 have hcpB:∀ (W':World) (vs':List Value),vs'.length=G * 6→W'.heap[W.heap.size]? = some (.cells vs'.toArray 63 (0,0))→W'.heap[g]? = some (.cells vs.toArray 63 (0,0))→∀ ty dc sc,(Builtin.copy_ #[39,39] ty #[.slice (some ⟨W.heap.size,(i+1) * 6,none⟩) (n - i) dc,.slice (some ⟨g,i * 6,none⟩) (n - i) sc]).run Tryd.prog W' = .ok (goInt (Nat.min (n - i) (n - i):Nat)) (W'.setCells W.heap.size ((i+1) * 6) mv):=fun W' vs' hl' h1' h2' ty dc sc =>
  zaq ht hsz h1' (by rw [hlen];show _=min _ _ * 6;rw [Nat.min_def];split <;> omega) (fun j v hj=>by
   rw [z3k,cell_of_row _ g _ _ 63 (0,0) h2']
   have hlt:=(List.getElem?_eq_some_iff.1 hj).1
   rw [hmv,List.getElem?_drop,List.getElem?_take,if_pos (by omega)] at hj
   simpa using hj) (by omega) (fun v hv=>h1 v (by rw [hmv] at hv;exact List.mem_of_mem_drop hv))
 have hA:=hcpA ((W.alloc (.cells row.toArray 63)).drew) (heap_alloc_new W _) (fun k v h=>zde _ h)
 have hA':=hcpA (W.drew.alloc (.cells row.toArray 63)) (heap_alloc_new W.drew _) (fun k v h=>zde (W:=W.drew) _ h)
 have hgold:(W.alloc (.cells row.toArray 63)).heap[g]? = some (.cells vs.toArray 63 (0,0)):=by
  have:(W.alloc (.cells row.toArray 63)).heap[g]? = W.heap[g]?:=by simp only [World.alloc,Array.getElem?_push,Nat.ne_of_lt hgl,if_false]
  rw [this];exact hg
 have hB:=hcpB (((W.alloc (.cells row.toArray 63)).drew.setCells W.heap.size (i * 6) cs).drew) (z0n row (i * 6) cs) (by rw [z0q,hrl]) (z0t _ _ (W.alloc (.cells row.toArray 63)).drew _ (heap_alloc_new W _)) (by
  show ((W.alloc (.cells row.toArray 63)).drew.setCells W.heap.size (i * 6) cs).heap[g]? = _
  rw [z15 _ _ _ _ _ (by omega)];exact hgold)
 have hw1:IntKind.i64.wrap ((i:Int)+1)=(i:Int)+1:=by rw [IntKind.wrap_i64];omega
 have hw2:IntKind.i64.wrap ((n:Int)+1)=(n:Int)+1:=by rw [IntKind.wrap_i64];omega
 have hp1:(i:Int)≤(n:Int)+1:=by omega
 have hp0:(0:Int)≤(i:Int)+1:=by omega
 have hGi:¬ (G=i):=by omega
 have hGi1:¬ (G=i+1):=by omega
 have hci:¬ (cap=i):=by omega
 have hin:i≤n:=by omega
 have R:Hid (n+1≤G∧G≤maxLen∧row.length=G * 6∧(∀ u ∈ row.take (i * 6),u.oneCell'=true)∧row.take (i * 6)=vs.take (i * 6)∧mv=(vs.take (n * 6)).drop (i * 6)):=Lib.hid ⟨hGn,hGm,hrl,fun u hu=>h1 u (by rw [hrt] at hu;exact (List.take_sublist_take_left (by omega)).subset hu),hrt,hmv⟩
 have hic:i≤cap:=by omega
 have hn':=Lib.hid hn
 clear hn hmv hlen hg hg1 hgold hcs h1 hb h1c hcl hcpA hcpB hrt hrl hrow hrowA hG hGm hold hkk hik
 go_enter Tryd.func62,Tryd.ntmps62
 go_wp2_with ((at_builtin;refine Lib.wpList_append_run _ rfl _ _ _ _ rfl _ _ rfl rfl _ _ (hrz _) ?_))
 go_region_law (refine zdf rfl _ _ 39 39 rfl _ _ (by simp [Act.eval,Act.put]) (by simp [Act.eval,Act.put]) (hB _ _ _) ?_)
 go_wp2
 go_ret
 obtain ⟨r1,r2,r3,r4,r5,r6⟩:=R.out
 exact ⟨G,row,r1,r2,r3,rfl,r4,r5,by rw [r6]⟩
noncomputable def z7q:z6:=spD (fun x:List Coin × Int × List Coin=>0≤x.2.1∧x.2.1≤x.1.length∧x.1.length≤1000000∧x.2.2.length=1) fun x=>x.1.take x.2.1.toNat++x.2.2++x.1.drop x.2.1.toNat
theorem zxo:Meets Tryd.prog z7q 62 ⟨[.mine 63 6,.one,.one],[(false,[.fresh 63 6])],false⟩ :=
 zxm rfl (by decide) (z2l (fn:=Tryd.f62) (by kernel_rfl) (by kernel_rfl) (by kernel_rfl)) (fun W g n cap i b off c vs cs h1 h2 h3 h4 h5 h6 h7 h8 h9 h10=>z003 h1 h2 h3 h4 h5 h6 h7 h8 h9 h10) (fun W base v n b off c olds cs h1 h2 h3 h4 h5 h6=>z02i h1 h2 h3 h4 h5 h6) (fun W g n cap i b off c vs cs h1 h2 h3 h4 h5 h6 h7 h8 h9=>z004 h1 h2 h3 h4 h5 h6 h7 h8 h9)
end
section
open Go.RowKit
set_option maxRecDepth 100000
set_option maxHeartbeats 4000000
theorem zjt (l:List Coin) (i j:Int) (h:0≤i∧i≤j∧j≤l.length):z7p [.l 6 (l.map zg),I i,I j]=some [.l 6 ((l.take i.toNat++l.drop j.toNat).map zg)]:=zp (p:=fun x:List Coin × Int × Int=>0≤x.2.1∧x.2.1≤x.2.2∧x.2.2≤x.1.length) (f:=fun x:List Coin × Int × Int=>x.1.take x.2.1.toNat++x.1.drop x.2.2.toNat) (l,i,j) h
theorem zb0 (l:List Coin) (i:Int) (c:Coin) (h:0≤i∧i≤l.length∧l.length≤1000000):z7q [.l 6 (l.map zg),I i,.l 6 ([c].map zg)]=some [.l 6 ((l.take i.toNat++[c]++l.drop i.toNat).map zg)]:=zp (p:=fun x:List Coin × Int × List Coin=>0≤x.2.1∧x.2.1≤x.1.length∧x.1.length≤1000000∧x.2.2.length=1) (f:=fun x:List Coin × Int × List Coin=>x.1.take x.2.1.toNat++x.2.2++x.1.drop x.2.1.toNat) (l,i,[c]) ⟨h.1,h.2.1,h.2.2,rfl⟩
noncomputable def z4n:z6:=spD (fun _:List Coin × Tx × Int × Int=>True) fun x=>zl x.1 x.2.1 x.2.2.1 x.2.2.2
theorem zju (l:List Coin) (t:Tx) (nm h:Int):z4n [.l 6 (l.map zg),I t.height,.l 3 (t.ins.map eIn),.l 2 (t.outs.map z16),I nm,I h]=some [.l 6 ((zl l t nm h).1.map zg),.l 6 ((zl l t nm h).2.1.map zg),I (zl l t nm h).2.2]:=zp (f:=fun x:List Coin × Tx × Int × Int=>zl x.1 x.2.1 x.2.2.1 x.2.2.2) (l,t,nm,h) trivial
theorem zuz {a b:Dt} {n:Int} {pk:List PK} {l:Bool} {g:Bool}:z41 ⟨pk,[(false,[.pure]),(g,[.pure]),(false,[.scal])],l⟩ [a,b,I n]:=by
 intro i d hi hd
 match i,hi,hd with
 | 0,hi,_=>simp [zd] at hi
 | 1,hi,_=>simp [zd] at hi
 | 2,_,hd=>simp only [List.getElem?_cons_succ,List.getElem?_cons_zero,Option.some.injEq] at hd;subst hd;rfl
 | i+3,hi,_=>simp [zd] at hi
attribute [local irreducible] z05 spD z1b zh zj z2u z0s z2t za
theorem zjv (t:Tx):z7e [I t.height,.l 3 (t.ins.map eIn),.l 2 (t.outs.map z16)]=some [I (zj t)]:=zp (f:=fun t:Tx=>zj t) t trivial
def zrn:T :=
 .lets [.bin .add (.v 28) (.c (.i .i64 1))] [] (.lets [.call 13 [.v 22,.v 28,.v 44] 0] [] (.lets [.bin .add (.v 23) (.c (.i .i64 1))] [] (.again 0 [.v 19,.v 20,.v 43,.v 45,.v
 46])))
def zro:T :=
 .ite (.v 41) (.ret [.c (.nil 6),.c (.nil 6),.c (.i .i64 8)]) (.lets [.mk 6 [[.v 31,.v 32,.v 33,.v 34,.v 35,.v 36]]] [] (.lets [.app 6 (.v 21) (.v 42)] [] zrn))
def zrp:T :=
 .ite (.v 38) (.ret [.c (.nil 6),.c (.nil 6),.c (.i .i64 10)]) (.lets [.call 15 [.v 34,.v 27,.v 5] 0,.call 15 [.v 34,.v 27,.v 5] 1] [] (.lets [.not (.v 39)] [] zro))
def zrq:T :=
 .lets [.bin .add (.v 28) (.c (.i .i64 1))] [] (.lets [.call 13 [.v 22,.v 28,.v 42] 0] [] (.lets [.bin .add (.v 23) (.c (.i .i64 1))] [] (.again 0 [.v 19,.v 20,.v 41,.v 43,.v
 44])))
def zrr:T :=
 .ite (.v 39) (.ret [.c (.nil 6),.c (.nil 6),.c (.i .i64 8)]) (.lets [.mk 6 [[.v 31,.v 32,.v 33,.v 34,.v 35,.v 36]]] [] (.lets [.app 6 (.v 21) (.v 40)] [] zrq))
def zrs:T :=
 .ite (.v 36) (.lets [.bin .add (.v 35) (.c (.i .i64 2))] [] (.lets [.bin .lss (.v 5) (.v 37)] [] zrp)) (.lets [.call 15 [.v 34,.v 27,.v 5] 0,.call 15 [.v 34,.v 27,.v 5]
 1] [] (.lets [.not (.v 37)] [] zrr))
def zrt:T :=
 .lets [.idx (.v 22) (.v 28) 0,.idx (.v 22) (.v 28) 1,.idx (.v 22) (.v 28) 2,.idx (.v 22) (.v 28) 3,.idx (.v 22) (.v 28) 4,.idx (.v 22) (.v 28) 5] [] zrs
def zru:T :=
 .lets [.call 6 [.v 22,.v 25,.v 26] 0,.call 6 [.v 22,.v 25,.v 26] 1] [] (.lets [.not (.v 29)] [] (.ite (.v 30) (.ret [.c (.nil 6),.c (.nil 6),.c (.i .i64 7)]) (.lets [] [.inr
 6 (.v 22) (.v 28)] zrt)))
def zrv:T :=
 .lets [.mk 6 [[.v 4,.v 29,.v 31,.v 35,.v 5,.v 15]]] [] (.lets [.call 14 [.v 28,.v 33,.v 36] 0] [] (.lets [.bin .add (.v 29) (.c (.i .i64 1))] [] (.again 1 [.v 26,.v 27,.v
 37,.v 38])))
def zrw:T :=
 .lets [.call 6 [.v 28,.v 4,.v 29] 0,.call 6 [.v 28,.v 4,.v 29] 1] [] (.ite (.v 34) (.ret [.c (.nil 6),.c (.nil 6),.c (.i .i64 6)]) (.lets [.call 10 [.v 32] 0] []
 zrv))
def zp4:T :=
 .lets [.call 8 [.v 28] 0] [] (.lets [.bin .neq (.v 31) (.c (.i .i64 0))] [] (.ite (.v 32) (.ret [.c (.nil 6),.c (.nil 6),.v 31]) (.ret [.v 28,.v 21,.c (.i .i64 0)])))
def zp5:T :=
 .lets [.bin .lss (.v 29) (.v 25)] [] (.ite (.v 30) (.lets [] [.inr 2 (.v 3) (.v 29)] (.lets [.idx (.v 3) (.v 29) 0,.idx (.v 3) (.v 29) 1] [] zrw)) zp4)
def zp6:T :=
 .ite (.v 24) (.lets [] [.inr 3 (.v 2) (.v 23)] (.lets [.idx (.v 2) (.v 23) 0,.idx (.v 2) (.v 23) 1,.idx (.v 2) (.v 23) 2] [] zru)) (.lets [.len (.v 3)] [] (.loop [.c (.nil
 6),.c (.i .i64 0),.v 22,.c (.i .i64 0)] zp5))
def zp7:T :=
 .lets [.call 11 [.v 0] 0] [] (.lets [.len (.v 2)] [] (.loop [.c (.nil 6),.c (.i .i64 0),.c (.nil 6),.v 17,.c (.i .i64 0)] (.lets [.bin .lss (.v 23) (.v 18)] [] zp6)))
def zp8:T :=
 .lets [.bin .add (.v 27) (.c (.i .i64 1))] [] (.lets [.call 13 [.v 21,.v 27,.v 43] 0] [] (.lets [.bin .add (.v 22) (.c (.i .i64 1))] [] (.again 0 [.v 18,.v 19,.v 42,.v 44,.v
 45])))
def zp9:T :=
 .ite (.v 40) (.ret [.c (.nil 6),.c (.nil 6),.c (.i .i64 8)]) (.lets [.mk 6 [[.v 30,.v 31,.v 32,.v 33,.v 34,.v 35]]] [] (.lets [.app 6 (.v 20) (.v 41)] [] zp8))
def zpa:T :=
 .ite (.v 37) (.ret [.c (.nil 6),.c (.nil 6),.c (.i .i64 10)]) (.lets [.call 15 [.v 33,.v 26,.v 5] 0,.call 15 [.v 33,.v 26,.v 5] 1] [] (.lets [.not (.v 38)] [] zp9))
def zpb:T :=
 .lets [.bin .add (.v 27) (.c (.i .i64 1))] [] (.lets [.call 13 [.v 21,.v 27,.v 41] 0] [] (.lets [.bin .add (.v 22) (.c (.i .i64 1))] [] (.again 0 [.v 18,.v 19,.v 40,.v 42,.v
 43])))
def zpc:T :=
 .ite (.v 38) (.ret [.c (.nil 6),.c (.nil 6),.c (.i .i64 8)]) (.lets [.mk 6 [[.v 30,.v 31,.v 32,.v 33,.v 34,.v 35]]] [] (.lets [.app 6 (.v 20) (.v 39)] [] zpb))
def zpd:T :=
 .ite (.v 35) (.lets [.bin .add (.v 34) (.c (.i .i64 2))] [] (.lets [.bin .lss (.v 5) (.v 36)] [] zpa)) (.lets [.call 15 [.v 33,.v 26,.v 5] 0,.call 15 [.v 33,.v 26,.v
 5] 1] [] (.lets [.not (.v 36)] [] zpc))
def zpe:T :=
 .lets [.idx (.v 21) (.v 27) 0,.idx (.v 21) (.v 27) 1,.idx (.v 21) (.v 27) 2,.idx (.v 21) (.v 27) 3,.idx (.v 21) (.v 27) 4,.idx (.v 21) (.v 27) 5] [] zpd
def zpf:T :=
 .lets [.call 6 [.v 21,.v 24,.v 25] 0,.call 6 [.v 21,.v 24,.v 25] 1] [] (.lets [.not (.v 28)] [] (.ite (.v 29) (.ret [.c (.nil 6),.c (.nil 6),.c (.i .i64 7)]) (.lets [] [.inr
 6 (.v 21) (.v 27)] zpe)))
def zpg:T :=
 .lets [.mk 6 [[.v 4,.v 30,.v 32,.v 36,.v 5,.v 15]]] [] (.lets [.call 14 [.v 29,.v 34,.v 37] 0] [] (.lets [.bin .add (.v 30) (.c (.i .i64 1))] [] (.again 1 [.v 27,.v 28,.v
 38,.v 39])))
def zph:T :=
 .lets [.call 6 [.v 29,.v 4,.v 30] 0,.call 6 [.v 29,.v 4,.v 30] 1] [] (.ite (.v 35) (.ret [.c (.nil 6),.c (.nil 6),.c (.i .i64 6)]) (.lets [.call 10 [.v 33] 0] []
 zpg))
def zpi:T :=
 .lets [.call 8 [.v 29] 0] [] (.lets [.bin .neq (.v 32) (.c (.i .i64 0))] [] (.ite (.v 33) (.ret [.c (.nil 6),.c (.nil 6),.v 32]) (.ret [.v 29,.v 20,.c (.i .i64 0)])))
def zpj:T :=
 .lets [.bin .lss (.v 30) (.v 26)] [] (.ite (.v 31) (.lets [] [.inr 2 (.v 3) (.v 30)] (.lets [.idx (.v 3) (.v 30) 0,.idx (.v 3) (.v 30) 1] [] zph)) zpi)
def zpk:T :=
 .ite (.v 25) (.ret [.c (.nil 6),.c (.nil 6),.c (.i .i64 9)]) (.lets [.len (.v 3)] [] (.loop [.c (.nil 6),.c (.i .i64 0),.v 21,.c (.i .i64 0)] zpj))
def zpl:T :=
 .ite (.v 23) (.lets [] [.inr 3 (.v 2) (.v 22)] (.lets [.idx (.v 2) (.v 22) 0,.idx (.v 2) (.v 22) 1,.idx (.v 2) (.v 22) 2] [] zpf)) (.lets [.call 12 [.v 1,.v 2,.v 3,.v
 20] 0] [] (.lets [.bin .lss (.v 24) (.c (.i .i64 0))] [] zpk))
def zpm:T :=
 .lets [.call 11 [.v 0] 0] [] (.lets [.len (.v 2)] [] (.loop [.c (.nil 6),.c (.i .i64 0),.c (.nil 6),.v 16,.c (.i .i64 0)] (.lets [.bin .lss (.v 22) (.v 17)] [] zpl)))
def zpn:T :=
 .lets [.bin .eql (.v 14) (.c (.i .i64 0))] [] (.ite (.v 15) (.lets [.bin .neq (.v 1) (.v 5)] [] (.ite (.v 16) (.ret [.c (.nil 6),.c (.nil 6),.c (.i .i64 4)]) zp7))
 zpm)
def zpo:T :=
 .ite (.v 12) (.ret [.c (.nil 6),.c (.nil 6),.c (.i .i64 3)]) (.lets [.bin .gtr (.v 5) (.c (.i .i64 1000))] [] (.ite (.v 13) (.ret [.c (.nil 6),.c (.nil 6),.c (.i .i64 3)])
 (.lets [.len (.v 2)] [] zpn)))
def zpp:T :=
 .lets [.bin .gtr (.v 4) (.c (.i .i64 120))] [] (.ite (.v 11) (.ret [.c (.nil 6),.c (.nil 6),.c (.i .i64 3)]) (.lets [.bin .lss (.v 5) (.c (.i .i64 1))] [] zpo))
def zpq:T :=
 .ite (.v 9) (.ret [.c (.nil 6),.c (.nil 6),.v 8]) (.lets [.bin .lss (.v 4) (.c (.i .i64 1))] [] (.ite (.v 10) (.ret [.c (.nil 6),.c (.nil 6),.c (.i .i64 3)]) zpp))
def zpr:T :=
 .lets [.bin .neq (.v 6) (.c (.i .i64 0))] [] (.ite (.v 7) (.ret [.c (.nil 6),.c (.nil 6),.v 6]) (.lets [.call 16 [.v 1,.v 2,.v 3] 0] [] (.lets [.bin .neq (.v 8) (.c (.i .i64
 0))] [] zpq)))
def zc5:T :=
 .lets [.call 8 [.v 0] 0] [] zpr
theorem zxp:Meets Tryd.prog z4n 41 ⟨[.one,.agg 3,.one,.one],[(false,[.pure]),(true,[.pure]),(false,[.scal])],false⟩:=by
 refine zbq (sp:=(z0l [(6,z7h),(8,z2r),(10,z4k),(11,z49),(12,z4a),(13,z7p),(14,z7q),(15,z5v),(16,z7e)])) (sigs:=z0y) (cut:=[]) (hints:=[⟨19,[.r 8 63 6,.t 10,.r 0 63 6,.t 111,.z 84,.z 83,.z 78]⟩]) (fns:=[z8g 60 Tryd.f60 [⟨2,[.r 6 63 6,.t 8,.r 7 63 6,.r 0 63 6,.t 19]⟩] [],z8g 59 Tryd.f59 [] []]) (dep:=2) (pool:=240) (fn:=Tryd.f41) (t:=zc5) (by kernel_rfl) (by kernel_rfl) (by kernel_rfl) ?_ ?_ ?_
 ·exact (z1y (fn:=Tryd.f60) (by kernel_rfl) (by kernel_rfl) (by kernel_rfl) (by kernel_rfl) (by kernel_rfl) (z1y (fn:=Tryd.f59) (by kernel_rfl) (by kernel_rfl) (by kernel_rfl) (by kernel_rfl) (by kernel_rfl) zdx))
 ·exact (z0c (L:=[(6,z7h),(8,z2r),(10,z4k),(11,z49),(12,z4a),(13,z7p),(14,z7q),(15,z5v),(16,z7e)]) ⟨zb rfl zwp,zb rfl zic,zb rfl zlv,zb rfl zov,zb rfl zt5,zb rfl zxn,zb rfl zxo,zb rfl zra,zb rfl zwn,trivial⟩)
 ·rintro ds rs - h
  obtain ⟨⟨l,t,nm,ht⟩,-,rfl,rfl⟩:=zt h
  clear h
  refine ⟨⟨t.ins.length+t.outs.length+1,?_⟩,zuz⟩
  show den _ _ zc5 [.l 6 (l.map zg),I t.height,.l 3 (t.ins.map eIn),.l 2 (t.outs.map z16),I nm,I ht] []=ret (zl l t nm ht)
  unfold zc5 zl
  repeat' (first|refine dq1 ?_|refine dqk rfl (z4w _) ?_|refine dqk rfl (zjv _) ?_|exact z4 rfl rfl|((first|refine tR ?_ ?_|refine tO ?_ ?_) <;> intro h)|fail)
  all_goals
   have ok:CoinsOK l:=(z0v l).1 (Decidable.not_not.1 (by assumption))
   have okt:TxOK t:=z7j (Decidable.not_not.1 (by assumption))
   have hl:=ok.len
   have hti:=okt.ins
   have hto:=okt.outs
   repeat' (first|refine dq1 ?_|refine dqk rfl (zbz _ ok.short) ?_|fail)
  ·(refine z0p (fun (st:List Coin × List Coin) k=>[.l 6 (([]:List Coin).map zg),I 0,.l 6 (st.2.map zg),.l 6 (st.1.map zg),I k]) (fun (st:List Coin × List Coin) _ (xs:List In)=>z20 ht z2n (fun r s=>z2a nm ht (decide ((t.ins.length:Int)=0)) z2n (z75 s) r 0 t.outs) st.1 st.2 xs) (fun st k=>SpI l st k) (l,[]) t.ins ?_ ?_ ?_ ?_ ?_;rfl;exact ⟨ok.sorted,Nat.le_refl _,ok.good,rfl,fun c hc=>by cases hc⟩;omega)
   ·rintro ⟨r,s⟩ k x xs hx hd hk hI again hag
    rename_i h0 _
    omega
   ·rintro ⟨r,s⟩ hI again
    rw [z20]
    repeat' (first|refine dq1 ?_|refine dqF ?_|fail)
    (refine z0p (fun (r:List Coin) k=>[.l 6 (([]:List Coin).map zg),I 0,.l 6 (r.map zg),I k]) (fun (r:List Coin) k (os:List Out)=>z2a nm ht (decide ((t.ins.length:Int)=0)) z2n (z75 s) r k os) (fun r k=>zx r∧r.length≤l.length+k) r t.outs ?_ ?_ ?_ ?_ ?_;rfl;exact ⟨hI.sorted,hI.len⟩;omega)
    ·rintro r k o os hx hd hk ⟨hs,hrl⟩ again' hag
     rw [z2a]
     have hol:=z5r (okt.good o (List.mem_of_getElem? hx)).2.2
     have hpl:=zdz r ⟨nm,k⟩
     have e1:((ze r ⟨nm,k⟩:Int)).toNat=ze r ⟨nm,k⟩:=by omega
     repeat' (first|refine dq1 ?_|refine dqc ?_|refine dqm ?_|refine dqK rfl (z72 r ⟨nm,k⟩ hs (by omega)) ?_|refine dqk rfl (z7g _ (by omega)) ?_|exact z4 rfl rfl|refine tB (fun h=>?_) fun h=>?_|refine dqT ?_|fail)
     have hno:=h
     refine z5 (z3j (r:=[(⟨⟨nm,k⟩,o,ht,decide ((t.ins.length:Int)=0)⟩:Coin)].map zg) rfl rfl (by simp)) ?_
     refine z5 (z1q rfl (zb0 _ _ _ ⟨by omega,by omega,by omega⟩) rfl) ?_
     refine z5 (z67 rfl rfl (by omega)) ?_
     rw [e1]
     exact zq rfl rfl (hag _ ⟨z7o hs (c:=⟨⟨nm,k⟩,o,ht,decide ((t.ins.length:Int)=0)⟩) hno,by simp only [List.length_append,List.length_take,List.length_drop,List.length_singleton];omega⟩)
    ·rintro r hr again'
     rw [z2a]
     unfold z75
     repeat' (first|refine dq1 ?_|refine dqk rfl (z4w _) ?_|exact z4 rfl rfl|refine tR (fun h=>?_) fun h=>?_|refine dqF ?_|fail)
  ·(refine z0p (fun (st:List Coin × List Coin) k=>[.l 6 (([]:List Coin).map zg),I 0,.l 6 (st.2.map zg),.l 6 (st.1.map zg),I k]) (fun (st:List Coin × List Coin) _ (xs:List In)=>z20 ht z2n (fun r s=>if z0s t s<0 then z2n 9 else z2a nm ht (decide ((t.ins.length:Int)=0)) z2n (z75 s) r 0 t.outs) st.1 st.2 xs) (fun st k=>SpI l st k) (l,[]) t.ins ?_ ?_ ?_ ?_ ?_;rfl;exact ⟨ok.sorted,Nat.le_refl _,ok.good,rfl,fun c hc=>by cases hc⟩;omega)
   ·rintro ⟨r,s⟩ k x xs hx hd hk hI again hag
    rw [z20]
    simp only
    have hs:=hI.sorted
    have hrl:=hI.len
    simp only at hs hrl
    repeat' (first|refine dq1 ?_|refine dqc ?_|refine dqm ?_|refine dqK rfl (z72 _ _ hs (by omega)) ?_|exact z4 rfl rfl|refine tN (fun h=>?_) fun h=>?_|refine dqT ?_|fail)
    obtain ⟨hlt,hp⟩:=(ze0 hs x.p).1 h
    have hc:r[ze r x.p]? = some r[ze r x.p]:=List.getElem?_eq_getElem hlt
    rw [hc]
    generalize r[ze r x.p]=c at *
    have hcb:=z2s (hI.good c (List.mem_of_getElem? hc))
    have e1:((ze r x.p:Int)).toNat=ze r x.p:=by omega
    have e2:((ze r x.p:Int)+1).toNat=ze r x.p+1:=by omega
    simp only [Option.getD_some]
    have hxo:=hx
    have hx:=hc
    repeat' (first|refine dq1 ?_|refine dqc ?_|refine dqm ?_|refine dqK rfl (zfm _ _ _) ?_|exact z4 rfl rfl|((first|refine tR ?_ ?_|refine tB ?_ ?_|refine tN ?_ ?_) <;> intro h)|fail)
    all_goals (refine z5 (z3j (r:=[c].map zg) rfl rfl (by simp)) ?_;refine z5 (zfi (l:=s) (l':=[c]) rfl rfl (by have:=hI.cnt;simp only at this ⊢;simp only [List.length_singleton];omega)) ?_;refine z5 (z67 rfl rfl (by omega)) ?_;refine z5 (z1q rfl (zjt _ _ _ ⟨by omega,by omega,by omega⟩) rfl) ?_;refine z5 (z67 rfl rfl (by omega)) ?_;rw [e1,e2];exact zq rfl rfl (hag (r.take (ze r x.p)++r.drop (ze r x.p+1),s++[c]) (hI.cut hc)))
   ·rintro ⟨r,s⟩ hI again
    rw [z20]
    repeat' (first|refine dq1 ?_|refine dqk rfl (zdb t s (hI.fee okt)) ?_|exact z4 rfl rfl|refine tR (fun h=>?_) fun h=>?_|refine dqF ?_|fail)
    (refine z0p (fun (r:List Coin) k=>[.l 6 (([]:List Coin).map zg),I 0,.l 6 (r.map zg),I k]) (fun (r:List Coin) k (os:List Out)=>z2a nm ht (decide ((t.ins.length:Int)=0)) z2n (z75 s) r k os) (fun r k=>zx r∧r.length≤l.length+k) r t.outs ?_ ?_ ?_ ?_ ?_;rfl;exact ⟨hI.sorted,hI.len⟩;omega)
    ·rintro r k o os hx hd hk ⟨hs,hrl⟩ again' hag
     rw [z2a]
     have hol:=z5r (okt.good o (List.mem_of_getElem? hx)).2.2
     have hpl:=zdz r ⟨nm,k⟩
     have e1:((ze r ⟨nm,k⟩:Int)).toNat=ze r ⟨nm,k⟩:=by omega
     repeat' (first|refine dq1 ?_|refine dqc ?_|refine dqm ?_|refine dqK rfl (z72 r ⟨nm,k⟩ hs (by omega)) ?_|refine dqk rfl (z7g _ (by omega)) ?_|exact z4 rfl rfl|refine tB (fun h=>?_) fun h=>?_|refine dqT ?_|fail)
     have hno:=h
     refine z5 (z3j (r:=[(⟨⟨nm,k⟩,o,ht,decide ((t.ins.length:Int)=0)⟩:Coin)].map zg) rfl rfl (by simp)) ?_
     refine z5 (z1q rfl (zb0 _ _ _ ⟨by omega,by omega,by omega⟩) rfl) ?_
     refine z5 (z67 rfl rfl (by omega)) ?_
     rw [e1]
     exact zq rfl rfl (hag _ ⟨z7o hs (c:=⟨⟨nm,k⟩,o,ht,decide ((t.ins.length:Int)=0)⟩) hno,by simp only [List.length_append,List.length_take,List.length_drop,List.length_singleton];omega⟩)
    ·rintro r hr again'
     rw [z2a]
     unfold z75
     repeat' (first|refine dq1 ?_|refine dqk rfl (z4w _) ?_|exact z4 rfl rfl|refine tR (fun h=>?_) fun h=>?_|refine dqF ?_|fail)
end
section
open Go.RowKit
set_option maxRecDepth 100000
set_option maxHeartbeats 4000000
attribute [local irreducible] z05 spD z1b zh zj za
end
section
open Go.RowKit
theorem hasP_mem {l:List Coin} {p:Point}:z1n l p=true↔∃ c ∈ l,c.p=p:=by
 unfold z1n
 rw [List.any_eq_true]
 constructor
 ·rintro ⟨c,hc,h⟩;exact ⟨c,hc,of_decide_eq_true h⟩
 ·rintro ⟨c,hc,h⟩;exact ⟨c,hc,decide_eq_true h⟩
theorem hasP_not {l:List Coin} {p:Point}:z1n l p=false↔∀ c ∈ l,c.p≠p:=by
 rw [← Bool.not_eq_true,hasP_mem]
 constructor
 ·intro h c hc he;exact h ⟨c,hc,he⟩
 ·rintro h ⟨c,hc,he⟩;exact h c hc he
theorem zdg {l:List Coin} (h:zx l) {c d:Coin} (hc:c ∈ l) (hd:d ∈ l) (hp:c.p=d.p):c=d:=by
 obtain ⟨i,hi,rfl⟩:=List.getElem_of_mem hc
 obtain ⟨j,hj,rfl⟩:=List.getElem_of_mem hd
 rcases Nat.lt_trichotomy i j with hij|rfl|hij
 ·have:=z5a h hij hj;rw [hp] at this;exact absurd this (z5p _)
 ·rfl
 ·have:=z5a h hij hi;rw [hp] at this;exact absurd this (z5p _)
theorem zxq {l:List Coin} (h:zx l) {c:Coin} (hc:c ∈ l):l[ze l c.p]? = some c:=by
 obtain ⟨hlt,hp⟩:=(ze0 h c.p).1 (hasP_mem.2 ⟨c,hc,rfl⟩)
 rw [List.getElem?_eq_getElem hlt]
 exact congrArg some (zdg h (List.getElem_mem hlt) hc hp)
theorem z02j {l:List Coin} (h:zx l) {p:Point} (hp:z1n l p=true):∃ c,l[ze l p]? = some c∧c ∈ l∧c.p=p:=by
 obtain ⟨c,hc,rfl⟩:=hasP_mem.1 hp
 exact ⟨c,zxq h hc,hc,rfl⟩
theorem zt8 {l:List Coin} (h:zx l) {c:Coin} {k:Nat} (hk:l[k]? = some c) {d:Coin}:d ∈ l.take k++l.drop (k+1)↔d ∈ l∧d.p≠c.p:=by
 obtain ⟨hlt,rfl⟩:=List.getElem?_eq_some_iff.1 hk
 have hsplit:l=l.take k++l[k]::l.drop (k+1):=by rw [List.getElem_cons_drop,List.take_append_drop]
 have hs:zx (l.take k++l[k]::l.drop (k+1)):=by rw [← hsplit];exact h
 obtain ⟨_,h2,h3⟩:=List.pairwise_append.1 hs
 have h2':=List.pairwise_cons.1 h2
 constructor
 ·intro hd
  refine ⟨?_,?_⟩
  ·rcases List.mem_append.1 hd with hd|hd
   ·exact List.mem_of_mem_take hd
   ·exact List.mem_of_mem_drop hd
  ·rcases List.mem_append.1 hd with hd|hd
   ·intro e;have:=h3 d hd l[k] (List.mem_cons_self ..);rw [e] at this;exact z5p _ this
   ·intro e;have:=h2'.1 d hd;rw [e] at this;exact z5p _ this
 ·rintro ⟨hd,hne⟩
  rw [hsplit] at hd
  rcases List.mem_append.1 hd with hd|hd
  ·exact List.mem_append_left _ hd
  ·rcases List.mem_cons.1 hd with rfl|hd
   ·exact absurd rfl hne
   ·exact List.mem_append_right _ hd
theorem put_mem {l:List Coin} {c d:Coin} {k:Nat}:d ∈ l.take k++[c]++l.drop k↔d=c∨d ∈ l:=by
 have:d ∈ l↔d ∈ l.take k∨d ∈ l.drop k:=by rw [← List.mem_append,List.take_append_drop]
 rw [List.mem_append,List.mem_append,List.mem_singleton,this]
 constructor
 ·rintro ((h|h)|h)
  ·exact .inr (.inl h)
  ·exact .inl h
  ·exact .inr (.inr h)
 ·rintro (h|h|h)
  ·exact .inl (.inr h)
  ·exact .inl (.inl h)
  ·exact .inr h
theorem zxr {l:List Coin} {c:Coin} {k:Nat} (hk:l[k]? = some c):z7 l=z7 (l.take k++l.drop (k+1))+c.o.coin:=by
 obtain ⟨hlt,rfl⟩:=List.getElem?_eq_some_iff.1 hk
 have hsplit:l=l.take k++l[k]::l.drop (k+1):=by rw [List.getElem_cons_drop,List.take_append_drop]
 have e:z7 l=z7 (l.take k++l[k]::l.drop (k+1)):=by rw [← hsplit]
 rw [e,z2i,z2i,z7]
 omega
theorem zxs {l:List Coin} {c:Coin} {k:Nat}:z7 (l.take k++[c]++l.drop k)=z7 l+c.o.coin:=by
 have e:z7 l=z7 (l.take k++l.drop k):=by rw [List.take_append_drop]
 rw [e,z2i,z2i,z2i,z7,z7]
 omega
structure Fine (h:Int) (x:In) (c:Coin):Prop where
 p:c.p=x.p
 ripe:c.reward=true→c.height+2≤h
 opens:(z2u c.o.lock x.key h).1=true
inductive Spent (h:Int):List Coin→List Coin→List In→List Coin→List Coin→Prop
 | nil (r s):Spent h r s [] r s
 | cons {r s x xs r' s' c}:c ∈ r→r[ze r x.p]? = some c→Fine h x c→Spent h (r.take (ze r x.p)++r.drop (ze r x.p+1)) (s++[c]) xs r' s'→Spent h r s (x::xs) r' s'
theorem zg1 {ρ:Type} {h:Int} {bad:Int→ρ} {K:List Coin→List Coin→ρ} {r s:List Coin} {x:In} {xs:List In} {c:Coin} (hm:c ∈ r) (hc:r[ze r x.p]? = some c) (hf:Fine h x c):z20 h bad K r s (x::xs)=z20 h bad K (r.take (ze r x.p)++r.drop (ze r x.p+1)) (s++[c]) xs:=by
 have hp:z1n r x.p=true:=hasP_mem.2 ⟨c,hm,hf.p⟩
 rw [z20,if_pos hp,hc]
 simp only [Option.getD_some]
 rw [if_pos hf.opens]
 by_cases hr:c.reward=true
 ·rw [if_pos hr,if_neg (by have:=hf.ripe hr;omega)]
 ·rw [if_neg hr]
theorem Spent.run {ρ:Type} {h:Int} {bad:Int→ρ} {K:List Coin→List Coin→ρ} {r s r' s':List Coin} {xs:List In} (hs:Spent h r s xs r' s'):z20 h bad K r s xs=K r' s':=by
 induction hs with
 | nil r s=>rfl
 | cons hm hc hf _ ih=>rw [zg1 hm hc hf,ih]
theorem ze9 {h:Int} {K:List Coin→List Coin→List Coin × List Coin × Int}:∀ {xs:List In} {r s:List Coin},zx r→(z20 h z2n K r s xs).2.2=0→∃ r' s',Spent h r s xs r' s'∧z20 h z2n K r s xs=K r' s'
 | [],r,s,_,_=>⟨r,s,.nil r s,rfl⟩
 | x::xs,r,s,hr,h0=>by
  by_cases hp:z1n r x.p=true
  ·obtain ⟨c,hc,hm,hcp⟩:=z02j hr hp
   have hf:Fine h x c:=by
    rw [z20,if_pos hp,hc] at h0
    simp only [Option.getD_some] at h0
    by_cases hrw:c.reward=true
    ·rw [if_pos hrw] at h0
     by_cases hh:h<c.height+2
     ·rw [if_pos hh] at h0;cases h0
     ·rw [if_neg hh] at h0
      by_cases ho:(z2u c.o.lock x.key h).1=true
      ·exact ⟨hcp,fun _=>by omega,ho⟩
      ·rw [if_neg ho] at h0;cases h0
    ·rw [if_neg hrw] at h0
     by_cases ho:(z2u c.o.lock x.key h).1=true
     ·exact ⟨hcp,fun h=>absurd h hrw,ho⟩
     ·rw [if_neg ho] at h0;cases h0
   have e:=zg1 (bad:=z2n) (K:=K) (s:=s) (xs:=xs) hm hc hf
   rw [e] at h0 ⊢
   obtain ⟨r',s',h1,h2⟩:=ze9 (z7n hr _) h0
   exact ⟨r',s',.cons hm hc hf h1,h2⟩
  ·rw [z20,if_neg hp] at h0
   cases h0
structure SpentAs (h:Int) (r:List Coin) (xs:List In) (r' cs:List Coin):Prop where
 sorted:zx r'
 mem:∀ c,c ∈ r'↔c ∈ r∧∀ x ∈ xs,x.p≠c.p
 len:cs.length=xs.length
 fine:∀ (i:Nat) (x:In),xs[i]? = some x→∃ c,cs[i]? = some c∧c ∈ r∧Fine h x c
 apart:xs.Pairwise fun x y=>x.p≠y.p
 total:z7 r=z7 r'+z7 cs
theorem Spent.as {h:Int} {r s r' s':List Coin} {xs:List In} (hs:Spent h r s xs r' s'):zx r→∃ cs,s'=s++cs∧SpentAs h r xs r' cs:=by
 induction hs with
 | nil r s=>exact fun hr=>⟨[],(List.append_nil s).symm,hr,fun c=>by simp,rfl,fun i x hx=>by simp at hx,.nil,by simp [z7]⟩
 | @cons r s x xs r' s' c hm hc hf hs ih =>
  intro hr
  obtain ⟨cs,rfl,H⟩:=ih (z7n hr _)
  have hcm:=fun d=>zt8 hr hc (d:=d)
  refine ⟨c::cs,by simp,H.sorted,fun d=>?_,by simp [H.len],fun i y hy=>?_,?_,?_⟩
  ·rw [H.mem,hcm]
   constructor
   ·rintro ⟨⟨h1,h2⟩,h3⟩
    refine ⟨h1,fun y hy=>?_⟩
    rcases List.mem_cons.1 hy with rfl|hy
    ·rw [← hf.p];exact fun e=>h2 e.symm
    ·exact h3 y hy
   ·rintro ⟨h1,h2⟩
    exact ⟨⟨h1,fun e=>h2 x (List.mem_cons_self ..) (by rw [← hf.p,e])⟩,fun y hy=>h2 y (List.mem_cons_of_mem _ hy)⟩
  ·cases i with
   | zero =>
    simp only [List.getElem?_cons_zero,Option.some.injEq] at hy
    subst hy
    exact ⟨c,rfl,hm,hf⟩
   | succ i =>
    obtain ⟨d,h1,h2,h3⟩:=H.fine i y (by simpa using hy)
    exact ⟨d,by simpa using h1,(hcm d).1 h2 |>.1,h3⟩
  ·refine List.pairwise_cons.2 ⟨fun y hy=>?_,H.apart⟩
   obtain ⟨i,hi⟩:=List.getElem?_of_mem hy
   obtain ⟨d,_,h2,h3⟩:=H.fine i y hi
   have:=((hcm d).1 h2).2
   rw [h3.p,hf.p] at this
   exact fun e=>this e.symm
  ·rw [zxr hc,H.total,z7];omega
theorem Spent.of {h:Int}:∀ {xs:List In} {r s cs:List Coin},zx r→xs.Pairwise (fun x y=>x.p≠y.p)→cs.length=xs.length→(∀ (i:Nat) (x:In),xs[i]? = some x→∃ c,cs[i]? = some c∧c ∈ r∧Fine h x c)→∃ r',Spent h r s xs r' (s++cs)
 | [],r,s,cs,hr,ha,hl,hf=>by
  have:cs=[]:=List.eq_nil_of_length_eq_zero hl
  subst this
  exact ⟨r,by rw [List.append_nil];exact .nil r s⟩
 | x::xs,r,s,[],hr,ha,hl,hf=>by cases hl
 | x::xs,r,s,c::cs,hr,ha,hl,hf=>by
  obtain ⟨c',h1,hm,hfx⟩:=hf 0 x rfl
  simp only [List.getElem?_cons_zero,Option.some.injEq] at h1
  subst h1
  have hc:r[ze r x.p]? = some c:=by rw [← hfx.p];exact zxq hr hm
  have ha':=List.pairwise_cons.1 ha
  obtain ⟨r',hs⟩:=Spent.of (s:=s++[c]) (cs:=cs) (z7n hr (ze r x.p)) ha'.2 (by simpa using hl) fun i y hy=>by
   obtain ⟨d,k1,k2,k3⟩:=hf (i+1) y (by simpa using hy)
   refine ⟨d,by simpa using k1,(zt8 hr hc).2 ⟨k2,?_⟩,k3⟩
   rw [k3.p,hfx.p]
   exact fun e=>ha'.1 y (List.mem_of_getElem? hy) e.symm
  exact ⟨r',.cons hm hc hfx (by rw [List.append_assoc] at hs;exact hs)⟩
def z7x (nm h:Int) (rw:Bool) (i:Nat) (o:Out):Coin:=⟨⟨nm,i⟩,o,h,rw⟩
inductive Brought (nm h:Int) (rw:Bool):List Coin→Nat→List Out→List Coin→Prop
 | nil (r i):Brought nm h rw r i [] r
 | cons {r:List Coin} {i:Nat} {o:Out} {os:List Out} {m:List Coin}:z1n r ⟨nm,i⟩=false→Brought nm h rw (r.take (ze r ⟨nm,i⟩)++[z7x nm h rw i o]++r.drop (ze r ⟨nm,i⟩)) (i+1) os m→Brought nm h rw r i (o::os) m
theorem Brought.run {ρ:Type} {nm h:Int} {rw:Bool} {bad:Int→ρ} {K:List Coin→ρ} {r m:List Coin} {i:Nat} {os:List Out} (hb:Brought nm h rw r i os m):z2a nm h rw bad K r i os=K m:=by
 induction hb with
 | nil r i=>rfl
 | cons hn _ ih=>rw [z2a,if_neg (by simp [hn])];exact ih
theorem zea {nm h:Int} {rw:Bool} {K:List Coin→List Coin × List Coin × Int}:∀ {os:List Out} {r:List Coin} {i:Nat},(z2a nm h rw z2n K r i os).2.2=0→∃ m,Brought nm h rw r i os m∧z2a nm h rw z2n K r i os=K m
 | [],r,i,_=>⟨r,.nil r i,rfl⟩
 | o::os,r,i,h0=>by
  rw [z2a] at h0 ⊢
  cases hp:z1n r ⟨nm,i⟩ with
  | true=>rw [hp,if_pos rfl] at h0;cases h0
  | false =>
   rw [hp,if_neg (by simp)] at h0
   rw [if_neg (by simp)]
   obtain ⟨m,h1,h2⟩:=zea h0
   exact ⟨m,.cons hp h1,h2⟩
def z21 (os:List Out):Int:=(os.map Out.coin).sum
structure BroughtAs (nm h:Int) (rw:Bool) (r:List Coin) (i:Nat) (os:List Out) (m:List Coin):Prop where
 sorted:zx m
 mem:∀ c,c ∈ m↔c ∈ r∨∃ (j:Nat) (o:Out),os[j]? = some o∧c=z7x nm h rw (i+j) o
 free:∀ c ∈ r,∀ j,j<os.length→c.p≠⟨nm,((i+j:Nat):Int)⟩
 total:z7 m=z7 r+z21 os
 len:m.length=r.length+os.length
theorem Brought.as {nm h:Int} {rw:Bool} {r m:List Coin} {i:Nat} {os:List Out} (hb:Brought nm h rw r i os m):zx r→BroughtAs nm h rw r i os m:=by
 induction hb with
 | nil r i=>exact fun hr=>⟨hr,fun c=>by simp,fun c _ j hj=>by simp at hj,by simp [z21],by simp⟩
 | @cons r i o os m hn hb ih =>
  intro hr
  have H:=ih (z7o hr (c:=z7x nm h rw i o) hn)
  refine ⟨H.sorted,fun c=>?_,fun c hc j hj=>?_,?_,?_⟩
  ·rw [H.mem,put_mem]
   constructor
   ·rintro ((rfl|h1)|⟨j,q,h1,h2⟩)
    ·exact .inr ⟨0,o,rfl,rfl⟩
    ·exact .inl h1
    ·exact .inr ⟨j+1,q,by simpa using h1,by rw [h2,show i+1+j=i+(j+1) by omega]⟩
   ·rintro (h1|⟨j,q,h1,h2⟩)
    ·exact .inl (.inr h1)
    ·cases j with
     | zero =>
      simp only [List.getElem?_cons_zero,Option.some.injEq] at h1
      subst h1
      exact .inl (.inl h2)
     | succ j=>exact .inr ⟨j,q,by simpa using h1,by rw [h2,show i+1+j=i+(j+1) by omega]⟩
  ·cases j with
   | zero=>exact hasP_not.1 hn c hc
   | succ j =>
    have:=H.free c (put_mem.2 (.inr hc)) j (by simpa using hj)
    rwa [show i+1+j=i+(j+1) by omega] at this
  ·rw [H.total,zxs]
   simp only [z21,List.map_cons,List.sum_cons,z7x]
   omega
  ·rw [H.len]
   simp only [List.length_append,List.length_take,List.length_drop,List.length_cons,List.length_nil]
   omega
theorem Brought.of {nm h:Int} {rw:Bool}:∀ {os:List Out} {r:List Coin} {i:Nat},zx r→(∀ c ∈ r,∀ j,j<os.length→c.p≠⟨nm,((i+j:Nat):Int)⟩)→∃ m,Brought nm h rw r i os m
 | [],r,i,_,_=>⟨r,.nil r i⟩
 | o::os,r,i,hr,hf=>by
  have hn:z1n r ⟨nm,i⟩=false:=hasP_not.2 fun c hc=>hf c hc 0 (by simp)
  obtain ⟨m,hb⟩:=Brought.of (os:=os) (i:=i+1) (z7o hr (c:=z7x nm h rw i o) hn) fun c hc j hj=>by
   rcases put_mem.1 hc with rfl|hc
   ·simp only [z7x,ne_eq,Point.mk.injEq,not_and]
    intro _
    omega
   ·have:=hf c hc (j+1) (by simpa using hj)
    rwa [show i+(j+1)=i+1+j by omega] at this
  exact ⟨m,.cons hn hb⟩
theorem zxt (os:List Out):∀ s:Int,os.foldl (fun s o=>s - o.coin) s=s - z21 os:=by
 induction os with
 | nil=>intro s;simp [z21]
 | cons o os ih=>intro s;rw [List.foldl_cons,ih];simp only [z21,List.map_cons,List.sum_cons];omega
theorem zeb (t:Tx) (s:List Coin):z0s t s=z7 s - z21 t.outs:=by
 unfold z0s
 rw [zxt,zrg]
 omega
structure Done (l:List Coin) (t:Tx) (nm h:Int) (r s m:List Coin):Prop where
 ok:CoinsOK l
 tx:zj t=0
 nm1:1≤nm
 nm2:nm≤120
 h1:1≤h
 h2:h≤1000
 height:t.ins.length=0→t.height=h
 spent:Spent h l [] t.ins r s
 fee:t.ins.length≠0→0≤z0s t s
 brought:Brought nm h (decide ((t.ins.length:Int)=0)) r 0 t.outs m
 end_:CoinsOK m
theorem Done.run {l:List Coin} {t:Tx} {nm h:Int} {r s m:List Coin} (d:Done l t nm h r s m):zl l t nm h=(m,s,0):=by
 unfold zl
 have hE:z75 s m=(m,s,0):=by
  unfold z75
  rw [if_neg (by rw [(z0v m).2 d.end_];decide)]
 have a:=d.nm1;have b:=d.nm2;have c:=d.h1;have e:=d.h2
 rw [if_neg (by rw [(z0v l).2 d.ok];decide),if_neg (by rw [d.tx];decide),if_neg (by omega)]
 by_cases h0:(t.ins.length:Int)=0
 ·rw [if_pos h0,if_neg (by rw [d.height (by omega)];simp),d.spent.run,d.brought.run,hE]
 ·rw [if_neg h0,d.spent.run,if_neg (by have:=d.fee (by omega);omega),d.brought.run,hE]
theorem zg2 {l:List Coin} {t:Tx} {nm h:Int} (h0:(zl l t nm h).2.2=0):∃ r,Done l t nm h r (zl l t nm h).2.1 (zl l t nm h).1:=by
 have key:∃ r s m,Done l t nm h r s m:=by
  unfold zl at h0
  by_cases k1:zh l=0
  ·rw [if_neg (by rw [k1];decide)] at h0
   have ok:=(z0v l).1 k1
   by_cases k2:zj t=0
   ·rw [if_neg (by rw [k2];decide)] at h0
    by_cases k3:nm<1∨120<nm∨h<1∨1000<h
    ·rw [if_pos k3] at h0;cases h0
    ·rw [if_neg k3] at h0
     by_cases k4:(t.ins.length:Int)=0
     ·rw [if_pos k4] at h0
      by_cases k5:t.height≠h
      ·rw [if_pos k5] at h0;cases h0
      ·rw [if_neg k5] at h0
       obtain ⟨r,s,q1,q2⟩:=ze9 ok.sorted h0
       rw [q2] at h0
       obtain ⟨m,q3,q4⟩:=zea h0
       rw [q4] at h0
       unfold z75 at h0
       by_cases k6:zh m=0
       ·exact ⟨r,s,m,ok,k2,by omega,by omega,by omega,by omega,fun _=>Decidable.not_not.1 k5,q1,fun h=>absurd (by omega) h,q3,(z0v m).1 k6⟩
       ·rw [if_pos k6] at h0;exact absurd h0 k6
     ·rw [if_neg k4] at h0
      obtain ⟨r,s,q1,q2⟩:=ze9 ok.sorted h0
      rw [q2] at h0
      by_cases k5:z0s t s<0
      ·simp only [if_pos k5] at h0;cases h0
      ·simp only [if_neg k5] at h0
       obtain ⟨m,q3,q4⟩:=zea h0
       rw [q4] at h0
       unfold z75 at h0
       by_cases k6:zh m=0
       ·exact ⟨r,s,m,ok,k2,by omega,by omega,by omega,by omega,fun h=>absurd (by omega) k4,q1,fun _=>by omega,q3,(z0v m).1 k6⟩
       ·rw [if_pos k6] at h0;exact absurd h0 k6
   ·rw [if_pos k2] at h0;exact absurd h0 k2
  ·rw [if_pos k1] at h0;exact absurd h0 k1
 obtain ⟨r,s,m,d⟩:=key
 refine ⟨r,?_⟩
 rw [d.run]
 exact d
end
section
open Go.RowKit
theorem SpentAs.from {h:Int} {l:List Coin} {xs:List In} {r cs:List Coin} (S:SpentAs h l xs r cs) {c:Coin} (hc:c ∈ cs):c ∈ l∧∃ x ∈ xs,x.p=c.p:=by
 obtain ⟨i,hi,rfl⟩:=List.getElem_of_mem hc
 have hl:=S.len
 obtain ⟨c,h1,h2,h3⟩:=S.fine i xs[i] (List.getElem?_eq_getElem (by omega))
 rw [List.getElem?_eq_getElem hi] at h1
 injection h1 with h1
 rw [h1]
 exact ⟨h2,_,List.getElem_mem _,h3.p.symm⟩
theorem SpentAs.all {h:Int} {l:List Coin} {xs:List In} {r cs:List Coin} (S:SpentAs h l xs r cs) (hs:zx l) {c:Coin}:c ∈ l↔c ∈ r∨c ∈ cs:=by
 constructor
 ·intro hc
  by_cases hx:∃ x ∈ xs,x.p=c.p
  ·obtain ⟨x,hx,he⟩:=hx
   obtain ⟨i,hi⟩:=List.getElem?_of_mem hx
   obtain ⟨d,h1,h2,h3⟩:=S.fine i x hi
   have:d=c:=zdg hs h2 hc (h3.p.trans he)
   subst this
   exact .inr (List.mem_of_getElem? h1)
  ·exact .inl ((S.mem c).2 ⟨hc,fun x hx' he=>hx ⟨x,hx',he⟩⟩)
 ·rintro (hc|hc)
  ·exact ((S.mem c).1 hc).1
  ·exact (S.from hc).1
theorem Done.spentAs {l:List Coin} {t:Tx} {nm h:Int} {r s m:List Coin} (d:Done l t nm h r s m):SpentAs h l t.ins r s:=by
 obtain ⟨cs,e,S⟩:=d.spent.as d.ok.sorted
 rw [List.nil_append] at e
 exact e ▸ S
theorem Done.broughtAs {l:List Coin} {t:Tx} {nm h:Int} {r s m:List Coin} (d:Done l t nm h r s m):BroughtAs nm h (decide ((t.ins.length:Int)=0)) r 0 t.outs m:=d.brought.as d.spentAs.sorted
theorem Done.short {l:List Coin} {t:Tx} {nm h:Int} {r s m:List Coin} (d:Done l t nm h r s m):z5w s:=by
 have S:=d.spentAs
 exact ⟨by have:=S.len;have:=(z7j d.tx).ins;omega,fun c hc=>d.ok.short.2 c (S.from hc).1⟩
theorem z005 {t:Tx} (ok:TxOK t):0<z21 t.outs:=by
 have key:∀ os:List Out,(∀ o ∈ os,1≤o.coin)→(os.length:Int)≤z21 os:=by
  intro os
  induction os with
  | nil=>intro _;simp [z21]
  | cons o os ih =>
   intro h
   have h1:=h o (List.mem_cons_self ..)
   have h2:=ih fun x hx=>h x (List.mem_cons_of_mem _ hx)
   simp only [z21,List.map_cons,List.sum_cons,List.length_cons] at h2 ⊢
   omega
 have:=key t.outs fun o ho=>(ok.good o ho).1
 have:=ok.some
 omega
theorem zxu {m:List Coin} {p:Point} (ok:CoinsOK m) (h:z1n m p=false):zow m p=(z4z,7):=by
 unfold zow
 rw [if_neg (by rw [(z0v m).2 ok];decide),if_neg (by simp [h])]
theorem Done.gone {l:List Coin} {t:Tx} {nm h:Int} {r s m:List Coin} (d:Done l t nm h r s m) {x:In} (hx:x ∈ t.ins) (hn:x.p.tx≠nm):zow m x.p=(z4z,7):=by
 have S:=d.spentAs
 have B:=d.broughtAs
 refine zxu d.end_ (hasP_not.2 fun c hc e=>?_)
 rcases (B.mem c).1 hc with hc|⟨j,o,_,rfl⟩
 ·exact ((S.mem c).1 hc).2 x hx e.symm
 ·exact hn (by rw [← e];rfl)
end
section
open Go.RowKit
open Go.Lib (itoa)
set_option maxRecDepth 100000
set_option maxHeartbeats 4000000
def z02k (b:Block) (ns:List Int) (l:List Coin) (us:List Undo) (most:Int):List Coin × List Undo × Int :=
 if most < -z0s (b.txs.getD 0 zTx) [] then ([],[],9) else
 if (zl l (b.txs.getD 0 zTx) (ns.getD 0 0) b.height).2.2≠0 then ([],[],(zl l (b.txs.getD 0 zTx) (ns.getD 0 0) b.height).2.2) else
 ((zl l (b.txs.getD 0 zTx) (ns.getD 0 0) b.height).1,us.set 0 ⟨(zl l (b.txs.getD 0 zTx) (ns.getD 0 0) b.height).2.1⟩,0)
def zxv (b:Block) (ns:List Int) (l:List Coin) (us:List Undo) (most:Int) (i:Nat):List Tx→List Coin × List Undo × Int
 | []=>z02k b ns l us most
 | t::r=>if (zl l t (ns.getD i 0) b.height).2.2≠0 then ([],[],(zl l t (ns.getD i 0) b.height).2.2) else
  zxv b ns (zl l t (ns.getD i 0) b.height).1 (us.set i ⟨(zl l t (ns.getD i 0) b.height).2.1⟩) (most+z0s t (zl l t (ns.getD i 0) b.height).2.1) (i+1) r
def zps (k:Book) (l:List Coin) (b:Block):List Coin × List Undo × Int :=
 if zh l≠0 then ([],[],zh l) else
 if (z2q k b).2.2.2≠0 then ([],[],(z2q k b).2.2.2) else
 zxv b (z2q k b).2.2.1 l (List.replicate b.txs.length ⟨[]⟩) (z0u b.height) 1 (b.txs.drop 1)
theorem zin {l:List Coin} {t:Tx} {nm h:Int} (h0:(zl l t nm h).2.2=0):zc0 (t,(zl l t nm h).2.1) ∧ -10000000000≤z0s t (zl l t nm h).2.1∧z0s t (zl l t nm h).2.1≤10000000000:=by
 obtain ⟨r,d⟩:=zg2 h0
 generalize (zl l t nm h).2.1=s at *
 generalize (zl l t nm h).1=m at *
 have ok:=z7j d.tx
 have S:=d.spentAs
 have B:=d.broughtAs
 have h1:=S.total
 have h2:=B.total
 have hl:=d.ok.total
 have hm:=d.end_.total
 have hr:0≤z7 r:=z8i fun c hc=>d.ok.good c ((S.mem c).1 hc).1
 have hs:0≤z7 s:=z8i fun c hc=>d.ok.good c (S.from hc).1
 have ho:=z005 ok
 have hsl:=S.len
 have:=ok.ins
 have:=ok.outs
 refine ⟨⟨by simp only;omega,fun c hc=>by have:=z2s (d.ok.good c (S.from hc).1);omega,by simp only;omega,fun o ho=>by have:=ok.good o ho;omega⟩,?_⟩
 rw [zeb]
 omega
section
variable {sp:Nat→z6} {N:Nat} {E E':Env} {ks:List (List Dt→Option (List Dt))} {res:Option (List Dt)} {k:T}
end
def z00o (b:Block) (ns:List Int) (us:List Undo) (l:List Coin):Nat→List Coin × Int
 | 0=>(l,0)
 | i+1=>if (z54 l (b.txs.getD (i+1) zTx) (ns.getD (i+1) 0) (us.getD (i+1) ⟨[]⟩).spent).2≠0 then ([],(z54 l (b.txs.getD (i+1) zTx) (ns.getD (i+1) 0) (us.getD (i+1) ⟨[]⟩).spent).2) else
  z00o b ns us (z54 l (b.txs.getD (i+1) zTx) (ns.getD (i+1) 0) (us.getD (i+1) ⟨[]⟩).spent).1 i
def z059 (k:Book) (l:List Coin) (b:Block) (us:List Undo):List Coin × Int :=
 if zh l≠0 then ([],zh l) else
 if (z2q k b).2.2.2≠0 then ([],(z2q k b).2.2.2) else
 if (us.length:Int)≠b.txs.length then ([],4) else
 if (z54 l (b.txs.getD 0 zTx) ((z2q k b).2.2.1.getD 0 0) (us.getD 0 ⟨[]⟩).spent).2≠0 then ([],(z54 l (b.txs.getD 0 zTx) ((z2q k b).2.2.1.getD 0 0) (us.getD 0 ⟨[]⟩).spent).2) else
 z00o b (z2q k b).2.2.1 us (z54 l (b.txs.getD 0 zTx) ((z2q k b).2.2.1.getD 0 0) (us.getD 0 ⟨[]⟩).spent).1 (b.txs.length - 1)
noncomputable def zjw:z6:=spD (fun _:Book × List Coin × Block=>True) fun x=>zps x.1 x.2.1 x.2.2
attribute [local irreducible] den denX z0h z0z
attribute [local irreducible] z05 spD zl z54 z0s z2q zh z0u
attribute [local irreducible] zdd z2p z4n z2r z4a
end
section
open Go.RowKit
open Go.Lib (itoa)
set_option maxRecDepth 100000
set_option maxHeartbeats 4000000
def z00p:List Int→List Int→Nat
 | a::x,b::y=>if a=b then z00p x y+1 else 0
 | _,_=>0
section
variable {α:Type} {f:α→List Dt} {sp:Nat→z6} {E:Env}
end
attribute [local irreducible] den denX z0h z0z
attribute [local irreducible] z05 spD zps z059 z04f z058 zo z00p
end
section
open Go.RowKit
open Go.Lib (itoa)
set_option maxRecDepth 100000
set_option maxHeartbeats 4000000
attribute [local irreducible] den denX z0h z0z
noncomputable def za2:z6:=spD (fun _:List Tx × List Tx=>True) fun x=>decide (x.1=x.2)
theorem zv0 (l m:List Tx):za2 [.l 3 (l.map eTx),.l 3 (m.map eTx)]=some [.b (decide (l=m))]:=zp (f:=fun x:List Tx × List Tx=>decide (x.1=x.2)) (l,m) trivial
theorem zjx (x y:Tx):z1h [I x.height,.l 3 (x.ins.map eIn),.l 2 (x.outs.map z16),I y.height,.l 3 (y.ins.map eIn),.l 2 (y.outs.map z16)]=some [.b (decide (x=y))]:=zc1 x y
attribute [local irreducible] z05 spD
def z006:T :=
 .lets [.call 41 [.v 9,.v 10,.v 11,.v 12,.v 13,.v 14] 0] [] (.lets [.not (.v 15)] [] (.ite (.v 16) (.ret [.c (.b false)]) (.lets [.bin .add (.v 7) (.c (.i .i64 1))] [] (.again 0
 [.v 6,.v 17]))))
def z007:T :=
 .lets [.idx (.v 0) (.v 7) 0,.idx (.v 0) (.v 7) 1,.idx (.v 0) (.v 7) 2] [] (.lets [] [.inr 3 (.v 1) (.v 7)] (.lets [.idx (.v 1) (.v 7) 0,.idx (.v 1) (.v 7) 1,.idx (.v 1) (.v 7)
 2] [] z006))
def z008:T :=
 .lets [.len (.v 0)] [] (.loop [.c (.b false),.c (.i .i64 0)] (.lets [.bin .lss (.v 7) (.v 5)] [] (.ite (.v 8) (.lets [] [.inr 3 (.v 0) (.v 7)] z007) (.ret [.c (.b true)]))))
def zpt:T :=
 .lets [.len (.v 0)] [] (.lets [.len (.v 1)] [] (.lets [.bin .neq (.v 2) (.v 3)] [] (.ite (.v 4) (.ret [.c (.b false)]) z008)))
attribute [local irreducible] z1h
theorem z04h:Meets Tryd.prog za2 14 ⟨[.one,.one,.clos 15 []],[(false,[.scal])],true⟩:=by
 refine zu (sp:=(z0l [(41,z1h)])) (sigs:=z0y) (cut:=[]) (hints:=[⟨4,[.t 6,.t 17]⟩]) (fn:=Tryd.f14) (t:=zpt) (by kernel_rfl) (by kernel_rfl) (by kernel_rfl) ?_ ?_
 ·exact (z0c (L:=[(41,z1h)]) ⟨zb rfl ze6,trivial⟩)
 ·rintro ds rs hok h
  obtain ⟨⟨l,m⟩,-,rfl,rfl⟩:=zt h
  clear h
  have hll:=zur (hok (.l 3 (l.map eTx)) (List.mem_cons_self ..))
  refine ⟨⟨l.length+1,?_⟩,z09 rfl⟩
  show den _ _ zpt [.l 3 (l.map eTx),.l 3 (m.map eTx)] []=ret (decide (l=m))
  rw [z90]
  unfold zpt
  repeat' (first|refine dq1 ?_|exact z4 rfl rfl|refine tR (fun h=>?_) fun h=>?_|fail)
  have hlm:l.length=m.length:=by omega
  (refine z0p (fun (_:Unit) k=>[.b false,I k]) (fun (_:Unit) k (r:List Tx)=>decide (r=m.drop k)) (fun _ _=>True) () l ?_ ?_ ?_ ?_ ?_;rfl;exact trivial;exact Nat.lt_succ_self _)
  ·rintro _ k x r hx hd hk - again hag
   have hy:m[k]? = some (m[k]'(by omega)):=List.getElem?_eq_getElem (by omega)
   have hdy:m.drop k=m[k]'(by omega)::m.drop (k+1):=List.drop_eq_getElem_cons (by omega)
   rw [hdy]
   generalize m[k]'(by omega)=y at *
   have e:decide (x::r=y::m.drop (k+1))=if decide (x=y)=true then decide (r=m.drop (k+1)) else false:=by
    by_cases h:x=y
    ·simp [h]
    ·simp [h]
   rw [e]
   have hkm:k<m.length:=by omega
   repeat' (first|refine dq1 ?_|refine dqc ?_|refine dqm ?_|refine dqk rfl (zjx x y) ?_|exact z4 rfl rfl|exact zq rfl rfl (hag () trivial)|refine tN (fun h=>?_) fun h=>?_|refine dqT ?_|fail)
  ·rintro _ - again
   rw [hlm,List.drop_length]
   repeat' (first|refine dq1 ?_|exact z4 rfl rfl|refine dqF ?_|fail)
deriving instance DecidableEq for Undo
attribute [local irreducible] z6a z2q zps zda zdd zjw
attribute [local irreducible] zx8
end
section
open Go.RowKit
open Go.Lib (itoa)
set_option maxRecDepth 100000
set_option maxHeartbeats 4000000
def z01 (x:List (List UInt8)) (l:List Coin) (t:Tx) (h:Int):List (List UInt8) × List Coin × Int × Int :=
 if (zw t).2≠0 then (x,[],0,(zw t).2) else if (t.ins.length:Int)=0 then (x,[],0,4) else
 if z0o ⟨x⟩ (zw t).1≠0 then (x,[],0,z0o ⟨x⟩ (zw t).1) else
 if (zl l t (z06 ⟨x⟩ (zw t).1) h).2.2≠0 then (x,[],0,(zl l t (z06 ⟨x⟩ (zw t).1) h).2.2) else
 (z10 ⟨x⟩ (zw t).1,(zl l t (z06 ⟨x⟩ (zw t).1) h).1,z0s t (zl l t (z06 ⟨x⟩ (zw t).1) h).2.1,0)
abbrev z00q:=List (List UInt8) × List Tx × List Coin × Int × Int
structure Sw where
 x:List (List UInt8)
 s:List Tx
 m:List Coin
 f:Int
def z1i (h:Int):Sw→List Tx→z00q
 | a,[]=>(a.x,a.s,a.m,a.f,0)
 | a,t::r=>if (z01 a.x a.m t h).2.2.2≠0 then z1i h a r else
  z1i h ⟨(z01 a.x a.m t h).1,a.s++[t],(z01 a.x a.m t h).2.1,a.f+(z01 a.x a.m t h).2.2.1⟩ r
def zk (k:Book) (l:List Coin) (p:List Tx) (h:Int):z00q :=
 if zo k≠0 then ([],[],[],0,zo k) else if zh l≠0 then ([],[],[],0,zh l) else
 if h<1 then ([],[],[],0,3) else if h > 1000 then ([],[],[],0,3) else if (p.length:Int) > 8 then ([],[],[],0,2) else
 z1i h ⟨k.texts,[],l,0⟩ p
def z93 (x:List (List UInt8)) (s:List Tx) (m:List Coin) (t:Tx) (h:Int):List (List UInt8) × List Tx × Int :=
 if (z01 x m t h).2.2.2≠0 then ([],[],(z01 x m t h).2.2.2) else if (s.length:Int)=8 then ([],[],12) else ((z01 x m t h).1,s++[t],0)
def z0a (k:Book) (l:List Coin) (p:List Tx) (t:Tx) (h:Int):List (List UInt8) × List Tx × Int :=
 if (zk k l p h).2.2.2.2≠0 then ([],[],(zk k l p h).2.2.2.2) else if t ∈ (zk k l p h).2.1 then ([],[],6) else
 z93 (zk k l p h).1 (zk k l p h).2.1 (zk k l p h).2.2.1 t h
def zt9 (parent height work nonce:Int) (lk:List Op) (s:List Tx) (f:Int):Block × Int :=
 if z1r height≠0 then (za0,z1r height) else if z0u height+f=0 then (za0,9) else
 if z07 ⟨parent,height,work,nonce,⟨height,[],[⟨z0u height+f,lk⟩]⟩::s⟩≠0 then (za0,z07 ⟨parent,height,work,nonce,⟨height,[],[⟨z0u height+f,lk⟩]⟩::s⟩) else
 (⟨parent,height,work,nonce,⟨height,[],[⟨z0u height+f,lk⟩]⟩::s⟩,0)
def z22 (k:Book) (l:List Coin) (p:List Tx) (parent height work nonce:Int) (lk:List Op):Block × Int :=
 if (zk k l p (height+1)).2.2.2.2≠0 then (za0,(zk k l p (height+1)).2.2.2.2) else
 if (zk k l ((zk k l p (height+1)).2.1.take 3) (height+1)).2.2.2.2≠0 then (za0,(zk k l ((zk k l p (height+1)).2.1.take 3) (height+1)).2.2.2.2) else
 zt9 parent (height+1) work nonce lk (zk k l ((zk k l p (height+1)).2.1.take 3) (height+1)).2.1 (zk k l ((zk k l p (height+1)).2.1.take 3) (height+1)).2.2.2.1
theorem zg3 {x:List (List UInt8)} {l:List Coin} {t:Tx} {h:Int} (h0:(z01 x l t h).2.2.2=0) :
  zj t=0∧t.ins.length≠0∧z0o ⟨x⟩ (z0k t)=0∧(zl l t (z06 ⟨x⟩ (z0k t)) h).2.2=0∧z01 x l t h=(z10 ⟨x⟩ (z0k t),(zl l t (z06 ⟨x⟩ (z0k t)) h).1,z0s t (zl l t (z06 ⟨x⟩ (z0k t)) h).2.1,0):=by
 by_cases hc:zj t=0
 rotate_left
 ·have e:zw t=([],zj t):=by unfold zw;exact if_pos hc
  unfold z01 at h0
  rw [e,if_pos hc] at h0
  exact absurd h0 hc
 unfold z01 at h0 ⊢
 rw [zfw hc,if_neg (fun k=>k rfl)] at h0 ⊢
 by_cases hi:(t.ins.length:Int)=0
 ·rw [if_pos hi] at h0
  exact absurd h0 (by show ¬ (4:Int)=0;decide)
 rw [if_neg hi] at h0 ⊢
 by_cases hn:z0o ⟨x⟩ (z0k t)=0
 rotate_left
 ·rw [if_pos hn] at h0
  exact absurd h0 hn
 rw [if_neg (fun k=>k hn)] at h0 ⊢
 by_cases ha:(zl l t (z06 ⟨x⟩ (z0k t)) h).2.2=0
 rotate_left
 ·rw [if_pos ha] at h0
  exact absurd h0 ha
 rw [if_neg (fun k=>k ha)]
 exact ⟨hc,by omega,hn,ha,rfl⟩
theorem zta {x:List (List UInt8)} {l:List Coin} {t:Tx} {h:Int} (h0:(z01 x l t h).2.2.2=0) : -10000000000≤(z01 x l t h).2.2.1∧(z01 x l t h).2.2.1≤10000000000:=by
 obtain ⟨-,-,-,h4,h5⟩:=zg3 h0
 rw [h5]
 exact (zin h4).2
theorem zas (h:Int):∀ (r:List Tx) (a:Sw) (n:Nat),a.s.length≤n → -10000000000 * (n:Int)≤a.f→a.f≤10000000000 * (n:Int)→(z1i h a r).2.1.length≤n+r.length ∧ -10000000000 * ((n:Int)+r.length)≤(z1i h a r).2.2.2.1∧(z1i h a r).2.2.2.1≤10000000000 * ((n:Int)+r.length)
 | [],a,n,h1,h2,h3=>by
  rw [z1i]
  simp only [List.length_nil]
  omega
 | t::r,a,n,h1,h2,h3=>by
  rw [z1i]
  by_cases he:(z01 a.x a.m t h).2.2.2=0
  ·rw [if_neg (fun k=>k he)]
   have hf:=zta he
   have:=zas h r ⟨(z01 a.x a.m t h).1,a.s++[t],(z01 a.x a.m t h).2.1,a.f+(z01 a.x a.m t h).2.2.1⟩ (n+1) (by simp;omega) (by simp only;omega) (by simp only;omega)
   simp only [List.length_cons]
   omega
  ·rw [if_pos he]
   have:=zas h r a n h1 h2 h3
   simp only [List.length_cons]
   omega
theorem zat (k:Book) (l:List Coin) (p:List Tx) (h:Int):(zk k l p h).2.1.length≤8 ∧ -80000000000≤(zk k l p h).2.2.2.1∧(zk k l p h).2.2.2.1≤80000000000:=by
 unfold zk
 split
 ·exact ⟨by simp,by simp,by simp⟩
 split
 ·exact ⟨by simp,by simp,by simp⟩
 split
 ·exact ⟨by simp,by simp,by simp⟩
 split
 ·exact ⟨by simp,by simp,by simp⟩
 split
 ·exact ⟨by simp,by simp,by simp⟩
 ·rename_i h5
  have:=zas h p ⟨k.texts,[],l,0⟩ 0 (by simp) (by simp) (by simp)
  omega
attribute [local irreducible] z05 spD zw zl z0s z0o z10 z06 zo zh z07 z0u z1r
attribute [local irreducible] den denX z0h z0z
noncomputable def z3h:z6:=spD (fun _:List (List UInt8) × List Coin × Tx × Int=>True) fun x=>z01 x.1 x.2.1 x.2.2.1 x.2.2.2
theorem zb1 (x:List (List UInt8)) (l:List Coin) (t:Tx) (h:Int):z3h [.l 1 (x.map z0e),.l 6 (l.map zg),I t.height,.l 3 (t.ins.map eIn),.l 2 (t.outs.map z16),I h]=some [.l 1 ((z01 x l t h).1.map z0e),.l 6 ((z01 x l t h).2.1.map zg),I (z01 x l t h).2.2.1,I (z01 x l t h).2.2.2]:=zp (f:=fun x:List (List UInt8) × List Coin × Tx × Int=>z01 x.1 x.2.1 x.2.2.1 x.2.2.2) (x,l,t,h) trivial
theorem zg4 (x:List (List UInt8)) (s:List UInt8):z3r [.l 1 (x.map z0e),.s s]=some [.l 1 ((z10 ⟨x⟩ s).map z0e),I (z06 ⟨x⟩ s),I (z0o ⟨x⟩ s)]:=zh2 ⟨x⟩ s
theorem zec (x:List (List UInt8)):z37 [.l 1 (x.map z0e)]=some [I (zo ⟨x⟩)]:=zfz ⟨x⟩
def zrx:T :=
 .lets [.bin .neq (.v 17) (.c (.i .i64 0))] [] (.ite (.v 18) (.ret [.v 0,.c (.nil 6),.c (.i .i64 0),.v 17]) (.lets [.call 12 [.v 2,.v 3,.v 4,.v 16] 0] [] (.ret [.v 11,.v 15,
 .v 19,.c (.i .i64 0)])))
def zry:T :=
 .lets [.call 17 [.v 1,.v 2,.v 3,.v 4,.v 12,.v 5] 0,.call 17 [.v 1,.v 2,.v 3,.v 4,.v 12,.v 5] 1,.call 17 [.v 1,.v 2,.v 3,.v 4,.v 12,.v 5] 2] [] zrx
def zrz:T :=
 .lets [.call 54 [.v 0,.v 6] 0,.call 54 [.v 0,.v 6] 1,.call 54 [.v 0,.v 6] 2] [] (.lets [.bin .neq (.v 13) (.c (.i .i64 0))] [] (.ite (.v 14) (.ret [.v 0,.c (.nil 6),.c (.i
 .i64 0),.v 13]) zry))
def zs0:T :=
 .ite (.v 8) (.ret [.v 0,.c (.nil 6),.c (.i .i64 0),.v 7]) (.lets [.len (.v 3)] [] (.lets [.bin .eql (.v 9) (.c (.i .i64 0))] [] (.ite (.v 10) (.ret [.v 0,.c (.nil 6),.c (.i
 .i64 0),.c (.i .i64 4)]) zrz)))
def zc6:T :=
 .lets [.call 36 [.v 2,.v 3,.v 4] 0,.call 36 [.v 2,.v 3,.v 4] 1] [] (.lets [.bin .neq (.v 7) (.c (.i .i64 0))] [] zs0)
attribute [local irreducible] z3r z3g z4n z4a
theorem zio:Meets Tryd.prog z3h 24 ⟨[.agg 1,.one,.agg 3,.one],[(true,[.pure]),(false,[.pure]),(false,[.scal]),(false,[.scal])],false⟩:=by
 refine zu (sp:=(z0l [(12,z4a),(17,z4n),(36,z3g),(54,z3r)])) (sigs:=z0y) (cut:=[]) (hints:=[]) (fn:=Tryd.f24) (t:=zc6) (by kernel_rfl) (by kernel_rfl) (by kernel_rfl) ?_ ?_
 ·exact (z0c (L:=[(12,z4a),(17,z4n),(36,z3g),(54,z3r)]) ⟨zb rfl zt5,zb rfl zxp,zb rfl zx7,zb rfl zuw,trivial⟩)
 ·rintro ds rs - h
  obtain ⟨⟨x,l,t,hh⟩,-,rfl,rfl⟩:=zt h
  clear h
  refine ⟨⟨1,?_⟩,z91 ⟨rfl,rfl,trivial⟩⟩
  show den _ _ zc6 [.l 1 (x.map z0e),.l 6 (l.map zg),I t.height,.l 3 (t.ins.map eIn),.l 2 (t.outs.map z16),I hh] []=ret (z01 x l t hh)
  have a1:=zh4 t
  have a2:=zg4 x (zw t).1
  have a3:=zju l t (z06 ⟨x⟩ (zw t).1) hh
  have a4:=fun h0=>zdb t _ (zin (l:=l) (t:=t) (nm:=z06 ⟨x⟩ (zw t).1) (h:=hh) h0).1
  unfold zc6 z01
  generalize zw t=pt at *
  obtain ⟨s,e⟩:=pt
  simp only at *
  generalize z0o ⟨x⟩ s=en at *
  generalize z10 ⟨x⟩ s=xn at *
  generalize z06 ⟨x⟩ s=nm at *
  generalize zl l t nm hh=q at *
  obtain ⟨m,us,ea⟩:=q
  simp only at *
  by_cases hea:ea=0
  ·have a4:=a4 hea
   repeat' (first|refine dq1 ?_|refine dqK rfl (a1) ?_|refine dqK rfl (a2) ?_|refine dqK rfl (a3) ?_|refine dqk rfl (a4) ?_|exact z4 rfl rfl|refine tR (fun h=>?_) fun h=>?_|fail)
  ·clear a4
   repeat' (first|refine dq1 ?_|refine dqK rfl (a1) ?_|refine dqK rfl (a2) ?_|refine dqK rfl (a3) ?_|exact z4 rfl rfl|refine tR (fun h=>?_) fun h=>?_|fail)
   all_goals omega
noncomputable def z13:z6:=spD (fun _:List (List UInt8) × List Coin × List Tx × Int=>True) fun x=>zk ⟨x.1⟩ x.2.1 x.2.2.1 x.2.2.2
theorem z2w (x:List (List UInt8)) (l:List Coin) (p:List Tx) (h:Int):z13 [.l 1 (x.map z0e),.l 6 (l.map zg),.l 3 (p.map eTx),I h]=some [.l 1 ((zk ⟨x⟩ l p h).1.map z0e),.l 3 ((zk ⟨x⟩ l p h).2.1.map eTx),.l 6 ((zk ⟨x⟩ l p h).2.2.1.map zg),I (zk ⟨x⟩ l p h).2.2.2.1,I (zk ⟨x⟩ l p h).2.2.2.2]:=zp (f:=fun x:List (List UInt8) × List Coin × List Tx × Int=>zk ⟨x.1⟩ x.2.1 x.2.2.1 x.2.2.2) (x,l,p,h) trivial
def zjy:T :=
 .lets [.mk 3 [[.v 30,.v 31,.v 32]]] [] (.lets [.app 3 (.v 17) (.v 33)] [] (.lets [.bin .add (.v 18) (.c (.i .i64 1))] [] (.again 0 [.v 25,.v 29,.v 34,.v 35,.v 24])))
def zjz:T :=
 .lets [.bin .add (.v 16) (.v 26)] [] (.lets [.call 55 [.v 21,.v 22,.v 23] 0,.call 55 [.v 21,.v 22,.v 23] 1,.call 55 [.v 21,.v 22,.v 23] 2] [] zjy)
def zk0:T :=
 .lets [.bin .neq (.v 27) (.c (.i .i64 0))] [] (.ite (.v 28) (.lets [.bin .add (.v 18) (.c (.i .i64 1))] [] (.again 0 [.v 15,.v 16,.v 17,.v 29,.v 19])) zjz)
def zk1:T :=
 .lets [.call 56 [.v 19,.v 15,.v 21,.v 22,.v 23,.v 3] 0,.call 56 [.v 19,.v 15,.v 21,.v 22,.v 23,.v 3] 1,.call 56 [.v 19,.v 15,.v 21,.v 22,.v 23,.v 3] 2,.call 56 [.v
 19,.v 15,.v 21,.v 22,.v 23,.v 3] 3] [] zk0
def zk2:T :=
 .ite (.v 20) (.lets [] [.inr 3 (.v 2) (.v 18)] (.lets [.idx (.v 2) (.v 18) 0,.idx (.v 2) (.v 18) 1,.idx (.v 2) (.v 18) 2] [] zk1)) (.ret [.v 19,.v 17,.v 15,.v 16,.c
 (.i .i64 0)])
def zk3:T :=
 .lets [.call 53 [.v 0] 0] [] (.lets [.len (.v 2)] [] (.loop [.v 12,.c (.i .i64 0),.c (.nil 3),.c (.i .i64 0),.v 13] (.lets [.bin .lss (.v 18) (.v 14)] [] zk2)))
def zk4:T :=
 .lets [.bin .gtr (.v 10) (.c (.i .i64 8))] [] (.ite (.v 11) (.ret [.c (.nil 1),.c (.nil 3),.c (.nil 6),.c (.i .i64 0),.c (.i .i64 2)]) (.lets [.call 11 [.v 1] 0] []
 zk3))
def zk5:T :=
 .lets [.bin .gtr (.v 3) (.c (.i .i64 1000))] [] (.ite (.v 9) (.ret [.c (.nil 1),.c (.nil 3),.c (.nil 6),.c (.i .i64 0),.c (.i .i64 3)]) (.lets [.len (.v 2)] [] zk4))
def zk6:T :=
 .ite (.v 7) (.ret [.c (.nil 1),.c (.nil 3),.c (.nil 6),.c (.i .i64 0),.v 6]) (.lets [.bin .lss (.v 3) (.c (.i .i64 1))] [] (.ite (.v 8) (.ret [.c (.nil 1),.c (.nil 3),.c (.nil
 6),.c (.i .i64 0),.c (.i .i64 3)]) zk5))
def zk7:T :=
 .ite (.v 5) (.ret [.c (.nil 1),.c (.nil 3),.c (.nil 6),.c (.i .i64 0),.v 4]) (.lets [.call 8 [.v 1] 0] [] (.lets [.bin .neq (.v 6) (.c (.i .i64 0))] [] zk6))
def z9e:T :=
 .lets [.call 42 [.v 0] 0] [] (.lets [.bin .neq (.v 4) (.c (.i .i64 0))] [] zk7)
attribute [local irreducible] z37 z8n z3e z2r z49
theorem z9f:Meets Tryd.prog z13 13 ⟨[.agg 1,.one,.one,.one],[(true,[.pure]),(false,[.fresh 43 3]),(false,[.pure]),(false,[.scal]),(false,[.scal])],false⟩:=by
 refine zu (sp:=(z0l [(8,z2r),(11,z49),(42,z37),(53,z8n),(55,z3e),(56,z3h)])) (sigs:=z04z) (cut:=[]) (hints:=[⟨14,[.t 10,.t 11,.r 9 43 3,.t 52,.o 8]⟩]) (fn:=Tryd.f13) (t:=z9e) (by kernel_rfl) (by kernel_rfl) (by kernel_rfl) ?_ ?_
 ·exact (z0c (L:=[(8,z2r),(11,z49),(42,z37),(53,z8n),(55,z3e),(56,z3h)]) ⟨zb rfl zic,zb rfl (zi6 rfl zov),zb rfl zrl,zb rfl (zi6 rfl z02g),zb rfl zp2,zb rfl zio,trivial⟩)
 ·rintro ds rs - h
  obtain ⟨⟨x,l,p,hh⟩,-,rfl,rfl⟩:=zt h
  clear h
  refine ⟨⟨10,?_⟩,z91 ⟨rfl,rfl,trivial⟩⟩
  show den _ _ z9e [.l 1 (x.map z0e),.l 6 (l.map zg),.l 3 (p.map eTx),I hh] []=ret (zk ⟨x⟩ l p hh)
  have a1:=zec x
  have a2:=z4w l
  have a3:=fun h0=>zbz l ((z0v l).1 h0).short
  have a4:=fun h0=>zrm x (by have:=z6z (bk:=⟨x⟩) h0;simp only at this;omega)
  unfold z9e zk
  generalize zo ⟨x⟩=eb at *
  generalize zh l=ec at *
  by_cases hb:eb=0
  ·by_cases hc:ec=0
   ·have a3:=a3 hc
    have a4:=a4 hb
    repeat' (first|refine dq1 ?_|refine dqk rfl (a1) ?_|refine dqk rfl (a2) ?_|refine dqk rfl (a3) ?_|refine dqk rfl (a4) ?_|exact z4 rfl rfl|refine tR (fun h=>?_) fun h=>?_|fail)
    have hp8:p.length≤8:=by omega
    (refine z0p (fun (a:Sw) k=>[.l 6 (a.m.map zg),I a.f,.l 3 (a.s.map eTx),I k,.l 1 (a.x.map z0e)]) (fun (a:Sw) _ (r:List Tx)=>z1i hh a r) (fun a k=>a.s.length≤k ∧ -10000000000 * (k:Int)≤a.f∧a.f≤10000000000 * (k:Int)) ⟨x,[],l,0⟩ p ?_ ?_ ?_ ?_ ?_;rfl;exact ⟨by simp,by simp,by simp⟩;omega)
    ·rintro ⟨ax,as_,am,af⟩ i t r hx hd hk ⟨h1,h2,h3⟩ again hag
     simp only at h1 h2 h3
     have b1:=zb1 ax am t hh
     have b2:=fun h0=>zc3 t (zaz (zg3 (x:=ax) (l:=am) (t:=t) (h:=hh) h0).1)
     have b3:=fun h0=>zta (x:=ax) (l:=am) (t:=t) (h:=hh) h0
     rw [z1i]
     simp only
     have hag0:=hag ⟨ax,as_,am,af⟩ ⟨by simp only;omega,by simp only;omega,by simp only;omega⟩
     have hag1:=fun (g0:(z01 ax am t hh).2.2.2=0)=>hag ⟨(z01 ax am t hh).1,as_++[t],(z01 ax am t hh).2.1,af+(z01 ax am t hh).2.2.1⟩ ⟨by simp;omega,by have:=b3 g0;simp only;omega,by have:=b3 g0;simp only;omega⟩
     generalize z01 ax am t hh=q at *
     obtain ⟨qx,qm,qf,qe⟩:=q
     simp only at *
     by_cases hq:qe=0
     ·have b2:=b2 hq
      have b3:=b3 hq
      have hag':=hag1 hq
      clear hag0 hag1
      repeat' (first|refine dq1 ?_|refine dqc ?_|refine dqm ?_|refine dqK rfl (b1) ?_|refine dqK rfl (b2) ?_|refine z5 (z3j rfl rfl (by simp)) ?_|refine tR (fun h=>?_) fun h=>?_|refine dqT ?_|fail)
      all_goals first|exact zq rfl rfl hag'|omega
     ·clear b2 b3 hag1
      have hag':=hag0
      repeat' (first|refine dq1 ?_|refine dqc ?_|refine dqm ?_|refine dqK rfl (b1) ?_|refine tR (fun h=>?_) fun h=>?_|refine dqT ?_|fail)
      all_goals first|exact zq rfl rfl hag'|omega
    ·rintro ⟨ax,as_,am,af⟩ - again
     rw [z1i]
     repeat' (first|refine dq1 ?_|exact z4 rfl rfl|refine dqF ?_|fail)
   ·clear a3 a4
    repeat' (first|refine dq1 ?_|refine dqk rfl (a1) ?_|refine dqk rfl (a2) ?_|exact z4 rfl rfl|refine tR (fun h=>?_) fun h=>?_|fail)
    all_goals omega
  ·clear a3 a4
   repeat' (first|refine dq1 ?_|refine dqk rfl (a1) ?_|refine dqk rfl (a2) ?_|exact z4 rfl rfl|refine tR (fun h=>?_) fun h=>?_|fail)
   all_goals omega
end
section
open Go.RowKit
open Go.Lib (itoa)
set_option maxRecDepth 100000
set_option maxHeartbeats 4000000
theorem zv1 {t y:Tx} {r:List Tx} {a b:List (List UInt8) × List Tx × Int}:(if t ∈ y::r then a else b)=if decide (y=t)=true then a else if t ∈ r then a else b:=by
 by_cases h:y=t
 ·subst h;simp
 ·have h':¬ t=y:=fun e=>h e.symm
  simp [h,h']
attribute [local irreducible] z05 spD zk z01 zw zl z0s zo zh z07 z0u z1r
attribute [local irreducible] den denX z0h z0z
noncomputable def z1c:z6:=spD (fun _:List (List UInt8) × List Coin × List Tx × Tx × Int=>True) fun x=>z0a ⟨x.1⟩ x.2.1 x.2.2.1 x.2.2.2.1 x.2.2.2.2
theorem z3i (x:List (List UInt8)) (l:List Coin) (p:List Tx) (t:Tx) (h:Int):z1c [.l 1 (x.map z0e),.l 6 (l.map zg),.l 3 (p.map eTx),I t.height,.l 3 (t.ins.map eIn),.l 2 (t.outs.map z16),I h]=some [.l 1 ((z0a ⟨x⟩ l p t h).1.map z0e),.l 3 ((z0a ⟨x⟩ l p t h).2.1.map eTx),I (z0a ⟨x⟩ l p t h).2.2]:=zp (f:=fun x:List (List UInt8) × List Coin × List Tx × Tx × Int=>z0a ⟨x.1⟩ x.2.1 x.2.2.1 x.2.2.2.1 x.2.2.2.2) (x,l,p,t,h) trivial
theorem zb2 (x y:Tx):z1h [I x.height,.l 3 (x.ins.map eIn),.l 2 (x.outs.map z16),I y.height,.l 3 (y.ins.map eIn),.l 2 (y.outs.map z16)]=some [.b (decide (x=y))]:=zc1 x y
def zh6:T :=
 .lets [.call 55 [.v 3,.v 4,.v 5] 0,.call 55 [.v 3,.v 4,.v 5] 1,.call 55 [.v 3,.v 4,.v 5] 2] [] (.lets [.mk 3 [[.v 29,.v 30,.v 31]]] [] (.lets [.app 3 (.v 8) (.v 32)] []
 (.ret [.v 22,.v 33,.c (.i .i64 0)])))
def zh7:T :=
 .ite (.v 26) (.ret [.c (.nil 1),.c (.nil 3),.v 25]) (.lets [.len (.v 8)] [] (.lets [.bin .eql (.v 27) (.c (.i .i64 8))] [] (.ite (.v 28) (.ret [.c (.nil 1),.c (.nil 3),.c (.i
 .i64 12)]) zh6)))
def zh8:T :=
 .lets [.call 56 [.v 7,.v 9,.v 3,.v 4,.v 5,.v 6] 0,.call 56 [.v 7,.v 9,.v 3,.v 4,.v 5,.v 6] 1,.call 56 [.v 7,.v 9,.v 3,.v 4,.v 5,.v 6] 2,.call 56 [.v 7,.v 9,.v 3,
 .v 4,.v 5,.v 6] 3] [] (.lets [.bin .neq (.v 25) (.c (.i .i64 0))] [] zh7)
def zh9:T :=
 .ite (.v 20) (.lets [.bin .geq (.v 15) (.c (.i .i64 0))] [] (.ite (.v 21) (.ret [.c (.nil 1),.c (.nil 3),.c (.i .i64 6)]) zh8)) (.lets [.bin .add (.v 15) (.c (.i .i64
 1))] [] (.again 0 [.v 14,.v 21]))
def zha:T :=
 .lets [] [.inr 3 (.v 8) (.v 15)] (.lets [.idx (.v 8) (.v 15) 0,.idx (.v 8) (.v 15) 1,.idx (.v 8) (.v 15) 2] [] (.lets [.call 41 [.v 17,.v 18,.v 19,.v 3,.v 4,.v 5] 0] []
 zh9))
def zhb:T :=
 .lets [.call 55 [.v 3,.v 4,.v 5] 0,.call 55 [.v 3,.v 4,.v 5] 1,.call 55 [.v 3,.v 4,.v 5] 2] [] (.lets [.mk 3 [[.v 25,.v 26,.v 27]]] [] (.lets [.app 3 (.v 8) (.v 28)] []
 (.ret [.v 18,.v 29,.c (.i .i64 0)])))
def zhc:T :=
 .ite (.v 22) (.ret [.c (.nil 1),.c (.nil 3),.v 21]) (.lets [.len (.v 8)] [] (.lets [.bin .eql (.v 23) (.c (.i .i64 8))] [] (.ite (.v 24) (.ret [.c (.nil 1),.c (.nil 3),.c (.i
 .i64 12)]) zhb)))
def zhd:T :=
 .lets [.call 56 [.v 7,.v 9,.v 3,.v 4,.v 5,.v 6] 0,.call 56 [.v 7,.v 9,.v 3,.v 4,.v 5,.v 6] 1,.call 56 [.v 7,.v 9,.v 3,.v 4,.v 5,.v 6] 2,.call 56 [.v 7,.v 9,.v 3,
 .v 4,.v 5,.v 6] 3] [] (.lets [.bin .neq (.v 21) (.c (.i .i64 0))] [] zhc)
def zhe:T :=
 .ite (.v 16) zha (.lets [.bin .geq (.c (.i .i64 (-1))) (.c (.i .i64 0))] [] (.ite (.v 17) (.ret [.c (.nil 1),.c (.nil 3),.c (.i .i64 6)]) zhd))
def zhf:T :=
 .ite (.v 12) (.ret [.c (.nil 1),.c (.nil 3),.v 11]) (.lets [.len (.v 8)] [] (.loop [.c (.i .i64 0),.c (.i .i64 0)] (.lets [.bin .lss (.v 15) (.v 13)] [] zhe)))
def z8o:T :=
 .lets [.call 57 [.v 0,.v 1,.v 2,.v 6] 0,.call 57 [.v 0,.v 1,.v 2,.v 6] 1,.call 57 [.v 0,.v 1,.v 2,.v 6] 2,.call 57 [.v 0,.v 1,.v 2,.v 6] 3,.call 57 [.v 0,.v 1,.v
 2,.v 6] 4] [] (.lets [.bin .neq (.v 11) (.c (.i .i64 0))] [] zhf)
attribute [local irreducible] z3h z13 z3e z1h
theorem zc7:Meets Tryd.prog z1c 11 ⟨[.agg 1,.one,.one,.agg 3,.one],[(true,[.pure]),(false,[.pure]),(false,[.scal])],false⟩:=by
 refine zbq (sp:=(z0l [(41,z1h),(55,z3e),(56,z3h),(57,z13)])) (sigs:=z0y) (cut:=[]) (hints:=[]) (fns:=[z8g 22 Tryd.f22 [] [],z8g 44 Tryd.f44 [⟨2,[.t 4,.t 8]⟩] [],z8g 23 Tryd.f23 [] []]) (dep:=4) (pool:=400) (fn:=Tryd.f11) (t:=z8o) (by kernel_rfl) (by kernel_rfl) (by kernel_rfl) ?_ ?_ ?_
 ·exact (z1y (fn:=Tryd.f22) (by kernel_rfl) (by kernel_rfl) (by kernel_rfl) (by kernel_rfl) (by kernel_rfl) (z1y (fn:=Tryd.f44) (by kernel_rfl) (by kernel_rfl) (by kernel_rfl) (by kernel_rfl) (by kernel_rfl) (z1y (fn:=Tryd.f23) (by kernel_rfl) (by kernel_rfl) (by kernel_rfl) (by kernel_rfl) (by kernel_rfl) zdx)))
 ·exact (z0c (L:=[(41,z1h),(55,z3e),(56,z3h),(57,z13)]) ⟨zb rfl ze6,zb rfl zp2,zb rfl zio,zb rfl z9f,trivial⟩)
 ·rintro ds rs - h
  obtain ⟨⟨x,l,p,t,hh⟩,-,rfl,rfl⟩:=zt h
  clear h
  refine ⟨⟨10,?_⟩,z91 ⟨rfl,trivial⟩⟩
  show den _ _ z8o [.l 1 (x.map z0e),.l 6 (l.map zg),.l 3 (p.map eTx),I t.height,.l 3 (t.ins.map eIn),.l 2 (t.outs.map z16),I hh] []=ret (z0a ⟨x⟩ l p t hh)
  have a1:=z2w x l p hh
  have hs:=(zat ⟨x⟩ l p hh).1
  unfold z8o z0a
  generalize zk ⟨x⟩ l p hh=q at *
  obtain ⟨qx,qs,qm,qf,qe⟩:=q
  simp only at *
  repeat' (first|refine dq1 ?_|refine dqK rfl (a1) ?_|exact z4 rfl rfl|refine tR (fun h=>?_) fun h=>?_|fail)
  (refine z0p (fun (_:Unit) k=>[I 0,I k]) (fun (_:Unit) _ (r:List Tx)=>if t ∈ r then ([],[],6) else z93 qx qs qm t hh) (fun _ _=>True) () qs ?_ ?_ ?_ ?_ ?_;rfl;exact trivial;omega)
  ·rintro _ i y r hx hd hk - again hag
   rw [zv1]
   have b1:=zb2 y t
   have hag':=hag () trivial
   by_cases hy:y=t
   ·rw [decide_eq_true hy,if_pos rfl]
    rw [decide_eq_true hy] at b1
    repeat' (first|refine dq1 ?_|refine dqc ?_|refine dqm ?_|refine dqk rfl (b1) ?_|exact z4 rfl rfl|refine dqT ?_|refine z6h rfl ?_|fail)
   ·rw [decide_eq_false hy,if_neg (by decide)]
    rw [decide_eq_false hy] at b1
    repeat' (first|refine dq1 ?_|refine dqc ?_|refine dqm ?_|refine dqk rfl (b1) ?_|refine dqT ?_|refine z6i rfl ?_|fail)
    exact zq rfl rfl hag'
  ·rintro _ - again
   rw [if_neg (by simp)]
   unfold z93
   have b1:=zb1 qx qm t hh
   have b2:=fun h0=>zc3 t (zaz (zg3 (x:=qx) (l:=qm) (t:=t) (h:=hh) h0).1)
   generalize z01 qx qm t hh=w at *
   obtain ⟨wx,wm,wf,we⟩:=w
   simp only at *
   by_cases hw:we=0
   ·have b2:=b2 hw
    repeat' (first|refine dq1 ?_|refine dqK rfl (b1) ?_|refine dqK rfl (b2) ?_|refine z5 (z3j rfl rfl (by simp)) ?_|exact z4 rfl rfl|refine tR (fun h=>?_) fun h=>?_|refine dqF ?_|fail)
    all_goals omega
   ·clear b2
    repeat' (first|refine dq1 ?_|refine dqK rfl (b1) ?_|exact z4 rfl rfl|refine tR (fun h=>?_) fun h=>?_|refine dqF ?_|fail)
    all_goals omega
noncomputable def z4t:z6:=spD (fun x:List (List UInt8) × List Coin × List Tx × Int × Int × Int × Int × List Op=>(-1≤x.2.2.2.2.1∧x.2.2.2.2.1≤1000)∧x.2.2.2.2.2.2.2.length≤8796093022208) fun x=>z22 ⟨x.1⟩ x.2.1 x.2.2.1 x.2.2.2.1 x.2.2.2.2.1 x.2.2.2.2.2.1 x.2.2.2.2.2.2.1 x.2.2.2.2.2.2.2
theorem zhg (x:List (List UInt8)) (l:List Coin) (p:List Tx) (a b c d:Int) (o:List Op) (h : -1≤b∧b≤1000) (h2:o.length≤8796093022208):z4t [.l 1 (x.map z0e),.l 6 (l.map zg),.l 3 (p.map eTx),I a,I b,I c,I d,.l 2 (o.map eOp)]=some [I (z22 ⟨x⟩ l p a b c d o).1.parent,I (z22 ⟨x⟩ l p a b c d o).1.height,I (z22 ⟨x⟩ l p a b c d o).1.work,I (z22 ⟨x⟩ l p a b c d o).1.nonce,.l 3 ((z22 ⟨x⟩ l p a b c d o).1.txs.map eTx),I (z22 ⟨x⟩ l p a b c d o).2] :=
 zp (p:=fun x:List (List UInt8) × List Coin × List Tx × Int × Int × Int × Int × List Op=>(-1≤x.2.2.2.2.1∧x.2.2.2.2.1≤1000)∧x.2.2.2.2.2.2.2.length≤8796093022208) (f:=fun x:List (List UInt8) × List Coin × List Tx × Int × Int × Int × Int × List Op=>z22 ⟨x.1⟩ x.2.1 x.2.2.1 x.2.2.2.1 x.2.2.2.2.1 x.2.2.2.2.2.1 x.2.2.2.2.2.2.1 x.2.2.2.2.2.2.2) (x,l,p,a,b,c,d,o) ⟨h,h2⟩
theorem zg5 (a b c d:Int) (l:List Tx):z3s [I a,I b,I c,I d,.l 3 (l.map eTx)]=some [I (z07 ⟨a,b,c,d,l⟩)]:=zh3 ⟨a,b,c,d,l⟩
theorem zxw (n:Int):0≤z0u n∧z0u n≤1000:=zil n
def zpu:T :=
 .lets [.bin .neq (.v 38) (.c (.i .i64 0))] [] (.ite (.v 39) (.ret [.c (.i .i64 0),.c (.i .i64 0),.c (.i .i64 0),.c (.i .i64 0),.c (.nil 3),.v 38]) (.ret [.v 3,.v 35,.v 5,.v
 6,.v 37,.c (.i .i64 0)]))
def zpv:T :=
 .lets [.bin .add (.v 4) (.c (.i .i64 1))] [] (.lets [.mk 3 [[.v 31,.c (.nil 3),.v 34]]] [] (.lets [.app 3 (.v 36) (.v 20)] [] (.lets [.call 44 [.v 3,.v 35,.v 5,.v 6,.v 37] 0]
 [] zpu)))
def zpw:T :=
 .lets [.bin .add (.v 4) (.c (.i .i64 1))] [] (.lets [.bin .add (.v 26) (.v 22)] [] (.lets [.call 10 [.v 7] 0] [] (.lets [.mk 2 [[.v 32,.v 33]]] [] zpv)))
def zpx:T :=
 .lets [.bin .eql (.v 29) (.c (.i .i64 0))] [] (.ite (.v 30) (.ret [.c (.i .i64 0),.c (.i .i64 0),.c (.i .i64 0),.c (.i .i64 0),.c (.nil 3),.c (.i .i64 9)]) zpw)
def zpy:T :=
 .lets [.bin .neq (.v 27) (.c (.i .i64 0))] [] (.ite (.v 28) (.ret [.c (.i .i64 0),.c (.i .i64 0),.c (.i .i64 0),.c (.i .i64 0),.c (.nil 3),.v 27]) (.lets [.bin .add (.v 26) (.v
 22)] [] zpx))
def zpz:T :=
 .ite (.v 24) (.ret [.c (.i .i64 0),.c (.i .i64 0),.c (.i .i64 0),.c (.i .i64 0),.c (.nil 3),.v 23]) (.lets [.bin .add (.v 4) (.c (.i .i64 1))] [] (.lets [.call 46 [.v 25] 0,
 .call 46 [.v 25] 1] [] zpy))
def zq0:T :=
 .lets [.call 57 [.v 0,.v 1,.v 17,.v 18] 0,.call 57 [.v 0,.v 1,.v 17,.v 18] 1,.call 57 [.v 0,.v 1,.v 17,.v 18] 2,.call 57 [.v 0,.v 1,.v 17,.v 18] 3,.call 57 [.v 0,.v
 1,.v 17,.v 18] 4] [] (.lets [.bin .neq (.v 23) (.c (.i .i64 0))] [] zpz)
def zq1:T :=
 .lets [.len (.v 10)] [] (.lets [.mn (.v 15) (.c (.i .i64 3))] [] (.lets [.sub 3 (.v 10) none (some (.v 16))] [] (.lets [.bin .add (.v 4) (.c (.i .i64 1))] [] zq0)))
def zq2:T :=
 .lets [.bin .neq (.v 13) (.c (.i .i64 0))] [] (.ite (.v 14) (.ret [.c (.i .i64 0),.c (.i .i64 0),.c (.i .i64 0),.c (.i .i64 0),.c (.nil 3),.v 13]) zq1)
def zq3:T :=
 .lets [.call 57 [.v 0,.v 1,.v 2,.v 8] 0,.call 57 [.v 0,.v 1,.v 2,.v 8] 1,.call 57 [.v 0,.v 1,.v 2,.v 8] 2,.call 57 [.v 0,.v 1,.v 2,.v 8] 3,.call 57 [.v 0,.v 1,.v
 2,.v 8] 4] [] zq2
def zau:T :=
 .lets [.bin .add (.v 4) (.c (.i .i64 1))] [] zq3
attribute [local irreducible] z3s z4k z2p
theorem zv2:Meets Tryd.prog z4t 26 ⟨[.agg 1,.one,.one,.one,.one,.one,.one,.one],[(true,[.scal,.scal,.scal,.scal,.pure]),(false,[.scal])],false⟩:=by
 refine zu (sp:=(z0l [(10,z4k),(44,z3s),(46,z2p),(57,z13)])) (sigs:=z0y) (cut:=[]) (hints:=[]) (fn:=Tryd.f26) (t:=zau) (by kernel_rfl) (by kernel_rfl) (by kernel_rfl) ?_ ?_
 ·exact (z0c (L:=[(10,z4k),(44,z3s),(46,z2p),(57,z13)]) ⟨zb rfl zlv,zb rfl zuy,zb rfl zp1,zb rfl z9f,trivial⟩)
 ·rintro ds rs - h
  obtain ⟨⟨x,l,p,a,b,c,d,o⟩,⟨hb,ho⟩,rfl,rfl⟩:=zt h
  clear h
  simp only at hb ho
  refine ⟨⟨1,?_⟩,z91 ⟨rfl,rfl,rfl,rfl,rfl,trivial⟩⟩
  show den _ _ zau [.l 1 (x.map z0e),.l 6 (l.map zg),.l 3 (p.map eTx),I a,I b,I c,I d,.l 2 (o.map eOp)] []=ret (z22 ⟨x⟩ l p a b c d o)
  have a1:=z2w x l p (b+1)
  have hs:=(zat ⟨x⟩ l p (b+1)).1
  unfold zau z22
  generalize zk ⟨x⟩ l p (b+1)=q at *
  obtain ⟨qx,qs,qm,qf,qe⟩:=q
  simp only at *
  have a2:=z2w x l (qs.take 3) (b+1)
  have hz:=zat ⟨x⟩ l (qs.take 3) (b+1)
  generalize zk ⟨x⟩ l (qs.take 3) (b+1)=w at *
  obtain ⟨wx,ws,wm,wf,we⟩:=w
  simp only at *
  unfold zt9
  have a3:=ze8 (b+1)
  have a4:=z7g o ho
  have hr:=zxw (b+1)
  generalize z0u (b+1)=rn at *
  generalize z1r (b+1)=re at *
  have a5:=zg5 a (b+1) c d (⟨b+1,[],[⟨rn+wf,o⟩]⟩::ws)
  generalize z07 ⟨a,b+1,c,d,⟨b+1,[],[⟨rn+wf,o⟩]⟩::ws⟩=be at *
  have ht:qs.take (if 3<(qs.length:Int) then 3 else (qs.length:Int)).toNat=qs.take 3:=by
   by_cases h3:3<(qs.length:Int)
   ·rw [if_pos h3];rfl
   ·rw [if_neg h3,Int.toNat_natCast,List.take_length,List.take_of_length_le (by omega)]
  repeat' (first|refine dq1 ?_|refine dqK rfl (a1) ?_|refine dqK rfl (a2) ?_|refine dqK rfl (a3) ?_|refine dqk rfl (a4) ?_|refine dqk rfl (a5) ?_|refine z5 (z3j rfl rfl (by simp)) ?_|refine z5 (zfi (l:=[⟨b+1,[],[⟨rn+wf,o⟩]⟩]) (l':=ws) rfl rfl (by simp;omega)) ?_|exact z4 rfl rfl|refine tR (fun h=>?_) fun h=>?_|fail)
end
section
open Go.RowKit
open Go.Lib (itoa)
set_option maxRecDepth 100000
set_option maxHeartbeats 4000000
def poC:Coin:=⟨⟨1,0⟩,⟨9,[]⟩,1,false⟩
def poT:Tx:=⟨0,[⟨⟨1,0⟩,[⟨1,1⟩]⟩],[⟨6,[]⟩]⟩
def poB:Book:=⟨(z0a ⟨[]⟩ [poC] [] poT 4).1⟩
theorem z05a:(z0a ⟨[]⟩ [poC] [] poT 4).2=([poT],0):=by with_unfolding_all decide +kernel
theorem z05b:(z0a poB [poC] [poT] poT 4).2.2=6:=by with_unfolding_all decide +kernel
theorem po_m:(z22 poB [poC] [poT] 5 3 1 0 []).2=0∧(z22 poB [poC] [poT] 5 3 1 0 []).1.txs.length=2∧((z22 poB [poC] [poT] 5 3 1 0 []).1.txs[0]?).map (fun t=>(t.outs.length,(t.outs[0]?).map Out.coin))=some (1,some 67):=by with_unfolding_all decide +kernel
theorem z05c {l:List Tx} (h:(l[0]?).map (fun t=>(t.outs.length,(t.outs[0]?).map Out.coin))=some (1,some 67)):∃ t o,l[(0:Int).toNat]? = some t∧t.outs[(0:Int).toNat]? = some o∧t.outs.length=1∧o.coin=67:=by
 cases l with
 | nil=>cases h
 | cons t l =>
  obtain ⟨a,b,c⟩:=t
  cases c with
  | nil=>cases h
  | cons o c =>
   simp only [List.getElem?_cons_zero,Option.map_some,Option.some.injEq,Prod.mk.injEq] at h
   exact ⟨_,o,rfl,rfl,h.1,h.2⟩
attribute [local irreducible] den denX z0h z0z
noncomputable def z5x:z6:=spD (fun _:Unit=>True) fun _=>true
theorem zk8:z5x []=some [.b true]:=zp (f:=fun _:Unit=>true) () trivial
attribute [local irreducible] z05 spD z0a z22
def zs1:T :=
 .lets [.idx (.v 14) (.c (.i .i64 0)) 2] [] (.lets [] [.inr 2 (.v 26) (.c (.i .i64 0))] (.lets [.idx (.v 26) (.c (.i .i64 0)) 0] [] (.lets [.bin .eql (.v 27) (.c (.i .i64 67))] []
 (.ret [.v 28]))))
def zs2:T :=
 .lets [.len (.v 23)] [] (.lets [.bin .eql (.v 24) (.c (.i .i64 1))] [] (.ite (.v 25) (.lets [] [.inr 3 (.v 14) (.c (.i .i64 0))] zs1) (.ret [.c (.b false)])))
def zs3:T :=
 .lets [.bin .eql (.v 21) (.c (.i .i64 2))] [] (.ite (.v 22) (.lets [] [.inr 3 (.v 14) (.c (.i .i64 0))] (.lets [.idx (.v 14) (.c (.i .i64 0)) 2] [] zs2)) (.ret [.c (.b
 false)]))
def zs4:T :=
 .ite (.v 18) (.lets [.len (.v 5)] [] (.lets [.bin .eql (.v 19) (.c (.i .i64 1))] [] (.ite (.v 20) (.lets [.len (.v 14)] [] zs3) (.ret [.c (.b false)])))) (.ret [.c (.b
 false)])
def zs5:T :=
 .ite (.v 16) (.lets [.bin .eql (.v 9) (.c (.i .i64 6))] [] (.ite (.v 17) (.lets [.bin .eql (.v 15) (.c (.i .i64 0))] [] zs4) (.ret [.c (.b false)]))) (.ret [.c (.b false)])
def zs6:T :=
 .lets [.call 59 [.v 4,.v 0,.v 5,.c (.i .i64 5),.c (.i .i64 3),.c (.i .i64 1),.c (.i .i64 0),.c (.nil 2)] 0,.call 59 [.v 4,.v 0,.v 5,.c (.i .i64 5),.c (.i .i64 3),.c (.i
 .i64 1),.c (.i .i64 0),.c (.nil 2)] 1,.call 59 [.v 4,.v 0,.v 5,.c (.i .i64 5),.c (.i .i64 3),.c (.i .i64 1),.c (.i .i64 0),.c (.nil 2)] 2,.call 59 [.v 4,.v 0,.v 5,.c
 (.i .i64 5),.c (.i .i64 3),.c (.i .i64 1),.c (.i .i64 0),.c (.nil 2)] 3,.call 59 [.v 4,.v 0,.v 5,.c (.i .i64 5),.c (.i .i64 3),.c (.i .i64 1),.c (.i .i64 0),.c (.nil 2)]
 4,.call 59 [.v 4,.v 0,.v 5,.c (.i .i64 5),.c (.i .i64 3),.c (.i .i64 1),.c (.i .i64 0),.c (.nil 2)] 5] [] (.lets [.bin .eql (.v 6) (.c (.i .i64 0))] [] zs5)
def zs7:T :=
 .lets [.call 58 [.v 4,.v 0,.v 5,.c (.i .i64 0),.v 2,.v 3,.c (.i .i64 4)] 0,.call 58 [.v 4,.v 0,.v 5,.c (.i .i64 0),.v 2,.v 3,.c (.i .i64 4)] 1,.call 58 [.v 4,.v 0,.v
 5,.c (.i .i64 0),.v 2,.v 3,.c (.i .i64 4)] 2] [] zs6
def zs8:T :=
 .lets [.call 58 [.c (.nil 1),.v 0,.c (.nil 3),.c (.i .i64 0),.v 2,.v 3,.c (.i .i64 4)] 0,.call 58 [.c (.nil 1),.v 0,.c (.nil 3),.c (.i .i64 0),.v 2,.v 3,.c (.i .i64 4)]
 1,.call 58 [.c (.nil 1),.v 0,.c (.nil 3),.c (.i .i64 0),.v 2,.v 3,.c (.i .i64 4)] 2] [] zs7
def zs9:T :=
 .lets [.mk 2 [[.c (.i .i64 1),.c (.i .i64 1)]]] [] (.lets [.mk 3 [[.c (.i .i64 1),.c (.i .i64 0),.v 1]]] [] (.lets [.mk 2 [[.c (.i .i64 6),.c (.nil 2)]]] [] zs8))
def zc8:T :=
 .lets [.mk 6 [[.c (.i .i64 1),.c (.i .i64 0),.c (.i .i64 9),.c (.nil 2),.c (.i .i64 1),.c (.b false)]]] [] zs9
attribute [local irreducible] z1c z4t
theorem zxx:Meets Tryd.prog z5x 12 ⟨[],[(false,[.scal])],true⟩:=by
 refine zu (sp:=(z0l [(58,z1c),(59,z4t)])) (sigs:=z0y) (cut:=[]) (hints:=[]) (fn:=Tryd.f12) (t:=zc8) (by kernel_rfl) (by kernel_rfl) (by kernel_rfl) ?_ ?_
 ·exact (z0c (L:=[(58,z1c),(59,z4t)]) ⟨zb rfl zc7,zb rfl zv2,trivial⟩)
 ·rintro ds rs - h
  obtain ⟨⟨⟩,-,rfl,rfl⟩:=zt h
  clear h
  refine ⟨⟨1,?_⟩,z09 rfl⟩
  show den _ _ zc8 [] []=ret true
  have a1:=z3i [] [poC] [] poT 4
  rw [z05a] at a1
  have a2:=z3i poB.texts [poC] [poT] poT 4
  have a3:=zhg poB.texts [poC] [poT] 5 3 1 0 [] ⟨by decide,by decide⟩ (by decide)
  have e2:(z0a ⟨poB.texts⟩ [poC] [poT] poT 4).2.2=6:=z05b
  rw [e2] at a2
  obtain ⟨e3,e4,e5⟩:=po_m
  have e6:z22 ⟨poB.texts⟩ [poC] [poT] 5 3 1 0 []=z22 poB [poC] [poT] 5 3 1 0 []:=rfl
  rw [e6,e3] at a3
  generalize (z0a ⟨poB.texts⟩ [poC] [poT] poT 4).1=w1 at *
  generalize (z0a ⟨poB.texts⟩ [poC] [poT] poT 4).2.1=w2 at *
  obtain ⟨t0,o0,g1,g2,g3,g4⟩:=z05c e5
  clear e5 e3 e6 e2
  generalize (z22 poB [poC] [poT] 5 3 1 0 []).1=mb at *
  obtain ⟨mp,mh,mw,mn,mt⟩:=mb
  simp only at *
  have hx:(z0a ⟨[]⟩ [poC] [] poT 4).1=poB.texts:=rfl
  rw [hx] at a1
  generalize poB.texts=kx at *
  unfold zc8
  have hd:=decide_eq_true g4
  repeat' (first|refine dq1 ?_|refine dqc ?_|refine dqK rfl (a1) ?_|refine dqK rfl (a2) ?_|refine dqK rfl (a3) ?_|refine z5 (z3j rfl rfl (by simp)) ?_|refine dqT ?_|refine z6h rfl ?_|fail)
  all_goals (simp only [hd];exact z4 rfl rfl)
end
section
open Go.RowKit
set_option maxRecDepth 100000
set_option maxHeartbeats 4000000
attribute [local irreducible] den denX z0h z0z
noncomputable def z6w:z6:=spD (fun _:List (List UInt8) × List (List UInt8)=>True) fun x=>decide (x.1=x.2)
theorem zq4 (l m:List (List UInt8)):z6w [.l 1 (l.map z0e),.l 1 (m.map z0e)]=some [.b (decide (l=m))]:=zp (f:=fun x:List (List UInt8) × List (List UInt8)=>decide (x.1=x.2)) (l,m) trivial
attribute [local irreducible] z05 spD
def zv3:T :=
 .lets [.idx (.v 1) (.v 7) 0] [] (.lets [.bin .neq (.v 9) (.v 10)] [] (.ite (.v 11) (.ret [.c (.b false)]) (.lets [.bin .add (.v 7) (.c (.i .i64 1))] [] (.again 0 [.v 6,.v 12]))))
def zv4:T :=
 .lets [.bin .lss (.v 7) (.v 5)] [] (.ite (.v 8) (.lets [] [.inr 1 (.v 0) (.v 7)] (.lets [.idx (.v 0) (.v 7) 0] [] (.lets [] [.inr 1 (.v 1) (.v 7)] zv3))) (.ret [.c (.b
 true)]))
def zv5:T :=
 .lets [.len (.v 1)] [] (.lets [.bin .neq (.v 2) (.v 3)] [] (.ite (.v 4) (.ret [.c (.b false)]) (.lets [.len (.v 0)] [] (.loop [.c (.b false),.c (.i .i64 0)] zv4))))
def zed:T :=
 .lets [.len (.v 0)] [] zv5
theorem z009:Meets Tryd.prog z6w 9 ⟨[.one,.one],[(false,[.scal])],true⟩:=by
 refine zu (sp:=(z0l [])) (sigs:=z0y) (cut:=[]) (hints:=[⟨4,[.t 4,.t 13]⟩]) (fn:=Tryd.f9) (t:=zed) (by kernel_rfl) (by kernel_rfl) (by kernel_rfl) ?_ ?_
 ·exact (z0c (L:=[]) trivial)
 ·rintro ds rs hok h
  obtain ⟨⟨l,m⟩,-,rfl,rfl⟩:=zt h
  clear h
  have hll:=zur (hok (.l 1 (l.map z0e)) (List.mem_cons_self ..))
  refine ⟨⟨l.length+1,?_⟩,z09 rfl⟩
  show den _ _ zed [.l 1 (l.map z0e),.l 1 (m.map z0e)] []=ret (decide (l=m))
  rw [z90]
  unfold zed
  repeat' (first|refine dq1 ?_|refine dqc ?_|refine dqm ?_|exact z4 rfl rfl|((first|refine tR ?_ ?_|refine tB ?_ ?_|refine tC ?_ ?_|refine tN ?_ ?_|refine tF ?_ ?_|refine tG ?_ ?_|refine tP ?_ ?_|refine tQ ?_ ?_|refine tA ?_ ?_|refine tO ?_ ?_|refine tU ?_ ?_|refine tV ?_ ?_) <;> intro h)|refine dqT ?_|refine dqF ?_|refine z6h rfl ?_|refine z6i rfl ?_|refine zlo ?_|refine zlp ?_)
  have hlm:l.length=m.length:=by omega
  (refine z0p (fun (_:Unit) k=>[.b false,I k]) (fun (_:Unit) k (r:List (List UInt8))=>decide (r=m.drop k)) (fun _ _=>True) () l ?_ ?_ ?_ ?_ ?_;rfl;exact trivial;first|exact Nat.lt_succ_self _|omega)
  ·rintro _ k x r hx hd hk - again hag
   have hy:m[k]? = some (m[k]'(by omega)):=List.getElem?_eq_getElem (by omega)
   have hdy:m.drop k=m[k]'(by omega)::m.drop (k+1):=List.drop_eq_getElem_cons (by omega)
   rw [hdy]
   generalize m[k]'(by omega)=y at *
   have e:decide (x::r=y::m.drop (k+1))=if decide (x≠y)=true then false else decide (r=m.drop (k+1)):=by
    by_cases h:x=y
    ·simp [h]
    ·simp [h]
   rw [e]
   have hkm:k<m.length:=by omega
   repeat' (first|refine dq1 ?_|refine dqc ?_|refine dqm ?_|exact z4 rfl rfl|exact zq rfl rfl (hag () trivial)|exact zq rfl rfl (hag _ trivial)|exact zq rfl rfl (hag _ (by omega))|exact zq rfl rfl (hag _ (by assumption))|((first|refine tR ?_ ?_|refine tB ?_ ?_|refine tC ?_ ?_|refine tN ?_ ?_|refine tF ?_ ?_|refine tG ?_ ?_|refine tP ?_ ?_|refine tQ ?_ ?_|refine tA ?_ ?_|refine tO ?_ ?_|refine tU ?_ ?_|refine tV ?_ ?_) <;> intro h)|refine dqT ?_|refine dqF ?_|refine z6h rfl ?_|refine z6i rfl ?_|refine zlo ?_|refine zlp ?_)
  ·rintro _ - again
   rw [hlm,List.drop_length]
   repeat' (first|refine dq1 ?_|refine dqc ?_|refine dqm ?_|exact z4 rfl rfl|((first|refine tR ?_ ?_|refine tB ?_ ?_|refine tC ?_ ?_|refine tN ?_ ?_|refine tF ?_ ?_|refine tG ?_ ?_|refine tP ?_ ?_|refine tQ ?_ ?_|refine tA ?_ ?_|refine tO ?_ ?_|refine tU ?_ ?_|refine tV ?_ ?_) <;> intro h)|refine dqT ?_|refine dqF ?_|refine z6h rfl ?_|refine z6i rfl ?_|refine zlo ?_|refine zlp ?_)
end
section
open Go.Lib (itoa atoiAll)
open Go.RowKit
end
section
open Go.Lib (itoa)
open Go.RowKit
structure PlainL (l:List UInt8):Prop where
 ne:∀ b ∈ l,b≠10
 no:∀ s,List.isPrefixOf tTx (l++s)=false
end
section
open Go.RowKit
set_option maxRecDepth 100000
end
section
open Go.RowKit
set_option maxRecDepth 100000
theorem Done.total {l:List Coin} {t:Tx} {nm h:Int} {r s m:List Coin} (d:Done l t nm h r s m):z7 m=z7 l - z0s t s:=by
 have h1:=d.spentAs.total
 have h2:=d.broughtAs.total
 rw [zeb]
 omega
theorem Done.most {l:List Coin} {t:Tx} {nm h:Int} {r s m:List Coin} (d:Done l t nm h r s m):z7 m≤z7 l - z0s t []:=by
 have S:=d.spentAs
 have h1:=S.total
 have h2:=d.broughtAs.total
 have hs:0≤z7 s:=z8i fun c hc=>d.ok.good c (S.from hc).1
 rw [zeb]
 simp only [z7]
 omega
theorem getD_set_ne {α:Type} {l:List α} {i j:Nat} {x d:α} (h:i≠j):(l.set i x).getD j d=l.getD j d:=by
 rw [List.getD_eq_getElem?_getD,List.getElem?_set_ne h,← List.getD_eq_getElem?_getD]
end
section
open Go.RowKit
set_option maxRecDepth 100000
inductive RunC (h:Int) (y:List z28):List Coin→List Tx→List Coin→Int→Prop where
 | nil (m:List Coin):RunC h y m [] m 0
 | cons {m m1 m' sp:List Coin} {t:Tx} {K:List Tx} {f:Int}:zj t=0→t.ins.length≠0→(z0k t).length≤4000→0≤idx y (z0k t)→zl m t (idx y (z0k t)+1) h=(m1,sp,0)→RunC h y m1 K m' f→RunC h y m (t::K) m' (z0s t sp+f)
theorem RunC.more {h:Int} {y z:List z28} {m m':List Coin} {K:List Tx} {f:Int} (hp:y <+: z) (R:RunC h y m K m' f):RunC h z m K m' f:=by
 induction R with
 | nil m=>exact .nil m
 | cons h1 h2 h3 h4 h5 _ ih =>
  have e:=zfy hp h4
  exact .cons h1 h2 h3 (by omega) (by rw [e];exact h5) ih
theorem zsa {m m1 sp:List Coin} {t:Tx} {nm h:Int} (hi:t.ins.length≠0) (h0:zl m t nm h=(m1,sp,0)):CoinsOK m∧CoinsOK m1∧0≤z0s t sp∧z7 m1=z7 m - z0s t sp:=by
 obtain ⟨r,d⟩:=zg2 (l:=m) (t:=t) (nm:=nm) (h:=h) (by rw [h0])
 rw [h0] at d
 exact ⟨d.ok,d.end_,d.fee hi,d.total⟩
theorem RunC.facts {h:Int} {y:List z28} {m m':List Coin} {K:List Tx} {f:Int} (R:RunC h y m K m' f):0≤f∧z7 m'=z7 m - f∧(CoinsOK m→CoinsOK m'):=by
 induction R with
 | nil m=>exact ⟨by omega,by omega,fun h=>h⟩
 | cons h1 h2 h3 h4 h5 _ ih =>
  obtain ⟨a,b,c,d⟩:=zsa h2 h5
  obtain ⟨e,f,g⟩:=ih
  exact ⟨by omega,by omega,fun _=>g b⟩
theorem RunC.part {h:Int} {y:List z28} {m':List Coin} {L:List Tx}:∀ {K:List Tx} {m:List Coin} {f:Int},RunC h y m (K++L) m' f→∃ m1 f1 f2,RunC h y m K m1 f1∧RunC h y m1 L m' f2
 | [],m,f,R=>⟨m,0,f,.nil m,R⟩
 | t::K,m,f,R=>by
  rw [List.cons_append] at R
  cases R with
  | cons h1 h2 h3 h4 h5 R =>
   obtain ⟨m1,f1,f2,a,b⟩:=RunC.part R
   exact ⟨m1,_,f2,.cons h1 h2 h3 h4 h5 a,b⟩
theorem RunC.snoc {h:Int} {y:List z28} {m m' m2 sp:List Coin} {K:List Tx} {f:Int} {t:Tx} (R:RunC h y m K m' f) (h1:zj t=0) (h2:t.ins.length≠0) (h3:(z0k t).length≤4000) (h4:0≤idx y (z0k t)) (h5:zl m' t (idx y (z0k t)+1) h=(m2,sp,0)):RunC h y m (K++[t]) m2 (f+z0s t sp):=by
 induction R with
 | nil m =>
  have:=RunC.cons h1 h2 h3 h4 h5 (.nil _)
  rw [show z0s t sp+0=0+z0s t sp by omega] at this
  exact this
 | cons g1 g2 g3 g4 g5 _ ih =>
  have:=RunC.cons g1 g2 g3 g4 g5 (ih h5)
  rw [← Int.add_assoc] at this
  exact this
theorem z00a {x:List z28} {s:z28} (hx:z2k x) (h:z0o ⟨x⟩ s=0):s.length≤4000∧z2k (z10 ⟨x⟩ s)∧x <+: z10 ⟨x⟩ s∧0≤idx (z10 ⟨x⟩ s) s∧z06 ⟨x⟩ s=idx (z10 ⟨x⟩ s) s+1:=by
 have hc:=(z50 x).2 hx
 unfold z0o at h
 rw [if_neg (fun k=>k hc)] at h
 by_cases hl:4000<s.length
 ·rw [if_pos hl] at h;exact absurd h (by decide)
 rw [if_neg hl] at h
 have e1:z10 ⟨x⟩ s=z24 x s:=by
  unfold z10
  rw [if_neg (fun k=>k hc),if_neg hl]
 have e2:z06 ⟨x⟩ s=z1t x s:=by
  unfold z06
  rw [if_neg (fun k=>k hc),if_neg hl]
 rw [e1,e2]
 obtain ⟨a,b,c,d⟩:=z02d hx (by omega) h
 exact ⟨by omega,a,b,c,d⟩
theorem zsb {x:List z28} {s:z28} (hx:z2k x) (hl:s.length≤4000) (h:0≤idx x s):z0o ⟨x⟩ s=0∧z10 ⟨x⟩ s=x∧z06 ⟨x⟩ s=idx x s+1:=by
 have hc:=(z50 x).2 hx
 obtain ⟨a,b,c⟩:=zuu h
 refine ⟨?_,?_,?_⟩
 ·unfold z0o;rw [if_neg (fun k=>k hc),if_neg (by omega)];exact a
 ·unfold z10;rw [if_neg (fun k=>k hc),if_neg (by omega)];exact b
 ·unfold z06;rw [if_neg (fun k=>k hc),if_neg (by omega)];exact c
theorem ztb {x x1:List z28} {m m1:List Coin} {t:Tx} {h f1:Int} (hx:z2k x) (h0:z01 x m t h=(x1,m1,f1,0)):z2k x1∧x <+: x1∧zj t=0∧t.ins.length≠0∧(z0k t).length≤4000∧0≤idx x1 (z0k t)∧∃ sp,zl m t (idx x1 (z0k t)+1) h=(m1,sp,0)∧f1=z0s t sp:=by
 obtain ⟨a,b,c,d,e⟩:=zg3 (x:=x) (l:=m) (t:=t) (h:=h) (by rw [h0])
 rw [h0] at e
 simp only [Prod.mk.injEq,and_true] at e
 obtain ⟨e1,e2,e3⟩:=e
 obtain ⟨p,q,r,s,u⟩:=z00a hx c
 rw [← e1] at q r s u
 rw [u] at d e2 e3
 refine ⟨q,r,a,b,p,s,_,?_,e3⟩
 rw [e2,← d]
theorem zxy {y:List z28} {m m1 sp:List Coin} {t:Tx} {h:Int} (hy:z2k y) (h1:zj t=0) (h2:t.ins.length≠0) (h3:(z0k t).length≤4000) (h4:0≤idx y (z0k t)) (h5:zl m t (idx y (z0k t)+1) h=(m1,sp,0)):z01 y m t h=(y,m1,z0s t sp,0):=by
 obtain ⟨a,b,c⟩:=zsb hy h3 h4
 unfold z01
 rw [zfw h1,if_neg (fun k=>k rfl),if_neg (by omega),if_neg (fun k=>k a),c,h5,if_neg (fun k=>k rfl),b]
theorem zc9 {h:Int} {x':List z28} {s':List Tx} {m':List Coin} {f':Int} {w0:List Coin}:∀ (r:List Tx) (a:Sw),z2k a.x→RunC h a.x w0 a.s a.m a.f→z1i h a r=(x',s',m',f',0)→z2k x'∧a.x <+: x'∧RunC h x' w0 s' m' f'∧s'.length≤a.s.length+r.length
 | [],a,hx,R,h0=>by
  rw [z1i] at h0
  simp only [Prod.mk.injEq,and_true] at h0
  obtain ⟨rfl,rfl,rfl,rfl⟩:=h0
  exact ⟨hx,List.prefix_refl _,R,by simp⟩
 | t::r,a,hx,R,h0=>by
  rw [z1i] at h0
  by_cases he:(z01 a.x a.m t h).2.2.2=0
  ·rw [if_neg (fun k=>k he)] at h0
   have hp:z01 a.x a.m t h=((z01 a.x a.m t h).1,(z01 a.x a.m t h).2.1,(z01 a.x a.m t h).2.2.1,0):=by rw [← he]
   obtain ⟨p1,p2,p3,p4,p5,p6,sp,p7,p8⟩:=ztb hx hp
   have R2:=(R.more p2).snoc p3 p4 p5 p6 p7
   rw [← p8] at R2
   obtain ⟨q1,q2,q3,q4⟩:=zc9 r ⟨_,a.s++[t],_,_⟩ p1 R2 h0
   refine ⟨q1,p2.trans q2,q3,?_⟩
   simp only [List.length_append,List.length_cons,List.length_nil] at q4 ⊢
   omega
  ·rw [if_pos he] at h0
   obtain ⟨q1,q2,q3,q4⟩:=zc9 r a hx R h0
   exact ⟨q1,q2,q3,by simp only [List.length_cons];omega⟩
theorem zq5 {h:Int} {y:List z28} (hy:z2k y) {m m':List Coin} {K:List Tx} {f:Int} (R:RunC h y m K m' f):∀ (s:List Tx) (g:Int),z1i h ⟨y,s,m,g⟩ K=(y,s++K,m',g+f,0):=by
 induction R with
 | nil m=>intro s g;rw [z1i];simp
 | cons h1 h2 h3 h4 h5 _ ih =>
  intro s g
  rw [z1i]
  simp only
  rw [zxy hy h1 h2 h3 h4 h5,if_neg (fun k=>k rfl),ih]
  simp [Int.add_assoc]
theorem zsc {k:Book} {l:List Coin} {p:List Tx} {h:Int} {x:List z28} {s:List Tx} {m:List Coin} {f:Int} (h0:zk k l p h=(x,s,m,f,0)):z2k x∧CoinsOK l∧1≤h∧h≤1000∧s.length≤8∧RunC h x l s m f:=by
 unfold zk at h0
 by_cases h1:zo k=0
 rotate_left
 ·rw [if_pos h1] at h0;exact absurd (congrArg (fun x=>x.2.2.2.2) h0) h1
 rw [if_neg (fun k=>k h1)] at h0
 by_cases h2:zh l=0
 rotate_left
 ·rw [if_pos h2] at h0;exact absurd (congrArg (fun x=>x.2.2.2.2) h0) h2
 rw [if_neg (fun k=>k h2)] at h0
 by_cases h3:h<1
 ·rw [if_pos h3] at h0;exact absurd (congrArg (fun x=>x.2.2.2.2) h0) (by show ¬ (3:Int)=0;decide)
 rw [if_neg h3] at h0
 by_cases h4:h > 1000
 ·rw [if_pos h4] at h0;exact absurd (congrArg (fun x=>x.2.2.2.2) h0) (by show ¬ (3:Int)=0;decide)
 rw [if_neg h4] at h0
 by_cases h5:(p.length:Int) > 8
 ·rw [if_pos h5] at h0;exact absurd (congrArg (fun x=>x.2.2.2.2) h0) (by show ¬ (2:Int)=0;decide)
 rw [if_neg h5] at h0
 obtain ⟨q1,q2,q3,q4⟩:=zc9 (w0:=l) p ⟨k.texts,[],l,0⟩ ((z50 _).1 h1) (.nil _) h0
 simp only [List.length_nil] at q4
 exact ⟨q1,(z0v l).1 h2,by omega,by omega,by omega,q3⟩
theorem zsd {x:List z28} {l:List Coin} {s:List Tx} {m:List Coin} {f h:Int} (hx:z2k x) (hl:CoinsOK l) (h1:1≤h) (h2:h≤1000) (h3:s.length≤8) (R:RunC h x l s m f):zk ⟨x⟩ l s h=(x,s,m,f,0):=by
 unfold zk
 rw [if_neg (fun k=>k ((z50 x).2 hx)),if_neg (fun k=>k ((z0v l).2 hl)),if_neg (by omega),if_neg (by omega),if_neg (by omega),zq5 hx R]
 simp
theorem zv6 {k:Book} {l:List Coin} {p:List Tx} {t:Tx} {h:Int} {x:List z28} {more:List Tx} (h0:z0a k l p t h=(x,more,0)) :
  ∃ (x0:List z28) (stay:List Tx) (m m1:List Coin) (f f1:Int),zk k l p h=(x0,stay,m,f,0)∧more=stay++[t]∧more.length≤8∧zk ⟨x⟩ l more h=(x,more,m1,f1,0)∧z0a ⟨x⟩ l more t h=([],[],6):=by
 unfold z0a at h0
 generalize hq:zk k l p h=q at *
 obtain ⟨x0,stay,m,f,e⟩:=q
 simp only at h0
 by_cases he:e=0
 rotate_left
 ·rw [if_pos he] at h0;exact absurd (congrArg (fun x=>x.2.2) h0) he
 subst he
 rw [if_neg (fun k=>k rfl)] at h0
 by_cases hm:t ∈ stay
 ·rw [if_pos hm] at h0;exact absurd (congrArg (fun x=>x.2.2) h0) (by show ¬ (6:Int)=0;decide)
 rw [if_neg hm] at h0
 unfold z93 at h0
 by_cases hp:(z01 x0 m t h).2.2.2=0
 rotate_left
 ·rw [if_pos hp] at h0;exact absurd (congrArg (fun x=>x.2.2) h0) hp
 rw [if_neg (fun k=>k hp)] at h0
 by_cases h8:(stay.length:Int)=8
 ·rw [if_pos h8] at h0;exact absurd (congrArg (fun x=>x.2.2) h0) (by show ¬ (12:Int)=0;decide)
 rw [if_neg h8] at h0
 simp only [Prod.mk.injEq,and_true] at h0
 obtain ⟨h01,rfl⟩:=h0
 obtain ⟨q1,q2,q3,q4,q5,R⟩:=zsc hq
 have hpp:z01 x0 m t h=(x,(z01 x0 m t h).2.1,(z01 x0 m t h).2.2.1,0):=by rw [← hp,← h01]
 obtain ⟨p1,p2,p3,p4,p5,p6,sp,p7,p8⟩:=ztb q1 hpp
 have R2:=(R.more p2).snoc p3 p4 p5 p6 p7
 have hl:(stay++[t]).length≤8:=by simp;omega
 have hs:=zsd p1 q2 q3 q4 hl R2
 refine ⟨x0,stay,m,_,f,_,rfl,rfl,hl,hs,?_⟩
 unfold z0a
 rw [hs,if_neg (fun k=>k rfl),if_pos (by simp)]
end
section
open Go.RowKit
open Go.Lib (itoa)
set_option maxRecDepth 100000
set_option maxHeartbeats 8000000
attribute [local irreducible] z05 spD zk z0a
attribute [local irreducible] den denX z0h z0z
noncomputable def zg6:z6:=spD (fun _:Book × List Coin × List Tx × Tx × Int=>True) fun _=>true
def zee:T :=
 .lets [.call 58 [.v 7,.v 1,.v 8,.v 3,.v 4,.v 5,.v 6] 0,.call 58 [.v 7,.v 1,.v 8,.v 3,.v 4,.v 5,.v 6] 1,.call 58 [.v 7,.v 1,.v 8,.v 3,.v 4,.v 5,.v 6] 2] [] (.lets
 [.bin .eql (.v 46) (.c (.i .i64 6))] [] (.ret [.v 47]))
def zef:T :=
 .lets [.bin .neq (.v 39) (.v 40)] [] (.ite (.v 41) (.ret [.c (.b false)]) (.lets [.call 50 [.v 7,.v 33] 0] [] (.lets [.not (.v 42)] [] (.ite (.v 43) (.ret [.c (.b false)])
 zee))))
def zeg:T :=
 .lets [.call 57 [.v 7,.v 1,.v 8,.v 6] 0,.call 57 [.v 7,.v 1,.v 8,.v 6] 1,.call 57 [.v 7,.v 1,.v 8,.v 6] 2,.call 57 [.v 7,.v 1,.v 8,.v 6] 3,.call 57 [.v 7,.v 1,.v
 8,.v 6] 4] [] (.lets [.bin .neq (.v 37) (.c (.i .i64 0))] [] (.ite (.v 38) (.ret [.c (.b false)]) (.lets [.len (.v 34)] [] (.lets [.len (.v 8)] [] zef))))
def zeh:T :=
 .lets [.idx (.v 8) (.v 27) 0,.idx (.v 8) (.v 27) 1,.idx (.v 8) (.v 27) 2] [] (.lets [.call 41 [.v 28,.v 29,.v 30,.v 3,.v 4,.v 5] 0] [] (.lets [.not (.v 31)] [] (.ite (.v 32)
 (.ret [.c (.b false)]) zeg)))
def zei:T :=
 .lets [.call 48 [.v 24,.v 14] 0] [] (.lets [.not (.v 25)] [] (.ite (.v 26) (.ret [.c (.b false)]) (.lets [.len (.v 14)] [] (.lets [] [.inr 3 (.v 8) (.v 27)] zeh))))
def zej:T :=
 .lets [.bin .neq (.v 19) (.v 21)] [] (.ite (.v 22) (.ret [.c (.b false)]) (.lets [.len (.v 14)] [] (.lets [.sub 3 (.v 8) none (some (.v 23))] [] zei)))
def zek:T :=
 .lets [.bin .neq (.v 17) (.c (.i .i64 0))] [] (.ite (.v 18) (.ret [.c (.b false)]) (.lets [.len (.v 8)] [] (.lets [.len (.v 14)] [] (.lets [.bin .add (.v 20) (.c (.i .i64 1))] []
 zej))))
def zel:T :=
 .lets [.call 57 [.v 0,.v 1,.v 2,.v 6] 0,.call 57 [.v 0,.v 1,.v 2,.v 6] 1,.call 57 [.v 0,.v 1,.v 2,.v 6] 2,.call 57 [.v 0,.v 1,.v 2,.v 6] 3,.call 57 [.v 0,.v 1,.v
 2,.v 6] 4] [] zek
def zem:T :=
 .ite (.v 11) (.lets [.call 60 [] 0] [] (.ret [.v 12])) (.lets [.bin .neq (.v 9) (.c (.i .i64 0))] [] (.ite (.v 12) (.lets [.call 60 [] 0] [] (.ret [.v 13])) zel))
def z6b:T :=
 .lets [.call 58 [.v 0,.v 1,.v 2,.v 3,.v 4,.v 5,.v 6] 0,.call 58 [.v 0,.v 1,.v 2,.v 3,.v 4,.v 5,.v 6] 1,.call 58 [.v 0,.v 1,.v 2,.v 3,.v 4,.v 5,.v 6] 2] [] (.lets
 [.call 60 [] 0] [] (.lets [.not (.v 10)] [] zem))
attribute [local irreducible] za2 z6w z5x z1c z13 z1h
theorem zhh:Meets Tryd.prog zg6 4 ⟨[.agg 1,.one,.one,.agg 3,.one],[(false,[.scal])],true⟩:=by
 refine zu (sp:=(z0l [(41,z1h),(48,za2),(50,z6w),(57,z13),(58,z1c),(60,z5x)])) (sigs:=z0y) (cut:=[]) (hints:=[]) (fn:=Tryd.f4) (t:=z6b) (by kernel_rfl) (by kernel_rfl) (by kernel_rfl) ?_ ?_
 ·exact (z0c (L:=[(41,z1h),(48,za2),(50,z6w),(57,z13),(58,z1c),(60,z5x)]) ⟨zb rfl ze6,zb rfl z04h,zb rfl z009,zb rfl z9f,zb rfl zc7,zb rfl zxx,trivial⟩)
 ·rintro ds rs - h
  obtain ⟨⟨k,l,p,t,hh⟩,-,rfl,rfl⟩:=zt h
  clear h
  refine ⟨⟨1,?_⟩,z09 rfl⟩
  show den _ _ z6b [.l 1 (k.texts.map z0e),.l 6 (l.map zg),.l 3 (p.map eTx),I t.height,.l 3 (t.ins.map eIn),.l 2 (t.outs.map z16),I hh] []=ret true
  have a1:z1c [.l 1 (k.texts.map z0e),.l 6 (l.map zg),.l 3 (p.map eTx),I t.height,.l 3 (t.ins.map eIn),.l 2 (t.outs.map z16),I hh]=some [.l 1 ((z0a k l p t hh).1.map z0e),.l 3 ((z0a k l p t hh).2.1.map eTx),I (z0a k l p t hh).2.2]:=z3i k.texts l p t hh
  have a0:=zk8
  unfold z6b
  generalize hq:z0a k l p t hh=q at *
  obtain ⟨x,more,e⟩:=q
  simp only at *
  by_cases he:e=0
  ·subst he
   obtain ⟨x0,stay,m,m1,f,f1,b1,b2,b3,b4,b5⟩:=zv6 hq
   have a2:z13 [.l 1 (k.texts.map z0e),.l 6 (l.map zg),.l 3 (p.map eTx),I hh]=some [.l 1 ((zk k l p hh).1.map z0e),.l 3 ((zk k l p hh).2.1.map eTx),.l 6 ((zk k l p hh).2.2.1.map zg),I (zk k l p hh).2.2.2.1,I (zk k l p hh).2.2.2.2]:=z2w k.texts l p hh
   rw [b1] at a2
   have a3:=z2w x l more hh
   rw [b4] at a3
   have a4:=z3i x l more t hh
   rw [b5] at a4
   have a5:=zv0 stay stay
   have a6:=zb2 t t
   have a7:=zq4 x x
   rw [decide_eq_true rfl] at a5 a6 a7
   simp only at *
   clear hq b1 b4 b5
   subst b2
   have hl:((stay++[t]).length:Int)=stay.length+1:=by simp
   have htk:(stay++[t]).take ((stay.length:Int)).toNat=stay:=by rw [Int.toNat_natCast];simp
   have hat:(stay++[t])[((stay.length:Int)).toNat]? = some t:=by rw [Int.toNat_natCast];simp
   have h8:stay.length≤7:=by simp at b3;omega
   repeat' (first|refine dq1 ?_|refine dqc ?_|refine dqm ?_|refine dqK rfl (a0) ?_|refine dqK rfl (a1) ?_|refine dqK rfl (a2) ?_|refine dqK rfl (a3) ?_|refine dqK rfl (a4) ?_|refine dqK rfl (a5) ?_|refine dqK rfl (a6) ?_|refine dqK rfl (a7) ?_|refine z5 (zsz rfl rfl (by omega) (by omega) htk) ?_|exact z4 rfl rfl|((first|refine tR ?_ ?_|refine tB ?_ ?_|refine tC ?_ ?_|refine tN ?_ ?_|refine tF ?_ ?_|refine tG ?_ ?_|refine tP ?_ ?_|refine tQ ?_ ?_|refine tA ?_ ?_|refine tO ?_ ?_|refine tU ?_ ?_|refine tV ?_ ?_) <;> intro h)|refine dqT ?_|refine dqF ?_|refine z6h rfl ?_|refine z6i rfl ?_|refine zlo ?_|refine zlp ?_)
  ·repeat' (first|refine dq1 ?_|refine dqc ?_|refine dqm ?_|refine dqK rfl (a0) ?_|refine dqK rfl (a1) ?_|exact z4 rfl rfl|((first|refine tR ?_ ?_|refine tB ?_ ?_|refine tC ?_ ?_|refine tN ?_ ?_|refine tF ?_ ?_|refine tG ?_ ?_|refine tP ?_ ?_|refine tQ ?_ ?_|refine tA ?_ ?_|refine tO ?_ ?_|refine tU ?_ ?_|refine tV ?_ ?_) <;> intro h)|refine dqT ?_|refine dqF ?_|refine z6h rfl ?_|refine z6i rfl ?_|refine zlo ?_|refine zlp ?_)
theorem poolAccepts_walk (k:Book) (c_k:List Value) (l:List (Coin)) (A_l:Option Addr) (n_l c_l:Nat) (p:List (Tx)) (A_p:Option Addr) (n_p c_p:Nat) (t:Tx) (c_t:List Value) (hh:Int) (w:World) (h_k:shBook.rep w (Lt w.heap.size) k c_k) (h_l:Rds shCoin w (Lt w.heap.size) l A_l n_l c_l) (h_p:Rds shTx w (Lt w.heap.size) p A_p n_p c_p) (h_t:shTx.rep w (Lt w.heap.size) t c_t) (hh_0 : -9223372036854775808≤hh) (hh_1:hh≤9223372036854775807) (hG:Glob w) :
  Calls Tryd.prog 4 #[.agg c_k.toArray,.slice A_l n_l c_l,.slice A_p n_p c_p,.agg c_t.toArray,.int .i64 hh] w fun e w'=>e = .returned (.bool true)∧Below w.heap.size w w' :=
 zqe (F:=Lt w.heap.size) (us:=[.agg c_k.toArray,.slice A_l n_l c_l,.slice A_p n_p c_p,.agg c_t.toArray,.int .i64 hh]) rfl (z2l (fn:=Tryd.f4) (by kernel_rfl) (by kernel_rfl) (by kernel_rfl)) zhh ⟨fun _ h=>h,hG⟩ (zp (f:=fun _=>true) (k,l,p,t,hh) trivial)
  (zf6 (d1:=z7a k) (she_book.to h_k) rfl (z7b (z9m zds h_l) (z7b (z9m she_tx h_p) (zf6 (d1:=eTx t) (she_tx.to h_t) rfl (z7b (.i _ _ (wrap_i64 ⟨hh_0,hh_1⟩)) zf5)))))
end
end Go.Proofs.YtnklncinjahckaaDoor
