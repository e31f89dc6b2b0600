/- Own texts, put together by wip/bundle.py: VL4, VB1, VB2, VB3, VL7, VS4, VB4, VR1, VR6, VU3, VU4, VB5, VU5, VL8, VB7, VC0, VS5, VEr, VC1, VB6, VCT, VU7, VRow, VDel, VIns, VU8, VU9. -/
import Derived.Laws.IdiomCopy
import Derived.Lib.AppendZerosOnto
import Derived.Deep.RegionLaw
import Derived.Lib.Hide
import Derived.Laws.Externs
import Derived.Laws.NewBlocks
import Derived.Test.YtgkfhlnklienoaaGreatDoorBPOwnB
import Derived.Test.YtgkfhlnklienoaaGreatDoorBPOwnC
import Derived.Test.YtgkfhlnklienoaaGreatDoorBPOwnR
import Derived.Test.YtgkfhlnklienoaaGreatDoorBPOwnS
import Derived.Test.YtgkfhlnklienoaaGreatDoorBPOwnV2
import Derived.Test.YtgkfhlnklienoaaGreatDoorBPOwnZ1
set_option linter.unusedVariables false
set_option linter.unusedSimpArgs false
namespace Go.Proofs.YtgkfhlnklienoaaGreatDoor
section
open Go.RowKit
open Go.Lib (itoa)
set_option maxRecDepth 100000
set_option maxHeartbeats 4000000
def z28:z7:=fun ds=>match ds with
 | []=>some (opNames.map Dt.s)
 | _::_=>none
theorem zc2:z28 []=some [.s [],.s [],.s [100,117,112],.s [115,119,97,112],.s [100,114,111,112],.s [97,100,100],.s [115,117,98],.s [115,97,109,101],.s [108,101,115,115],.s [110,111,116],.s [97,110,100],.s [118,101,114,105,102,121],.s [104,101,105,103,104,116],.s [109,105,120]]:=rfl
def z00h:T :=
 .ret [.c (.s []),.c (.s []),.c (.s [100,117,112]),.c (.s [115,119,97,112]),.c (.s [100,114,111,112]),.c (.s [97,100,100]),.c (.s [115,117,98]),.c (.s [115,97,
 109,101]),.c (.s [108,101,115,115]),.c (.s [110,111,116]),.c (.s [97,110,100]),.c (.s [118,101,114,105,102,121]),.c (.s [104,101,105,103,104,116]),.c (.s
 [109,105,120])]
def zpl:T :=
 .lets [.call 37 [.v 8] 0] [] (.lets [.mk 1 [[.v 25]]] [] (.lets [.app 1 (.v 4) (.v 26)] [] (.lets [.bin .add (.v 5) (.c (.i .i64 1))] [] (.again 0 [.v 27,.v 28]))))
def zpm:T :=
 .ite (.v 24) zpl (.lets [.mk 1 [[.v 23]]] [] (.lets [.app 1 (.v 4) (.v 25)] [] (.lets [.bin .add (.v 5) (.c (.i .i64 1))] [] (.again 0 [.v 26,.v 27]))))
def zpn:T :=
 .lets [.sel [.v 9,.v 10,.v 11,.v 12,.v 13,.v 14,.v 15,.v 16,.v 17,.v 18,.v 19,.v 20,.v 21,.v 22] (.v 7)] [] (.lets [.bin .eql (.v 7) (.c (.i .i64 1))] [] zpm)
def zpo:T :=
 .lets [.call 39 [] 0,.call 39 [] 1,.call 39 [] 2,.call 39 [] 3,.call 39 [] 4,.call 39 [] 5,.call 39 [] 6,.call 39 [] 7,.call 39 [] 8,.call 39 [] 9,.call 39 [] 10,.call 39
 [] 11,.call 39 [] 12,.call 39 [] 13] [] zpn
def zpp:T :=
 .ite (.v 6) (.lets [] [.inr 2 (.v 0) (.v 5)] (.lets [.idx (.v 0) (.v 5) 0,.idx (.v 0) (.v 5) 1] [] zpo)) (.lets [.call 38 [.v 4,.c (.s [32])] 0] [] (.ret [.v 7,.c (.i
 .i64 0)]))
def zpq:T :=
 .lets [.bin .neq (.v 1) (.c (.i .i64 0))] [] (.ite (.v 2) (.ret [.c (.s []),.v 1]) (.lets [.len (.v 0)] [] (.loop [.c (.nil 1),.c (.i .i64 0)] (.lets [.bin .lss (.v 5) (.v 3)] []
 zpp))))
def zcd:T :=
 .lets [.call 7 [.v 0] 0] [] zpq
theorem zh6:Meets Tryz.prog z28 187 ⟨[],[(true,[.scal,.scal,.scal,.scal,.scal,.scal,.scal,.scal,.scal,.scal,.scal,.scal,.scal,.scal])],true⟩:=by
 refine zn (sp:=(z0g [])) (sigs:=z0k) (cut:=[]) (hints:=[]) (fn:=Tryz.f187) (t:=z00h) (by kernel_rfl) (by kernel_rfl) (by kernel_rfl) ?_ ?_
 ·exact (z04 (L:=[]) trivial)
 ·rintro ds rs - h
  cases ds with
  | cons d ds=>cases h
  | nil =>
   cases h
   refine ⟨⟨1,rfl⟩,fun i d hi hd=>?_⟩
   rw [List.getElem?_map] at hd
   obtain ⟨x,_,rfl⟩:=Option.map_eq_some_iff.1 hd
   rfl
noncomputable def zfr:z7:=spD (fun _:List Op=>True) fun l=>z2j l
theorem zke (l:List Op):zfr [.l 2 (l.map eOp)]=some [.s (z2j l).1,I (z2j l).2]:=zd (f:=fun l:List Op=>z2j l) l trivial
theorem z0gy {k:Int} (h0:1≤k) (h1:k≤13):(opNames.map Dt.s)[k.toNat]? = some (.s ((opNames[k.toNat]?).getD [])):=by
 rcases z049 h0 h1 with rfl|rfl|rfl|rfl|rfl|rfl|rfl|rfl|rfl|rfl|rfl|rfl|rfl <;> rfl
attribute [local irreducible] z08 spD z1n itoa z8 z38 z1p z28
theorem z00i:Meets Tryz.prog zfr 115 ⟨[.one],[(false,[.scal]),(false,[.scal])],true⟩:=by
 refine zn (sp:=(z0g [(7,z0z),(37,z1e),(38,zab),(39,z28)])) (sigs:=z0k) (cut:=[]) (hints:=[⟨6,[.r 5 9 1,.t 16]⟩]) (fn:=Tryz.f115) (t:=zcd) (by kernel_rfl) (by kernel_rfl) (by kernel_rfl) ?_ ?_
 ·exact (z04 (L:=[(7,z0z),(37,z1e),(38,zab),(39,z28)]) ⟨z6 rfl z6s,z6 rfl zb7,z6 rfl z07i,z6 rfl zh6,trivial⟩)
 ·rintro ds rs - h
  obtain ⟨l,-,rfl,rfl⟩:=zl h
  clear h
  refine ⟨⟨l.length+1,?_⟩,z8v rfl rfl⟩
  show den _ _ zcd [.l 2 (l.map eOp)] []=ret (z2j l)
  unfold zcd z2j
  repeat' (first|refine dq1 ?_|refine dqk rfl (z47 _) ?_|exact z5 rfl rfl|refine tR (fun h=>?_) fun h=>?_|fail)
  have hc0:z8 l=0:=Decidable.not_not.1 (by assumption)
  obtain ⟨hl16,hall⟩:=zb6 hc0
  (refine zy (fun (s:List (List UInt8)) k=>[.l 1 (s.map z26),I k]) (fun (s:List (List UInt8)) _ (r:List Op)=>(z1p 32 (s++r.map z16),(0:Int))) (fun s k=>s=(l.take k).map z16) [] l ?_ ?_ ?_ ?_ ?_;rfl;exact rfl;omega)
  ·rintro s k o r hx hd hk hs again hag
   have hsl:s.length≤16:=by rw [hs,List.length_map,List.length_take];omega
   have ho:=zi1 (hall o (List.mem_of_getElem? hx))
   obtain ⟨ho1,ho2,-⟩:=ho
   have hn:=z0gy ho1 ho2
   have hnext:s++[z16 o]=(l.take (k+1)).map z16:=by rw [hs,List.take_add_one,hx,List.map_append];rfl
   have hag:=hag (s++[z16 o]) hnext
   rw [← List.append_cons] at hag
   rw [List.map_cons]
   repeat' (first|refine dq1 ?_|refine dqc ?_|refine dqm ?_|refine dqK rfl (zc2) ?_|refine dqT ?_|fail)
   refine z4 (z1k rfl rfl (by omega) hn) ?_
   repeat' (first|refine dq1 ?_|fail)
   refine z44 rfl (fun h=>?_) (fun h=>?_)
   ·have ht:z16 o=itoa o.n:=if_pos h
    rw [ht] at hag ⊢
    repeat' (first|refine dq1 ?_|refine dqk rfl (z2x _) ?_|refine z4 (z1h rfl rfl (by simp)) ?_|fail)
    exact z9 rfl rfl hag
   ·have ht:z16 o=(opNames[o.kind.toNat]?).getD []:=if_neg h
    rw [ht] at hag ⊢
    repeat' (first|refine dq1 ?_|refine z4 (z1h rfl rfl (by simp)) ?_|fail)
    exact z9 rfl rfl hag
  ·rintro s hs again
   rw [List.take_length] at hs
   subst hs
   have hln:=z9a hc0
   have hj:=zjw 32 (l.map z16)
   have ht:z1p 32 (l.map z16)=z4o l:=rfl
   simp only [List.map_nil,List.append_nil]
   rw [← hj]
   repeat' (first|refine dq1 ?_|refine dqk rfl (zot (l.map z16) [32] ⟨by rw [List.length_map];omega,by rw [hj,ht];omega⟩) ?_|exact z5 rfl rfl|refine dqF ?_|fail)
end
section
open Go.RowKit Go.Shelf
open Go.Lib (itoa)
set_option maxRecDepth 100000
def FactsW (w:World) (F:Nat→Prop) (Δ:List Res):Prop:=∀ r ∈ Δ,r.block=none∧r.holds w.heap.size F w
theorem FactsW.nil {w:World} {F:Nat→Prop}:FactsW w F []:=fun _ h=>by cases h
theorem FactsW.cons {w:World} {F:Nat→Prop} {Δ:List Res} {r:Res} (h1:r.block=none) (h2:r.holds w.heap.size F w) (h:FactsW w F Δ):FactsW w F (r::Δ):=fun q hq=>by
 rcases List.mem_cons.1 hq with rfl|hq
 ·exact ⟨h1,h2⟩
 ·exact h q hq
theorem z07t {α:Type} {S:Sh α} {xs:List α} {A:Option Addr} {n c:Nat}:(rds xs A n c S).block=none:=by unfold rds zfa;rfl
theorem z07u {α:Type} {S:Sh α} {xs:List α} {A:Option Addr} {n c h0:Nat} {w:World} {F:Nat→Prop} (h:Rds S w F xs A n c):(rds xs A n c S).holds h0 F w:=by unfold rds zfa;exact h
theorem FactsW.rds {w:World} {F:Nat→Prop} {Δ:List Res} {α:Type} {S:Sh α} {xs:List α} {A:Option Addr} {n c:Nat} (h:Rds S w F xs A n c) (hΔ:FactsW w F Δ):FactsW w F (rds xs A n c S::Δ):=.cons z07t (z07u h) hΔ
def sb (gb:Nat) (l:List UInt8):Res:={
 block:=some gb
 holds h0 F W:=h0≤gb∧∃ v p,W.heap[gb]? = some (.cells #[p,v] 113 (0,0))∧W.ownsRow gb 5 1 v l.length (Lib.byteCells l)∧v.ownBlock≠some gb∧(∀ g,v.ownBlock=some g→F g)∧(p = .pointer none∨p = .pointer (some ⟨gb,0,none⟩))
 keep:=fun ha hF hb ⟨h0,v,p,h1,h2,h3,h4,h5⟩=>⟨h0,v,p,(hb _ rfl).trans h1,zfb h2 (fun g hg=>ha g (h4 g hg)),h3,fun g hg=>hF g (h4 g hg),h5⟩
 lt:=fun ⟨h0,v,p,h1,_⟩ e=>by injection e with e;subst e;exact ⟨h0,(Array.getElem?_eq_some_iff.1 h1).1⟩ }
section
variable {w0 W:World} {F0:Nat→Prop} {Γ Δ:List Res} {gb:Nat} {l:List UInt8}
theorem FactsW.sep {r:Res} (hΔ:FactsW w0 F0 Δ) (hb:Below w0.heap.size w0 W) (hF:∀ b,F0 b→b<w0.heap.size) (hr:r.holds w0.heap.size (Free w0.heap.size F0 (r::Δ) W) W) (hg:∀ g,r.block=some g→w0.heap.size≤g):Sep w0 F0 (r::Δ) W:=by
 refine ⟨hb,hF,?_,?_⟩
 ·intro q hq
  rcases List.mem_cons.1 hq with rfl|hq
  ·exact hr
  ·refine q.keep (fun b hb'=>hb.block b (hF b hb')) (fun b hb'=>⟨.inl hb',fun p hp e=>?_⟩) (fun g hg'=>by rw [(hΔ q hq).1] at hg';cases hg') (hΔ q hq).2
   rcases List.mem_cons.1 hp with rfl|hp
   ·have:=hg b e;have:=hF b hb';omega
   ·rw [(hΔ p hp).1] at e;cases e
 ·refine List.pairwise_cons.2 ⟨fun q hq g _ h2=>(by rw [(hΔ q hq).1] at h2;cases h2),?_⟩
  exact List.pairwise_of_forall_mem_list fun q hq p hp g h1 _=>by rw [(hΔ q hq).1] at h1;cases h1
theorem Sep.sbStart {w:World} {F:Nat→Prop} (hF:∀ b,F b→b<w.heap.size) (hΔ:FactsW w F Δ):Sep w F (sb w.heap.size []::Δ) (w.alloc (.cells #[.pointer none,.slice none 0 0] 113)) :=
 hΔ.sep ((Below.refl _ _).alloc (Nat.le_refl _) _) hF ⟨Nat.le_refl _,.slice none 0 0,.pointer none,heap_alloc_new w _,World.ownsRow_nil _ _ _ _,by simp [Value.ownBlock],fun g hg=>by simp [Value.ownBlock] at hg,.inl rfl⟩ (fun g hg=>by injection hg with hg;omega)
theorem Sep.sbIs (hS:Sep w0 F0 Γ W) (hm:At Γ (sb gb l)):Lib.IsBuilder 113 5 gb gb (Lib.byteCells l) W:=by
 obtain ⟨h0,v,p,h1,h2,h3,-,h5⟩:=hS.get hm
 have e:(Lib.byteCells l).length=l.length:=Lib.byteCells_length l
 rcases h5 with rfl|rfl
 ·exact .inl ⟨Nat.le_refl _,v,h1,by rw [e];exact h2,h3⟩
 ·exact .inr ⟨Nat.le_refl _,v,h1,by rw [e];exact h2,h3⟩
theorem Sep.write (hS:Sep w0 F0 Γ W) (hm:At Γ (sb w0.heap.size l)) (hΔ:FactsW w0 F0 Δ) (s:ByteArray) (hl:l.length+s.size≤1000000) :
  Calls Tryz.prog 48 #[.pointer (some ⟨w0.heap.size,0,none⟩),.string s] W fun e W'=>(∃ v,e = .returned v)∧Sep w0 F0 (sb w0.heap.size (l++s.data.toList)::Δ) W':=by
 have hB:=hS.sbIs hm
 have e:(Lib.byteCells l).length=l.length:=Lib.byteCells_length l
 refine (Any.Builder_WriteString { Tryz.lays156 with } Tryz.Builder_Extra_156 w0.heap.size w0.heap.size (Lib.byteCells l) s W hB (by rw [e];omega) hS.size).mono ?_
 rintro e w' ⟨rfl,⟨-,v,h1,h2,h3⟩,h4⟩
 refine ⟨⟨_,rfl⟩,?_⟩
 have hb:Below w0.heap.size w0 w':=hS.below.trans h4
 rw [Lib.strCells_eq,← Lib.byteCells_append] at h2
 rw [Lib.byteCells_length] at h2
 refine hΔ.sep hb hS.low ⟨Nat.le_refl _,v,_,h1,h2,h3,fun g hg=>⟨.inr ?_,?_⟩,.inr rfl⟩ (fun g hg=>by injection hg with hg;omega)
 ·exact h2.lt g hg
 ·intro q hq e
  rcases List.mem_cons.1 hq with rfl|hq
  ·exact h3 (hg.trans e.symm)
  ·rw [(hΔ q hq).1] at e;cases e
theorem Sep.text (hS:Sep w0 F0 Γ W) (hm:At Γ (sb w0.heap.size l)) :
  Calls Tryz.prog 51 #[.pointer (some ⟨w0.heap.size,0,none⟩)] W fun e W'=>e = .returned (.string ⟨l.toArray⟩)∧Below w0.heap.size w0 W' :=
 (Any.Builder_String_any Tryz.lays169 Tryz.Builder_Extra_169 w0.heap.size w0.heap.size l W (hS.sbIs hm) hS.size).mono fun e w' ⟨h1,h2⟩=>⟨h1,hS.below.trans h2⟩
section
variable {P:Program} {ops:Array Oper} {Q:Exit→Act→World→Prop} {a:Act} {rest:List Oper} {o:Oper}
theorem wsb (hgd:Region.wanted o (yielded ops a.tmps)=true) (ho:o.op = .alloc 113) (hz:z2v P 113 [.pointer none,.slice none 0 0]) (hΔ:FactsW W (Lt W.heap.size) Δ)
  (k:∀ W',Sep W (Lt W.heap.size) (sb W.heap.size []::Δ) W'→wpList P ops Q rest (a.put o.dst (.pointer (some ⟨W.heap.size,0,none⟩))) W'):wpList P ops Q (o::rest) a W :=
 BigFrame.wpList_want hgd fun K hK=>by
  obtain ⟨z,hz1,hz2⟩:=hz
  unfold Oper.wp execOp
  simp only [ho,Instr.alloc,newVar,newRow,Sem.run_bind,run_newObj_alloc,Result.andThen_ok,Sem.run_pure,hz2,hz1]
  exact hK _ _ (k _ (Sep.sbStart (fun _ h=>h) hΔ))
end
end
attribute [irreducible] sb
theorem Yl.cat {P:Program} {w0:World} {F0:Nat→Prop} {Γ:List Res} {o:Oper} {a:Act} {t t':TypeId} {x y:Operand} {s r:List UInt8} (ho:o.op = .binOp .add t x y t') (hx:a.eval x = .string ⟨s.toArray⟩) (hy:a.eval y = .string ⟨r.toArray⟩) (hl:s.length+r.length≤1000000):Yl P w0 F0 Γ o a (.string ⟨(s++r).toArray⟩) :=
 Yl.pure fun W=>by
  have e3:(⟨s.toArray⟩++⟨r.toArray⟩:ByteArray)=⟨(s++r).toArray⟩:=by
   apply ByteArray.ext
   simp
  have hn:¬ ((((⟨s.toArray⟩:ByteArray).size+(⟨r.toArray⟩:ByteArray).size:Nat):Int) > IntKind.i64.max):=by
   simp only [ByteArray.size,List.size_toArray,IntKind.max,IntKind.bits,IntKind.signed]
   omega
  unfold execOp
  simp only [ho,hx,hy,binOp,Op.stringOp,if_neg hn,e3]
  rfl
theorem z_sb:z2v Tryz.prog 113 [.pointer none,.slice none 0 0]:=⟨.agg #[.pointer none,.slice none 0 0],rfl,Tryz.zeroValue113⟩
section
variable {P:Program} {W:World} {F:Nat→Prop}
theorem zvj {spec:z7} {f:Nat} {pk:List PK} {d1 d2:Dt} (hpk:z3r pk=false) (hen:En P f) (hM:Meets P spec f ⟨pk,[(false,[.scal]),(false,[.scal])],true⟩) {ds:List Dt} {us:List Value} (hF:z9q F W) (hs:spec ds=some [d1,d2]) (hargs:PKRs W F pk ds us) :
  Calls P f us.toArray W fun e w'=>(∃ v1 v2 F',e = .returned (.tuple #[v1,v2])∧Rep w' F' d1 v1∧Rep w' F' d2 v2)∧Below W.heap.size W w':=by
 rcases hM.1 hpk W F ds us _ hF hargs hs with ⟨_,h⟩|⟨v,W',h1,_⟩
 ·refine h.mono fun e w' ⟨v,h1,h2,us,F',hR⟩=>⟨?_,h2⟩
  obtain ⟨vs,rfl,v1,vs1,u1,u2,rfl,rfl,⟨rfl,-⟩,v2,vs2,u3,u4,rfl,rfl,⟨rfl,-⟩,rfl,rfl⟩:=hR.val
  exact ⟨v1,v2,F',h1,(hR.cells 0 .scal d1 v1 rfl rfl rfl).2,(hR.cells 1 .scal d2 v2 rfl rfl rfl).2⟩
 ·rw [hen.run] at h1;cases h1
end
theorem z9m (n:Int) (hn:I64 n) {W:World} (hG:Glob W):Calls Tryz.prog 49 #[.int .i64 n] W fun e w'=>e = .returned (.string ⟨(itoa n).toArray⟩)∧Below W.heap.size W w':=by
 refine (Any.strconv_Itoa Tryz.lays171 n hn.1 hn.2 W hG.1).mono ?_
 rintro e w' ⟨rfl,k,os,rfl⟩
 exact ⟨rfl,Go.Lib.below_grow _ _ (Nat.le_refl _) k os⟩
theorem zh8 (l:List Op) {A:Option Addr} {n c:Nat} {W:World} {F:Nat→Prop} (hF:z9q F W) (h:Rds shOp W F l A n c) :
  Calls Tryz.prog 115 #[.slice A n c] W fun e w'=>e = .returned (.tuple #[.string ⟨(z2j l).1.toArray⟩,.int .i64 (z2j l).2])∧Below W.heap.size W w':=by
 refine (zvj (us:=[.slice A n c]) rfl (z0v (fn:=Tryz.f115) (by kernel_rfl) (by kernel_rfl) (by kernel_rfl)) z00i hF (zke l) (zjj (zgi z7z h) zji)).mono ?_
 rintro e w' ⟨⟨v1,v2,F',rfl,h1,h2⟩,h3⟩
 obtain ⟨rfl,-⟩:=z0u h1
 obtain ⟨rfl,-⟩:=z6i h2
 exact ⟨rfl,h3⟩
end
section
open Go.RowKit Go.Shelf
open Go.Lib (itoa)
set_option maxRecDepth 100000
set_option maxHeartbeats 4000000 in
theorem zoc (t:Tx) (cs:List Value) {w0 W:World} {F0:Nat→Prop} {Γ:List Res} (hS:Sep w0 F0 Γ W) (ht:At Γ (rep t cs shTx)) (hG:Glob w0) :
  Calls Tryz.prog 50 #[.agg cs.toArray] W (RV w0 F0 Γ (.tuple #[.string ⟨(z0p t).1.toArray⟩,.int .i64 (z0p t).2])):=by
 (have hO:=hS.open_tx ht;clear hS;obtain ⟨A,n,c,A2,n2,c2,rfl,i1,hS⟩:=hO)
 obtain ⟨hl1,hn1,hc1⟩:=hS.len (xs:=t.ins) (by repeat (with_reducible exact At.z))
 obtain ⟨hl2,hn2,hc2⟩:=hS.len (xs:=t.outs) (by repeat (first|with_reducible exact At.z|apply At.s))
 have HP:=Lib.hid (show z0p t=if zb t≠0 then ([],zb t) else (z1s t,0) from rfl)
 generalize z0p t=R at *
 have L1:=Lib.hid hl1
 have L2:=Lib.hid hl2
 clear hl1 hl2
 go_enter Tryz.func50,Tryz.ntmps50
 (go_wp2_with ((refine Sep.wbox hS (by rfl) rfl rfl ?_;clear hS;intro gt W hS;refine Stop.go ?_));refine Stop.mk ?_)
 go_wp2_with (((refine Sep.wloadNb hS (by rfl) rfl rfl (by repeat (with_reducible exact At.z)) (z02 rfl) ?_)))
 refine (hS.old (zcb t [_,_,_] _ _ (hS.ltsRep (At.s (At.s (At.s ht)))) (fun b hb=>hb))).mono ?_;clear hS;rintro e W ⟨rfl,hS⟩
 rcases Classical.em (zb t=0) with h0|h0
 ·rw [h0]
  have HR:Hid (R=(z1s t,0)):=Lib.hid (by rw [HP.out,if_neg (fun h=>h h0)])
  have H0:=Lib.hid h0
  have hlen:n≤6∧n2≤6:=by
   have q:=h0
   unfold zb z1l at q
   have:=L1.out
   have:=L2.out
   by_cases h6:6<t.ins.length∨6<t.outs.length
   ·rw [if_pos h6] at q;simp at q
   ·omega
  clear h0 HP
  have b0:=hS.boxCell (g:=gt) At.z 0 _ rfl
  have b1:=hS.boxCell (g:=gt) At.z 1 _ rfl
  have b2:=hS.boxCell (g:=gt) At.z 2 _ rfl
  have gl:gt<W.heap.size:=(Array.getElem?_eq_some_iff.1 (hS.getBox (g:=gt) At.z).2).1
  have hΔ:FactsW W (Lt W.heap.size) [rds t.ins A n c shIn,rds t.outs A2 n2 c2 shOut]:=.rds (hS.ltsRds (by repeat (first|with_reducible exact At.z|apply At.s))) (.rds (hS.ltsRds (by repeat (first|with_reducible exact At.z|apply At.s))) .nil)
  have hG1:Glob W:=hG.on hS.below
  obtain ⟨h,ins,outs⟩:=t
  simp only at *
  rename World=>Wb
  have hSo:=hS
  clear hS
  (go_wp2_with (first|(refine wsb (by rfl) rfl z_sb hΔ ?_;intro W1 hS;refine Stop.go ?_));refine Stop.mk ?_)
  have c0:=(hS.below.cell (p:=⟨gt,0,none⟩) gl).trans b0
  go_wp2_with fail
  refine (hS.old (z9m h i1 (hG1.on hS.below))).mono ?_;clear hS;rintro e W ⟨rfl,hS⟩
  have li:=z4f h i1
  go_wp2_with fail
  refine (hS.write (l:=[]) (by repeat (with_reducible exact At.z)) hΔ _ (by simp [ByteArray.size];omega)).mono ?_
  clear hS
  rintro e W2 ⟨⟨v,rfl⟩,hS⟩
  have c1:=(hS.below.cell (p:=⟨gt,1,none⟩) gl).trans b1
  go_wp2_with fail
  have e0:[]++((⟨#[116,120,32]⟩:ByteArray)++⟨(itoa h).toArray⟩++⟨#[10]⟩).data.toList=z3p ⟨h,ins,outs⟩:=by simp [ByteArray.data_append,z3p]
  rw [e0] at hS
  clear e0
  have lh:(z3p ⟨h,ins,outs⟩).length≤24:=by simp [z3p];omega
  go_loopw [7,8,9,28] (fun _ _ _ i wr=>∃ k:Nat,k≤n∧i = .int .i64 k∧∃ l:List UInt8,l.length≤24+200 * k∧Hid (l=z3p ⟨h,ins,outs⟩++(ins.take k).flatMap z2n)∧Sep Wb (Lt Wb.heap.size) (sb Wb.heap.size l::rds ins A n c shIn::rds outs A2 n2 c2 shOut::[]) wr) (fun _ _ _ i _=>n - (intOf i).toNat)
  case atStart=>exact ⟨0,by omega,rfl,z3p ⟨h,ins,outs⟩,by omega,Lib.hid (by simp),hS.sub (by repeat (with_reducible exact Sub.refl))⟩
  case round =>
   clear hS c1 c0
   obtain ⟨k,hk,rfl,l,hl,HL,hS⟩:=hrel
   rcases Classical.em (k<n) with hlt|hlt
   ·(have hO:=hS.elemIn (xs:=ins) (by repeat (first|with_reducible exact At.z|apply At.s)) hlt;clear hS;obtain ⟨b,off,x,A1,n1,c1,rfl,hx,j1,j2,hS⟩:=hO)
    have HX:=Lib.hid hx
    have k1:(0:Int)≤(k:Int):=by omega
    have k2:(k:Int)<(n:Int):=by omega
    clear hx
    obtain ⟨⟨ptx,pat⟩,key⟩:=x
    simp only at j1 j2 hS
    (go_wp2_with (first|(refine Sep.wloadNz hS (by rfl) rfl rfl (by repeat (first|with_reducible exact At.z|apply At.s)) (z02 rfl) ?_)|(refine Sep.walloc hS (by rfl) rfl (by first|exact z59|exact zce) ?_;clear hS;intro g W hS)|(refine Sep.wstoreNb hS (by rfl) rfl rfl rfl (z02 rfl) (by simp [z4n,Value.oneCell']) (by repeat (first|with_reducible exact At.z|apply At.s)) (by rfl) (by repeat (first|with_reducible exact Put.z|apply Put.s)) ?_;clear hS;intro W hS;refine Stop.go ?_));refine Stop.mk ?_)
    have x2:=hS.boxCell (g:=g) (cs:=[.int .i64 ptx,.int .i64 pat,.slice A1 n1 c1]) (by repeat (with_reducible exact At.z)) 2 _ rfl
    go_wp2_with fail
    refine (hS.old (zh8 key ⟨fun b hb=>hb,hG1.on hS.below⟩ (hS.ltsRds (by repeat (first|with_reducible exact At.z|apply At.s))))).mono ?_;clear hS;rintro e W ⟨rfl,hS⟩
    clear x2
    have lp:=zac key
    have l1:=z4f ptx j1
    have l2:=z4f pat j2
    go_wp2_with fail
    (refine Sep.regionT hS [15] (by kernel_rfl) ?_;clear hS;intro W hS)
    (refine z1m 0 rfl rfl (by ((apply Yl.pure;intro W;go_simp;with_reducible rfl))) (hS.sub (by repeat (with_reducible exact Sub.refl))) (by kernel_rfl) (fun _ _ _ h=>h) ?_;simp only [Act.put,List.setIfInBounds_toArray,List.set_cons_zero,List.set_cons_succ])
    (refine z1m 1 rfl rfl (by ((apply Yl.pure;intro W;go_simp;with_reducible rfl))) (hS.sub (by repeat (with_reducible exact Sub.refl))) (by kernel_rfl) (fun _ _ _ h=>h) ?_;simp only [Act.put,List.setIfInBounds_toArray,List.set_cons_zero,List.set_cons_succ])
    (refine z1m 2 rfl rfl (by (exact Yl.load1b rfl rfl (z29 rfl) (by repeat (with_reducible exact At.z)) rfl)) (hS.sub (by repeat (with_reducible exact Sub.refl))) (by kernel_rfl) (fun _ _ _ h=>h) ?_;simp only [Act.put,List.setIfInBounds_toArray,List.set_cons_zero,List.set_cons_succ])
    (refine z1m 6 rfl rfl (by ((apply Yl.pure;intro W;go_simp;with_reducible rfl))) (hS.sub (by repeat (with_reducible exact Sub.refl))) (by kernel_rfl) (fun _ _ _ h=>h) ?_;simp only [Act.put,List.setIfInBounds_toArray,List.set_cons_zero,List.set_cons_succ])
    (refine z1m 7 rfl rfl (by ((apply Yl.pure;intro W;go_simp;with_reducible rfl))) (hS.sub (by repeat (with_reducible exact Sub.refl))) (by kernel_rfl) (fun _ _ _ h=>h) ?_;simp only [Act.put,List.setIfInBounds_toArray,List.set_cons_zero,List.set_cons_succ])
    (refine z1m 8 rfl rfl (by (exact Yl.load1b rfl rfl (z29 rfl) (by repeat (with_reducible exact At.z)) rfl)) (hS.sub (by repeat (with_reducible exact Sub.refl))) (by kernel_rfl) (fun _ _ _ h=>h) ?_;simp only [Act.put,List.setIfInBounds_toArray,List.set_cons_zero,List.set_cons_succ])
    (refine z1m 12 rfl rfl (by (exact Yl.move rfl)) (hS.sub (by repeat (with_reducible exact Sub.refl))) (by kernel_rfl) (fun _ _ _ h=>h) ?_;simp only [Act.put,List.setIfInBounds_toArray,List.set_cons_zero,List.set_cons_succ])
    refine zfu 3 (by kernel_rfl) rfl ?_
    go_wp2_with fail
    refine (hS.old (z9m ptx j1 (hG1.on hS.below))).mono ?_;clear hS;rintro e W ⟨rfl,hS⟩
    go_wp2_with fail
    (refine ⟨fun _=>hS.sub (by repeat (with_reducible exact Sub.refl)),?_⟩;try simp only [Act.put,List.setIfInBounds_toArray,List.set_cons_zero,List.set_cons_succ])
    (refine z1m 4 rfl rfl (Yl.cat rfl rfl rfl (by simp only [List.length_append,List.length_cons,List.length_nil];omega)) (hS.sub (by repeat (with_reducible exact Sub.refl))) (by kernel_rfl) (fun _ _ _ h=>h) ?_;simp only [Act.put,List.setIfInBounds_toArray,List.set_cons_zero,List.set_cons_succ])
    (refine z1m 5 rfl rfl (Yl.cat rfl rfl rfl (by simp only [List.length_append,List.length_cons,List.length_nil];omega)) (hS.sub (by repeat (with_reducible exact Sub.refl))) (by kernel_rfl) (fun _ _ _ h=>h) ?_;simp only [Act.put,List.setIfInBounds_toArray,List.set_cons_zero,List.set_cons_succ])
    refine zfu 9 (by kernel_rfl) rfl ?_
    go_wp2_with fail
    refine (hS.old (z9m pat j2 (hG1.on hS.below))).mono ?_;clear hS;rintro e W ⟨rfl,hS⟩
    go_wp2_with fail
    (refine ⟨fun _=>hS.sub (by repeat (with_reducible exact Sub.refl)),?_⟩;try simp only [Act.put,List.setIfInBounds_toArray,List.set_cons_zero,List.set_cons_succ])
    (refine z1m 10 rfl rfl (Yl.cat rfl rfl rfl (by simp only [List.length_append,List.length_cons,List.length_nil];omega)) (hS.sub (by repeat (with_reducible exact Sub.refl))) (by kernel_rfl) (fun _ _ _ h=>h) ?_;simp only [Act.put,List.setIfInBounds_toArray,List.set_cons_zero,List.set_cons_succ])
    (refine z1m 11 rfl rfl (Yl.cat rfl rfl rfl (by simp only [List.length_append,List.length_cons,List.length_nil];omega)) (hS.sub (by repeat (with_reducible exact Sub.refl))) (by kernel_rfl) (fun _ _ _ h=>h) ?_;simp only [Act.put,List.setIfInBounds_toArray,List.set_cons_zero,List.set_cons_succ])
    (refine z1m 13 rfl rfl (Yl.cat rfl rfl rfl (by simp only [List.length_append,List.length_cons,List.length_nil];omega)) (hS.sub (by repeat (with_reducible exact Sub.refl))) (by kernel_rfl) (fun _ _ _ h=>h) ?_;simp only [Act.put,List.setIfInBounds_toArray,List.set_cons_zero,List.set_cons_succ])
    (refine z1m 14 rfl rfl (Yl.cat rfl rfl rfl (by simp only [List.length_append,List.length_cons,List.length_nil];omega)) (hS.sub (by repeat (with_reducible exact Sub.refl))) (by kernel_rfl) (fun _ _ _ h=>h) ?_;simp only [Act.put,List.setIfInBounds_toArray,List.set_cons_zero,List.set_cons_succ])
    refine zfu 15 (by kernel_rfl) rfl ?_
    go_wp2_with fail
    refine (hS.write (l:=l) (by repeat (first|with_reducible exact At.z|apply At.s)) hΔ _ (by simp [ByteArray.size];omega)).mono ?_
    clear hS
    rintro e W2 ⟨⟨v,rfl⟩,hS⟩
    go_wp2_with fail
    (refine ⟨fun h=>z035 (by kernel_rfl) h,?_⟩;try simp only [Act.put,List.setIfInBounds_toArray,List.set_cons_zero,List.set_cons_succ])
    refine zh7 (by kernel_rfl) ?_
    go_wp2_with fail
    rw [show l++105::110::32::(itoa ptx++32::(itoa pat++58::((z2j key).1++[10])))=l++z2n ⟨⟨ptx,pat⟩,key⟩ by simp [z2n]] at hS
    go_roundw
    case measure=>simp [intOf];omega
    case rel=>exact ⟨k+1,by omega,by go_num,l++z2n ⟨⟨ptx,pat⟩,key⟩,by simp [z2n];omega,Lib.hid (by rw [z0t HX.out,HL.out];simp),hS.sub (by repeat (with_reducible exact Sub.refl))⟩
   ·obtain rfl:k=n:=by omega
    have d2:=(hS.below.cell (p:=⟨gt,2,none⟩) gl).trans b2
    have HL2:Hid (l=z3p ⟨h,ins,outs⟩++ins.flatMap z2n):=Lib.hid (by rw [HL.out,List.take_of_length_le (by have:=L1.out;omega)])
    clear HL
    go_wp2_with fail
    clear d2
    go_loopw [11,12,13,58] (fun _ _ _ i wr=>∃ k:Nat,k≤n2∧i = .int .i64 k∧∃ m:List UInt8,m.length≤l.length+200 * k∧Hid (m=l++(outs.take k).flatMap z22)∧Sep Wb (Lt Wb.heap.size) (sb Wb.heap.size m::rds outs A2 n2 c2 shOut::[]) wr) (fun _ _ _ i _=>n2 - (intOf i).toNat)
    case atStart=>exact ⟨0,by omega,rfl,l,by omega,Lib.hid (by simp),hS.sub (by repeat (first|with_reducible exact Sub.nil|refine Sub.take (by repeat (first|with_reducible exact Del.z|apply Del.s)) ?_))⟩
    case round =>
     clear hS
     obtain ⟨k,hk,rfl,m,hm,HM,hS⟩:=hrel
     rcases Classical.em (k<n2) with hlt|hlt
     ·(have hO:=hS.elemOut (xs:=outs) (by repeat (first|with_reducible exact At.z|apply At.s)) hlt;clear hS;obtain ⟨b,off,x,A1,n1,c1,rfl,hx,j1,hS⟩:=hO)
      have HX:=Lib.hid hx
      have k1:(0:Int)≤(k:Int):=by omega
      have k2:(k:Int)<(n2:Int):=by omega
      clear hx
      obtain ⟨coin,lock⟩:=x
      simp only at j1 hS
      (go_wp2_with (first|(refine Sep.wloadNz hS (by rfl) rfl rfl (by repeat (first|with_reducible exact At.z|apply At.s)) (z02 rfl) ?_)|(refine Sep.walloc hS (by rfl) rfl (by first|exact z59|exact z8a) ?_;clear hS;intro g W hS)|(refine Sep.wstoreNb hS (by rfl) rfl rfl rfl (z02 rfl) (by simp [z4n,Value.oneCell']) (by repeat (first|with_reducible exact At.z|apply At.s)) (by rfl) (by repeat (first|with_reducible exact Put.z|apply Put.s)) ?_;clear hS;intro W hS;refine Stop.go ?_));refine Stop.mk ?_)
      have x1:=hS.boxCell (g:=g) (cs:=[.int .i64 coin,.slice A1 n1 c1]) (by repeat (with_reducible exact At.z)) 1 _ rfl
      go_wp2_with fail
      refine (hS.old (zh8 lock ⟨fun b hb=>hb,hG1.on hS.below⟩ (hS.ltsRds (by repeat (first|with_reducible exact At.z|apply At.s))))).mono ?_;clear hS;rintro e W ⟨rfl,hS⟩
      clear x1
      have lp:=zac lock
      have l1:=z4f coin j1
      have x0:=hS.boxCell (g:=g) (cs:=[.int .i64 coin,.slice A1 n1 c1]) (by repeat (with_reducible exact At.z)) 0 _ rfl
      go_wp2_with fail
      refine (hS.old (z9m coin j1 (hG1.on hS.below))).mono ?_;clear hS;rintro e W ⟨rfl,hS⟩
      clear x0
      go_wp2_with fail
      refine (hS.write (l:=m) (by repeat (first|with_reducible exact At.z|apply At.s)) hΔ _ (by simp [ByteArray.size];omega)).mono ?_
      clear hS
      rintro e W2 ⟨⟨v,rfl⟩,hS⟩
      go_wp2_with fail
      have e2:((⟨#[111,117,116,32]⟩:ByteArray)++⟨(itoa coin).toArray⟩++⟨#[58]⟩++⟨(z2j lock).1.toArray⟩++⟨#[10]⟩).data.toList=z22 ⟨coin,lock⟩:=by simp [ByteArray.data_append,z22]
      rw [e2] at hS
      clear e2
      go_roundw
      case measure=>simp [intOf];omega
      case rel=>exact ⟨k+1,by omega,by go_num,m++z22 ⟨coin,lock⟩,by simp [z22];omega,Lib.hid (by rw [z0t HX.out,HM.out];simp),hS.sub (by repeat (first|with_reducible exact Sub.nil|refine Sub.take (by repeat (first|with_reducible exact Del.z|apply Del.s)) ?_))⟩
     ·obtain rfl:k=n2:=by omega
      go_wp2_with fail
      refine (hS.text (by repeat (with_reducible exact At.z))).mono ?_
      clear hS
      rintro e W3 ⟨rfl,hB⟩
      have hS:=hSo.belows hB
      go_wp2_with fail
      have em:m=z1s ⟨h,ins,outs⟩:=by rw [HM.out,HL2.out,List.take_of_length_le (by have:=L2.out;omega)];rfl
      rw [em]
      refine bodyPost_ret (ze2 rfl (by exact Got.tmp rfl) (by exact Got.tmp rfl)) rfl ?_
      exact ⟨by rw [HR.out];rfl,hS.sub (by repeat (first|with_reducible exact Sub.refl|apply Sub.skip))⟩
 ·have q:((zb t) != 0)=true:=by simp [h0]
  have HR:Hid (R=([],zb t)):=Lib.hid (by rw [HP.out,if_pos h0])
  clear h0 HP
  go_wp2_with fail
  refine bodyPost_ret (ze2 rfl (by exact Got.tmp rfl) (by exact Got.tmp rfl)) rfl ?_
  exact ⟨by rw [HR.out];rfl,hS.sub (by repeat (first|with_reducible exact Sub.refl|apply Sub.skip))⟩
end
section
open Go.RowKit Go.Shelf
open Go.Lib (itoa)
set_option maxRecDepth 100000
noncomputable def z6k:z7:=spD (fun _:Tx=>True) fun t=>z0p t
theorem zps (t:Tx):z6k (eTx t)=some [.s (z0p t).1,I (z0p t).2]:=zd (f:=fun t:Tx=>z0p t) t trivial
theorem z04x (t:Tx):I64 (z0p t).2:=by
 unfold z0p
 split
 ·exact (zqy t).i64
 ·show I64 0
  exact ⟨by decide,by decide⟩
theorem z07v:Meets Tryz.prog z6k 50 ⟨[.agg 3],[(false,[.scal]),(false,[.scal])],true⟩ :=
 z1r rfl (z0v (fn:=Tryz.f50) (by kernel_rfl) (by kernel_rfl) (by kernel_rfl)) fun t _ W F us hF h=>by
  obtain ⟨cs,rfl,hr⟩:=z78 h
  have hS:Sep W F [rep t cs shTx] W:=(Sep.start W F hF.1).addRep (S:=shTx) (shTx.more (fun b hb=>⟨.inl hb,by simp⟩) (she_tx.of hr))
  refine (zoc t cs hS At.z hF.2).mono ?_
  rintro e w' ⟨rfl,hS'⟩
  exact ⟨_,rfl,hS'.below,z4q rfl rfl (.s _ (by have:=zka t;omega)) (.i _ _ (wrap_i64 (z04x t)))⟩
theorem Yl.base {P:Program} {w0:World} {F0:Nat→Prop} {Γ:List Res} {o:Oper} {a:Act} {t:TypeId} {x:Operand} {g j:Nat} {v:Value} (ho:o.op = .load t x) (hx:a.eval x = .pointer (some ⟨g,j,none⟩)) (h1:OneT P t) (hg:g<w0.heap.size) (hc:w0.cell? ⟨g,j,none⟩=some v):Yl P w0 F0 Γ o a v :=
 Yl.load ho hx fun W hS=>h1.load ((hS.below.cell (p:=⟨g,j,none⟩) hg).trans hc)
set_option maxHeartbeats 4000000 in
theorem z04y (t:Block) (cs:List Value) {w0 W:World} {F0:Nat→Prop} {Γ:List Res} (hS:Sep w0 F0 Γ W) (ht:At Γ (rep t cs shBlock)) (hG:Glob w0) :
  Calls Tryz.prog 11 #[.agg cs.toArray] W (RV w0 F0 Γ (.tuple #[.string ⟨(z07 t).1.toArray⟩,.int .i64 (z07 t).2])):=by
 (have hO:=hS.open_block ht;clear hS;obtain ⟨A,n,c,rfl,i1,i2,i3,i4,hS⟩:=hO)
 obtain ⟨hl1,hn1,hc1⟩:=hS.len (xs:=t.txs) (by repeat (with_reducible exact At.z))
 have HP:=Lib.hid (show z07 t=if ze t≠0 then ([],ze t) else (z3e t,0) from rfl)
 generalize z07 t=R at *
 have L1:=Lib.hid hl1
 clear hl1
 go_enter Tryz.func11,Tryz.ntmps11
 (go_wp2_with ((refine Sep.wbox hS (by rfl) rfl rfl ?_;clear hS;intro gt W hS;refine Stop.go ?_));refine Stop.mk ?_)
 go_wp2_with (((refine Sep.wloadNb hS (by rfl) rfl rfl (by repeat (with_reducible exact At.z)) (z02 rfl) ?_)))
 refine (hS.old (zcu t [_,_,_,_,_] _ _ (hS.ltsRep (At.s (At.s ht))) (fun b hb=>hb))).mono ?_;clear hS;rintro e W ⟨rfl,hS⟩
 rcases Classical.em (ze t=0) with h0|h0
 ·rw [h0]
  have HR:Hid (R=(z3e t,0)):=Lib.hid (by rw [HP.out,if_neg (fun h=>h h0)])
  have H0:=Lib.hid h0
  have hlen:n≤4:=by have:=(z5h h0).len;have:=L1.out;omega
  clear h0 HP
  have b0:=hS.boxCell (g:=gt) At.z 0 _ rfl
  have b1:=hS.boxCell (g:=gt) At.z 1 _ rfl
  have b2:=hS.boxCell (g:=gt) At.z 2 _ rfl
  have b3:=hS.boxCell (g:=gt) At.z 3 _ rfl
  have b4:=hS.boxCell (g:=gt) At.z 4 _ rfl
  have gl:gt<W.heap.size:=(Array.getElem?_eq_some_iff.1 (hS.getBox (g:=gt) At.z).2).1
  have hΔ:FactsW W (Lt W.heap.size) [rds t.txs A n c shTx]:=.rds (hS.ltsRds (by repeat (first|with_reducible exact At.z|apply At.s))) .nil
  have hG1:Glob W:=hG.on hS.below
  obtain ⟨bp,bh,bw,bn,txs⟩:=t
  simp only at *
  rename World=>Wb
  have hSo:=hS
  clear hS
  (go_wp2_with (first|(refine wsb (by rfl) rfl z_sb hΔ ?_;intro W1 hS;refine Stop.go ?_));refine Stop.mk ?_)
  have l1:=z4f bp i1
  have l2:=z4f bh i2
  have l3:=z4f bw i3
  have l4:=z4f bn i4
  go_wp2_with fail
  (refine Sep.regionT hS [20] (by kernel_rfl) ?_;clear hS;intro W hS)
  (refine z1m 0 rfl rfl (by ((apply Yl.pure;intro W;go_simp;with_reducible rfl))) (hS.sub (by repeat (with_reducible exact Sub.refl))) (by kernel_rfl) (fun _ _ _ h=>h) ?_;simp only [Act.put,List.setIfInBounds_toArray,List.set_cons_zero,List.set_cons_succ])
  (refine z1m 1 rfl rfl (Yl.base rfl rfl (z29 rfl) gl b0) (hS.sub (by repeat (with_reducible exact Sub.refl))) (by kernel_rfl) (fun _ _ _ h=>h) ?_;simp only [Act.put,List.setIfInBounds_toArray,List.set_cons_zero,List.set_cons_succ])
  (refine z1m 5 rfl rfl (by ((apply Yl.pure;intro W;go_simp;with_reducible rfl))) (hS.sub (by repeat (with_reducible exact Sub.refl))) (by kernel_rfl) (fun _ _ _ h=>h) ?_;simp only [Act.put,List.setIfInBounds_toArray,List.set_cons_zero,List.set_cons_succ])
  (refine z1m 6 rfl rfl (Yl.base rfl rfl (z29 rfl) gl b1) (hS.sub (by repeat (with_reducible exact Sub.refl))) (by kernel_rfl) (fun _ _ _ h=>h) ?_;simp only [Act.put,List.setIfInBounds_toArray,List.set_cons_zero,List.set_cons_succ])
  (refine z1m 10 rfl rfl (by ((apply Yl.pure;intro W;go_simp;with_reducible rfl))) (hS.sub (by repeat (with_reducible exact Sub.refl))) (by kernel_rfl) (fun _ _ _ h=>h) ?_;simp only [Act.put,List.setIfInBounds_toArray,List.set_cons_zero,List.set_cons_succ])
  (refine z1m 11 rfl rfl (Yl.base rfl rfl (z29 rfl) gl b2) (hS.sub (by repeat (with_reducible exact Sub.refl))) (by kernel_rfl) (fun _ _ _ h=>h) ?_;simp only [Act.put,List.setIfInBounds_toArray,List.set_cons_zero,List.set_cons_succ])
  (refine z1m 15 rfl rfl (by ((apply Yl.pure;intro W;go_simp;with_reducible rfl))) (hS.sub (by repeat (with_reducible exact Sub.refl))) (by kernel_rfl) (fun _ _ _ h=>h) ?_;simp only [Act.put,List.setIfInBounds_toArray,List.set_cons_zero,List.set_cons_succ])
  (refine z1m 16 rfl rfl (Yl.base rfl rfl (z29 rfl) gl b3) (hS.sub (by repeat (with_reducible exact Sub.refl))) (by kernel_rfl) (fun _ _ _ h=>h) ?_;simp only [Act.put,List.setIfInBounds_toArray,List.set_cons_zero,List.set_cons_succ])
  refine zfu 2 (by kernel_rfl) rfl ?_
  go_wp2_with fail
  refine (hS.old (z9m bp i1 (hG1.on hS.below))).mono ?_;clear hS;rintro e W ⟨rfl,hS⟩
  go_wp2_with fail
  (refine ⟨fun _=>hS.sub (by repeat (with_reducible exact Sub.refl)),?_⟩;try simp only [Act.put,List.setIfInBounds_toArray,List.set_cons_zero,List.set_cons_succ])
  (refine z1m 3 rfl rfl (Yl.cat rfl rfl rfl (by simp only [List.length_append,List.length_cons,List.length_nil];omega)) (hS.sub (by repeat (with_reducible exact Sub.refl))) (by kernel_rfl) (fun _ _ _ h=>h) ?_;simp only [Act.put,List.setIfInBounds_toArray,List.set_cons_zero,List.set_cons_succ])
  (refine z1m 4 rfl rfl (Yl.cat rfl rfl rfl (by simp only [List.length_append,List.length_cons,List.length_nil];omega)) (hS.sub (by repeat (with_reducible exact Sub.refl))) (by kernel_rfl) (fun _ _ _ h=>h) ?_;simp only [Act.put,List.setIfInBounds_toArray,List.set_cons_zero,List.set_cons_succ])
  refine zfu 7 (by kernel_rfl) rfl ?_
  go_wp2_with fail
  refine (hS.old (z9m bh i2 (hG1.on hS.below))).mono ?_;clear hS;rintro e W ⟨rfl,hS⟩
  go_wp2_with fail
  (refine ⟨fun _=>hS.sub (by repeat (with_reducible exact Sub.refl)),?_⟩;try simp only [Act.put,List.setIfInBounds_toArray,List.set_cons_zero,List.set_cons_succ])
  (refine z1m 8 rfl rfl (Yl.cat rfl rfl rfl (by simp only [List.length_append,List.length_cons,List.length_nil];omega)) (hS.sub (by repeat (with_reducible exact Sub.refl))) (by kernel_rfl) (fun _ _ _ h=>h) ?_;simp only [Act.put,List.setIfInBounds_toArray,List.set_cons_zero,List.set_cons_succ])
  (refine z1m 9 rfl rfl (Yl.cat rfl rfl rfl (by simp only [List.length_append,List.length_cons,List.length_nil];omega)) (hS.sub (by repeat (with_reducible exact Sub.refl))) (by kernel_rfl) (fun _ _ _ h=>h) ?_;simp only [Act.put,List.setIfInBounds_toArray,List.set_cons_zero,List.set_cons_succ])
  refine zfu 12 (by kernel_rfl) rfl ?_
  go_wp2_with fail
  refine (hS.old (z9m bw i3 (hG1.on hS.below))).mono ?_;clear hS;rintro e W ⟨rfl,hS⟩
  go_wp2_with fail
  (refine ⟨fun _=>hS.sub (by repeat (with_reducible exact Sub.refl)),?_⟩;try simp only [Act.put,List.setIfInBounds_toArray,List.set_cons_zero,List.set_cons_succ])
  (refine z1m 13 rfl rfl (Yl.cat rfl rfl rfl (by simp only [List.length_append,List.length_cons,List.length_nil];omega)) (hS.sub (by repeat (with_reducible exact Sub.refl))) (by kernel_rfl) (fun _ _ _ h=>h) ?_;simp only [Act.put,List.setIfInBounds_toArray,List.set_cons_zero,List.set_cons_succ])
  (refine z1m 14 rfl rfl (Yl.cat rfl rfl rfl (by simp only [List.length_append,List.length_cons,List.length_nil];omega)) (hS.sub (by repeat (with_reducible exact Sub.refl))) (by kernel_rfl) (fun _ _ _ h=>h) ?_;simp only [Act.put,List.setIfInBounds_toArray,List.set_cons_zero,List.set_cons_succ])
  refine zfu 17 (by kernel_rfl) rfl ?_
  go_wp2_with fail
  refine (hS.old (z9m bn i4 (hG1.on hS.below))).mono ?_;clear hS;rintro e W ⟨rfl,hS⟩
  go_wp2_with fail
  (refine ⟨fun _=>hS.sub (by repeat (with_reducible exact Sub.refl)),?_⟩;try simp only [Act.put,List.setIfInBounds_toArray,List.set_cons_zero,List.set_cons_succ])
  (refine z1m 18 rfl rfl (Yl.cat rfl rfl rfl (by simp only [List.length_append,List.length_cons,List.length_nil];omega)) (hS.sub (by repeat (with_reducible exact Sub.refl))) (by kernel_rfl) (fun _ _ _ h=>h) ?_;simp only [Act.put,List.setIfInBounds_toArray,List.set_cons_zero,List.set_cons_succ])
  (refine z1m 19 rfl rfl (Yl.cat rfl rfl rfl (by simp only [List.length_append,List.length_cons,List.length_nil];omega)) (hS.sub (by repeat (with_reducible exact Sub.refl))) (by kernel_rfl) (fun _ _ _ h=>h) ?_;simp only [Act.put,List.setIfInBounds_toArray,List.set_cons_zero,List.set_cons_succ])
  refine zfu 20 (by kernel_rfl) rfl ?_
  go_wp2_with fail
  refine (hS.write (l:=[]) (by repeat (with_reducible exact At.z)) hΔ _ (by simp [ByteArray.size];omega)).mono ?_
  clear hS
  rintro e W2 ⟨⟨v,rfl⟩,hS⟩
  go_wp2_with fail
  (refine ⟨fun h=>z035 (by kernel_rfl) h,?_⟩;try simp only [Act.put,List.setIfInBounds_toArray,List.set_cons_zero,List.set_cons_succ])
  refine zh7 (by kernel_rfl) ?_
  have e0:[]++98::108::111::99::107::32::(itoa bp++32::(itoa bh++32::(itoa bw++32::(itoa bn++[10]))))=z3x ⟨bp,bh,bw,bn,txs⟩:=by simp [z3x]
  have lh:(z3x ⟨bp,bh,bw,bn,txs⟩).length≤100:=by simp [z3x];omega
  have d4:=(hS.below.cell (p:=⟨gt,4,none⟩) gl).trans b4
  go_wp2_with fail
  clear d4
  rw [e0] at hS
  clear e0
  go_loopw [7,8,9,39] (fun _ _ _ i wr=>∃ k:Nat,k≤n∧i = .int .i64 k∧∃ l:List UInt8,l.length≤100+2500 * k∧Hid (l=z3x ⟨bp,bh,bw,bn,txs⟩++(txs.take k).flatMap fun t=>(z0p t).1)∧Sep Wb (Lt Wb.heap.size) (sb Wb.heap.size l::rds txs A n c shTx::[]) wr) (fun _ _ _ i _=>n - (intOf i).toNat)
  case atStart=>exact ⟨0,by omega,rfl,z3x ⟨bp,bh,bw,bn,txs⟩,by omega,Lib.hid (by simp),hS.sub (by repeat (with_reducible exact Sub.refl))⟩
  case round =>
   clear hS
   obtain ⟨k,hk,rfl,l,hl,HL,hS⟩:=hrel
   rcases Classical.em (k<n) with hlt|hlt
   ·(have hO:=hS.elemTxR (xs:=txs) (by repeat (first|with_reducible exact At.z|apply At.s)) hlt;clear hS;obtain ⟨b,off,x,A1,n1,c1,A2,n2,c2,rfl,hx,hS⟩:=hO)
    have HX:=Lib.hid hx
    have k1:(0:Int)≤(k:Int):=by omega
    have k2:(k:Int)<(n:Int):=by omega
    clear hx
    (go_wp2_with (first|(refine Sep.wloadNz hS (by rfl) rfl rfl (by repeat (first|with_reducible exact At.z|apply At.s)) (z02 rfl) ?_)|(refine Sep.walloc hS (by rfl) rfl (by first|exact z59|exact zcf) ?_;clear hS;intro g W hS)|(refine Sep.wstoreNb hS (by rfl) rfl rfl rfl (z02 rfl) (by simp [z4n,Value.oneCell']) (by repeat (first|with_reducible exact At.z|apply At.s)) (by rfl) (by repeat (first|with_reducible exact Put.z|apply Put.s)) ?_;clear hS;intro W hS;refine Stop.go ?_));refine Stop.mk ?_)
    go_wp2_with (((refine Sep.wloadNb hS (by rfl) rfl rfl (by repeat (with_reducible exact At.z)) (z02 rfl) ?_)))
    refine (zoc x [_,_,_] hS (by repeat (first|with_reducible exact At.z|apply At.s)) hG1).mono ?_;clear hS;rintro e W ⟨rfl,hS⟩
    have lp:=zka x
    go_wp2_with fail
    refine (hS.write (l:=l) (by repeat (first|with_reducible exact At.z|apply At.s)) hΔ _ (by simp [ByteArray.size];omega)).mono ?_
    clear hS
    rintro e W2 ⟨⟨v,rfl⟩,hS⟩
    go_wp2_with fail
    go_roundw
    case measure=>simp [intOf];omega
    case rel=>exact ⟨k+1,by omega,by go_num,l++(z0p x).1,by simp;omega,Lib.hid (by rw [z0t HX.out,HL.out];simp),hS.sub (by repeat (with_reducible exact Sub.refl))⟩
   ·obtain rfl:k=n:=by omega
    go_wp2_with fail
    refine (hS.text (by repeat (with_reducible exact At.z))).mono ?_
    clear hS
    rintro e W3 ⟨rfl,hB⟩
    have hS:=hSo.belows hB
    go_wp2_with fail
    have em:l=z3e ⟨bp,bh,bw,bn,txs⟩:=by
     rw [HL.out,List.take_of_length_le (by have:=L1.out;omega)]
     unfold z3e
     congr 1
     have key:∀ t ∈ txs,(z0p t).1=z1s t:=fun t ht=>by rw [z04i ((z5h H0.out).each t ht)]
     simp only [List.flatMap_def]
     rw [List.map_congr_left key]
    rw [em]
    refine bodyPost_ret (ze2 rfl (by exact Got.tmp rfl) (by exact Got.tmp rfl)) rfl ?_
    exact ⟨by rw [HR.out];rfl,hS.sub (by repeat (first|with_reducible exact Sub.refl|apply Sub.skip))⟩
 ·have q:((ze t) != 0)=true:=by simp [h0]
  have HR:Hid (R=([],ze t)):=Lib.hid (by rw [HP.out,if_pos h0])
  clear h0 HP
  go_wp2_with fail
  refine bodyPost_ret (ze2 rfl (by exact Got.tmp rfl) (by exact Got.tmp rfl)) rfl ?_
  exact ⟨by rw [HR.out];rfl,hS.sub (by repeat (first|with_reducible exact Sub.refl|apply Sub.skip))⟩
noncomputable def z1u:z7:=spD (fun _:Block=>True) fun t=>z07 t
theorem zm5 (t:Block):z1u (z43 t)=some [.s (z07 t).1,I (z07 t).2]:=zd (f:=fun t:Block=>z07 t) t trivial
theorem z00o (t:Block):I64 (z07 t).2:=by
 unfold z07
 split
 ·exact (zsg t).i64
 ·show I64 0
  exact ⟨by decide,by decide⟩
theorem ze7:Meets Tryz.prog z1u 11 ⟨[.agg 5],[(false,[.scal]),(false,[.scal])],true⟩ :=
 z1r rfl (z0v (fn:=Tryz.f11) (by kernel_rfl) (by kernel_rfl) (by kernel_rfl)) fun t _ W F us hF h=>by
  obtain ⟨cs,rfl,hr⟩:=z78 h
  have hS:Sep W F [rep t cs shBlock] W:=(Sep.start W F hF.1).addRep (S:=shBlock) (shBlock.more (fun b hb=>⟨.inl hb,by simp⟩) (she_block.of hr))
  refine (z04y t cs hS At.z hF.2).mono ?_
  rintro e w' ⟨rfl,hS'⟩
  exact ⟨_,rfl,hS'.below,z4q rfl rfl (.s _ (by have:=z001 t;omega)) (.i _ _ (wrap_i64 (z00o t)))⟩
end
section
open Go.RowKit
open Go.Lib (itoa atoiAll atoiSat)
set_option maxRecDepth 100000
set_option maxHeartbeats 4000000
section
variable {sp:Nat→z7} {N:Nat} {E E':Env} {ks:List (List Dt→Option (List Dt))} {res:Option (List Dt)}
theorem z5d {neg:Bool} {a:Atom} {x:Bool} (ha:a.val E=some (.e x)):denX sp E (.ise neg a)=some (.b (x == neg)):=by simp only [denX,ha]
end
theorem ze8 {w:List UInt8} (h:(zr w).2.is=true):z17 w=none:=by
 unfold zr at h
 unfold z17
 cases ha:atoiAll w with
 | ok v=>rw [ha] at h;cases h
 | _=>rfl
theorem ze9 {w:List UInt8} (h:(zr w).2.is=false):z17 w=if itoa (zr w).1=w then some (zr w).1 else none:=by
 unfold zr at h ⊢
 unfold z17
 cases ha:atoiAll w with
 | ok v=>rfl
 | _=>rw [ha] at h;cases h
theorem z0ga (k:Nat) (h:k<14):(opNames.map Dt.s)[(k:Int).toNat]? = some (.s ((opNames[k]?).getD [])):=by
 have hl:opNames.length=14:=rfl
 rw [Int.toNat_natCast,List.getElem?_map,List.getElem?_eq_getElem (by omega)]
 rfl
theorem zod (w:List UInt8):∀ (l:List (List UInt8)) (k r:Int),0≤k→0≤r→r≤13→k+l.length≤14→0≤z2c w k r l∧z2c w k r l≤13
 | [],k,r,_,h0,h1,_=>⟨h0,h1⟩
 | n::l,k,r,hk,h0,h1,h2=>by
  rw [z2c]
  simp only [List.length_cons] at h2
  refine zod w l (k+1) _ (by omega) (by split <;> omega) (by split <;> omega) (by omega)
noncomputable def z65:z7:=spD (fun _:List UInt8=>True) fun s=>z18 s
theorem zki (s:List UInt8):z65 [.s s]=some [.l 2 ((z18 s).1.map eOp),I (z18 s).2]:=zd (f:=fun s:List UInt8=>z18 s) s trivial
def z4u (acc:List Op) (ws:List (List UInt8)):List Op × Int:=match zao ws with
 | none=>([],1)
 | some l=>if z8 (acc++l)≠0 then ([],z8 (acc++l)) else (acc++l,0)
theorem zha (acc:List Op) (w:List UInt8) (ws:List (List UInt8)):z4u acc (w::ws)=match zb5 w with
 | none=>([],1)
 | some o=>z4u (acc++[o]) ws:=by
 unfold z4u
 rw [zao]
 cases zb5 w with
 | none=>rfl
 | some o =>
  cases zao ws with
  | none=>rfl
  | some l=>simp only [Option.map_some,List.append_assoc,List.singleton_append]
theorem zoe (s:List UInt8):z18 s=if 4000<(s.length:Int) then ([],2) else if s=[] then ([],0) else z4u [] (za 32 s):=by
 unfold z18 z4u
 rfl
theorem zkj (acc:List Op):z4u acc []=if z8 acc≠0 then ([],z8 acc) else (acc,0):=by
 unfold z4u
 rw [zao]
 simp only [List.append_nil]
theorem zhb {w:List UInt8} (h:z2m w=0):zb5 w=(z17 w).map fun n=>⟨1,n⟩:=if_pos h
theorem zhc {w:List UInt8} (h:¬ z2m w=0):zb5 w=some ⟨z2m w,0⟩:=if_neg h
theorem zhd (w n:List UInt8):∀ (l:List (List UInt8)) (k r:Int),z2c w k r (l++[n])=if n=w∧n≠[] then k+l.length else z2c w k r l
 | [],k,r=>by simp only [List.nil_append,z2c,List.length_nil];split <;> simp
 | m::l,k,r=>by
  rw [List.cons_append,z2c,z2c,zhd w n l (k+1)]
  split
  ·simp only [List.length_cons];omega
  ·rfl
theorem z07w (w:List UInt8) (i:Nat) (h:i<14):z2c w 0 0 (opNames.take (i+1))=if (opNames[i]?).getD []=w∧(opNames[i]?).getD []≠[] then (i:Int) else z2c w 0 0 (opNames.take i):=by
 have hl:opNames.length=14:=rfl
 rw [List.take_add_one,List.getElem?_eq_getElem (by omega)]
 simp only [Option.toList_some,Option.getD_some]
 rw [zhd,List.length_take]
 split
 ·omega
 ·rfl
attribute [local irreducible] den denX z0r z14
attribute [local irreducible] z08 spD z1n itoa z8 z38 z1p z28 z4u zr za zb5 z2c z2m
def zpt:T :=
 .ite (.v 32) (.lets [.bin .add (.v 26) (.c (.i .i64 1))] [] (.again 1 [.v 33,.v 26,.v 28])) (.lets [.bin .add (.v 26) (.c (.i .i64 1))] [] (.again 1 [.v 33,.v 27,.v 28]))
def zpu:T :=
 .lets [.bin .eql (.v 30) (.v 11)] [] (.ite (.v 31) (.lets [.bin .neq (.v 30) (.c (.s []))] [] zpt) (.lets [.bin .add (.v 26) (.c (.i .i64 1))] [] (.again 1 [.v 32,.v 27,
 .v 28])))
def zpv:T :=
 .lets [.mk 2 [[.c (.i .i64 1),.v 31]]] [] (.lets [.app 2 (.v 8) (.v 36)] [] (.lets [.bin .add (.v 9) (.c (.i .i64 1))] [] (.again 0 [.v 6,.v 7,.v 37,.v 38])))
def zpw:T :=
 .ite (.v 33) (.ret [.c (.nil 2),.c (.i .i64 1)]) (.lets [.call 37 [.v 31] 0] [] (.lets [.bin .neq (.v 34) (.v 11)] [] (.ite (.v 35) (.ret [.c (.nil 2),.c (.i .i64 1)])
 zpv)))
def zpx:T :=
 .ite (.v 30) (.lets [.call 42 [.v 11] 0,.call 42 [.v 11] 1] [] (.lets [.ise true (.v 32)] [] zpw)) (.lets [.mk 2 [[.v 27,.v 28]]] [] (.lets [.app 2 (.v 8) (.v 31)] []
 (.lets [.bin .add (.v 9) (.c (.i .i64 1))] [] (.again 0 [.v 6,.v 7,.v 32,.v 33]))))
def zpy:T :=
 .ite (.v 29) (.lets [.sel [.v 12,.v 13,.v 14,.v 15,.v 16,.v 17,.v 18,.v 19,.v 20,.v 21,.v 22,.v 23,.v 24,.v 25] (.v 26)] [] zpu) (.lets [.bin .eql (.v 27) (.c
 (.i .i64 0))] [] zpx)
def zpz:T :=
 .lets [.call 39 [] 0,.call 39 [] 1,.call 39 [] 2,.call 39 [] 3,.call 39 [] 4,.call 39 [] 5,.call 39 [] 6,.call 39 [] 7,.call 39 [] 8,.call 39 [] 9,.call 39 [] 10,.call 39
 [] 11,.call 39 [] 12,.call 39 [] 13] [] (.loop [.c (.i .i64 0),.c (.i .i64 0),.c (.i .i64 0)] (.lets [.bin .lss (.v 26) (.c (.i .i64 14))] [] zpy))
def zq0:T :=
 .ite (.v 10) (.lets [] [.inr 1 (.v 4) (.v 9)] (.lets [.idx (.v 4) (.v 9) 0] [] zpz)) (.lets [.call 7 [.v 8] 0] [] (.lets [.bin .neq (.v 11) (.c (.i .i64 0))] [] (.ite (.v
 12) (.ret [.c (.nil 2),.v 11]) (.ret [.v 8,.c (.i .i64 0)]))))
def zq1:T :=
 .lets [.call 41 [.v 0,.c (.s [32])] 0] [] (.lets [.len (.v 4)] [] (.loop [.c (.nil 2),.c (.i .i64 0),.c (.nil 2),.c (.i .i64 0)] (.lets [.bin .lss (.v 9) (.v 5)] []
 zq0)))
def zq2:T :=
 .lets [.bin .gtr (.v 1) (.c (.i .i64 4000))] [] (.ite (.v 2) (.ret [.c (.nil 2),.c (.i .i64 2)]) (.lets [.bin .eql (.v 0) (.c (.s []))] [] (.ite (.v 3) (.ret [.c (.nil 2),.c (.i
 .i64 0)]) zq1)))
def zcg:T :=
 .lets [.slen (.v 0)] [] zq2
attribute [local irreducible] z4r z1e z0z z0b
theorem z00p:Meets Tryz.prog z65 197 ⟨[.one],[(false,[.fresh 217 2]),(false,[.scal])],false⟩:=by
 refine zn (sp:=(z0g [(7,z0z),(37,z1e),(39,z28),(41,z0b),(42,z4r)])) (sigs:=z0k) (cut:=[]) (hints:=[⟨7,[.r 2 217 2,.t 3,.r 4 217 2,.t 21]⟩,⟨11,[.t 27,.o 7]⟩]) (fn:=Tryz.f197) (t:=zcg) (by kernel_rfl) (by kernel_rfl) (by kernel_rfl) ?_ ?_
 ·exact (z04 (L:=[(7,z0z),(37,z1e),(39,z28),(41,z0b),(42,z4r)]) ⟨z6 rfl z6s,z6 rfl zb7,z6 rfl zh6,z6 rfl z6j,z6 rfl zsl,trivial⟩)
 ·rintro ds rs hok h
  obtain ⟨s,-,rfl,rfl⟩:=zl h
  clear h
  refine ⟨⟨s.length+20,?_⟩,?_⟩
  ·show den _ _ zcg [.s s] []=ret (z18 s)
   rw [zoe]
   unfold zcg
   repeat' (first|refine dq1 ?_|exact z5 rfl rfl|refine tR (fun h=>?_) fun h=>?_|fail)
   have hs4:s.length≤4000:=by omega
   have hcl:=z3l 32 s
   repeat' (first|refine dq1 ?_|refine dqk rfl (z2e s 32 (by omega)) ?_|fail)
   (refine zy (fun (a:List Op) k=>[.l 2 [],I 0,.l 2 (a.map eOp),I k]) (fun (a:List Op) _ (r:List (List UInt8))=>z4u a r) (fun a k=>a.length=k) [] (za 32 s) ?_ ?_ ?_ ?_ ?_;rfl;exact rfl;omega)
   ·rintro a k w r hx hd hk ha again hag
    have hw:=hcl.2 w (List.mem_of_getElem? hx)
    rw [zha]
    have hk0:=(zod w opNames 0 0 (by decide) (by decide) (by decide) (by decide)).1
    repeat' (first|refine dq1 ?_|refine dqc ?_|refine dqK rfl (zc2) ?_|refine dqT ?_|fail)
    (refine z06w (st:=fun i=>[I i,I (z2c w 0 0 (opNames.take i)),I 0]) (n:=14) (by with_unfolding_all rfl) (by omega) ?_ ?_)
    ·intro i hi again' hag'
     have hn:=z0ga i hi
     have hag':again' [I ((i:Int)+1),I (z2c w 0 0 (opNames.take (i+1))),I 0]=_:=hag'
     rw [z07w w i hi] at hag'
     generalize (opNames[i]?).getD []=nm at *
     repeat' (first|refine dq1 ?_|refine z4 (z1k rfl rfl (by omega) hn) ?_|refine dqT ?_|fail)
     refine z44 rfl (fun h1=>?_) (fun h1=>?_)
     ·repeat' (first|refine dq1 ?_|fail)
      refine z44 rfl (fun h2=>?_) (fun h2=>?_)
      ·rw [if_pos ⟨h1,h2⟩] at hag'
       repeat' (first|refine dq1 ?_|fail)
       exact z9 rfl rfl hag'
      ·rw [if_neg (fun h=>h2 h.2)] at hag'
       repeat' (first|refine dq1 ?_|fail)
       exact z9 rfl rfl hag'
     ·rw [if_neg (fun h=>h1 h.1)] at hag'
      repeat' (first|refine dq1 ?_|fail)
      exact z9 rfl rfl hag'
    ·intro again'
     have ek:z2c w 0 0 (opNames.take 14)=z2m w:=by with_unfolding_all rfl
     simp only [ek]
     have hko:0≤z2m w:=by with_unfolding_all exact hk0
     have a9:=zdw w (by omega)
     repeat' (first|refine dq1 ?_|refine dqF ?_|fail)
     refine z44 rfl (fun h1=>?_) (fun h1=>?_)
     ·rw [zhb h1]
      cases hi:(zr w).2.is with
      | true =>
       rw [ze8 hi]
       rw [hi] at a9
       repeat' (first|refine dqK rfl (a9) ?_|refine z4 (z5d rfl) ?_|exact z5 rfl rfl|refine z19 rfl ?_|fail)
      | false =>
       rw [ze9 hi]
       rw [hi] at a9
       generalize (zr w).1=n at *
       repeat' (first|refine dq1 ?_|refine dqK rfl (a9) ?_|refine dqk rfl (z2x _) ?_|refine z4 (z5d rfl) ?_|refine z13 rfl ?_|fail)
       refine z44 rfl (fun h2=>?_) (fun h2=>?_)
       ·rw [if_neg h2]
        repeat' (first|exact z5 rfl rfl|fail)
       ·have h2:=Decidable.not_not.1 h2
        rw [if_pos h2]
        simp only [Option.map_some]
        repeat' (first|refine dq1 ?_|refine z4 (z1h rfl rfl (by simp)) ?_|refine z4 (z6g (x:=⟨1,n⟩) (fun _=>rfl) rfl rfl (by omega)) ?_|fail)
        exact z9 rfl rfl (hag (a++[⟨1,n⟩]) (by rw [List.length_append,ha];rfl))
     ·rw [zhc h1]
      simp only
      repeat' (first|refine dq1 ?_|refine z4 (z1h rfl rfl (by simp)) ?_|refine z4 (z6g (x:=⟨z2m w,0⟩) (fun _=>rfl) rfl rfl (by omega)) ?_|fail)
      exact z9 rfl rfl (hag (a++[⟨z2m w,0⟩]) (by rw [List.length_append,ha];rfl))
   ·rintro a ha again
    rw [zkj]
    repeat' (first|refine dq1 ?_|refine dqk rfl (z47 _) ?_|exact z5 rfl rfl|refine tR (fun h=>?_) fun h=>?_|refine dqF ?_|fail)
  ·intro i d hi hd
   match i,hi,hd with
   | 0,hi,_=>simp [zh] at hi
   | 1,_,hd=>simp only [Enc.e,z1c,List.cons_append,List.nil_append,List.getElem?_cons_zero,List.getElem?_cons_succ,Option.some.injEq] at hd;subst hd;rfl
   | i+2,hi,hd=>simp [zh] at hi
end
section
open Go.RowKit
noncomputable def z9n:z7:=spD (fun _:List Int × List Int=>True) fun x=>decide (x.1=x.2)
theorem zvm (a b:List Int):z9n [.l 1 (a.map z1c),.l 1 (b.map z1c)]=some [.b (decide (a=b))]:=zd (f:=fun x:List Int × List Int=>decide (x.1=x.2)) (a,b) trivial
theorem z0b1:Meets Tryz.prog z9n 25 ⟨[.one,.one],[(false,[.scal])],true⟩ :=
 zaa rfl (z0v (fn:=Tryz.f25) (by kernel_rfl) (by kernel_rfl) (by kernel_rfl)) fun ⟨a,b⟩ _ W F us hF h=>by
  obtain ⟨v,us,rfl,h1,h⟩:=zo h
  obtain ⟨v2,us,rfl,h2,h⟩:=zo h
  obtain rfl:=z0n h
  obtain ⟨A,n,c,rfl,k1⟩:=z4m z3b h1
  obtain ⟨A2,n2,c2,rfl,k2⟩:=z4m z3b h2
  refine (z076 a b A A2 n c n2 c2 W F F k1 k2).mono ?_
  rintro r W' ⟨rfl,m,rfl⟩
  exact ⟨rfl,z91 (Below.refl _ _) m⟩
noncomputable def z9o:z7:=spD (fun _:List (List UInt8) × List UInt8=>True) fun x=>idx x.1 x.2
theorem zvn (a:List (List UInt8)) (b:List UInt8):z9o [.l 1 (a.map z26),.s b]=some [I (idx a b)]:=zd (f:=fun x:List (List UInt8) × List UInt8=>idx x.1 x.2) (a,b) trivial
theorem z0b2:Meets Tryz.prog z9o 213 ⟨[.one,.one],[(false,[.scal])],true⟩ :=
 z85 rfl (z0v (fn:=Tryz.f213) (by kernel_rfl) (by kernel_rfl) (by kernel_rfl)) fun ⟨a,b⟩ _ W F us hF h=>by
  obtain ⟨v,us,rfl,h1,h⟩:=zo h
  obtain ⟨v2,us,rfl,h2,h⟩:=zo h
  obtain rfl:=z0n h
  obtain ⟨A,n,c,rfl,k1⟩:=z4m zgh h1
  obtain ⟨rfl,k2⟩:=z0u h2
  have hl:a.length≤9223372036854775807:=by have h1:=k1.1;have h2:=k1.2.1;have h3:=k1.2.2.1;simp only at h1 h2 h3;omega
  have hb:=zs6 a b
  exact ⟨⟨by simp only;omega,by simp only at hb ⊢;omega⟩,(zby a b A n c W F k1).mono fun e w' h=>⟨h.1,h.2 ▸ Below.refl _ _⟩⟩
end
section
open Go.RowKit
open Go.Lib (itoa)
set_option maxRecDepth 100000
set_option maxHeartbeats 4000000
def z20 (w:List UInt8):Int × Bool:=((zr w).1,!(zr w).2.is && decide (itoa (zr w).1=w))
theorem z038 (w:List UInt8):z17 w=if (z20 w).2=true then some (z20 w).1 else none:=by
 unfold z20
 cases hi:(zr w).2.is with
 | true=>rw [ze8 hi];rfl
 | false =>
  rw [ze9 hi]
  by_cases h:itoa (zr w).1=w
  ·rw [if_pos h,if_pos (by simpa using h)]
  ·rw [if_neg h,if_neg (by simpa using h)]
def z6v (o:List Out) (i:List In) (x:List UInt8) (a:List Int) (ws:List (List UInt8)):Option (List Out × List In):=match z2h ws with
 | none=>none
 | some n=>z5i o i x (a++n)
theorem z00q (o:List Out) (i:List In) (x:List UInt8) (a:List Int) (w:List UInt8) (ws:List (List UInt8)):z6v o i x a (w::ws)=if (z20 w).2=true then z6v o i x (a++[(z20 w).1]) ws else none:=by
 unfold z6v
 rw [z2h,z038 w]
 by_cases h:(z20 w).2=true
 ·rw [if_pos h,if_pos h]
  simp only
  cases z2h ws with
  | none=>rfl
  | some l=>simp
 ·rw [if_neg h,if_neg h]
theorem z04z (o:List Out) (i:List In) (x:List UInt8) (a:List Int):z6v o i x a []=z5i o i x a:=by
 unfold z6v;rw [z2h];simp
theorem z00r (o:List Out) (i:List In) (x:List UInt8):zb8 o i x=z6v o i x [] ((za 32 (Go.Lib.cut x [58]).1).drop 1):=by
 unfold zb8 z6v
 cases z2h ((za 32 (Go.Lib.cut x [58]).1).drop 1) with
 | none=>rfl
 | some n=>simp
def z66 (n:Int) (r:List (List UInt8)) (p:Option (List Out × List In)):Tx × Int:=match p with
 | none=>(zTx,1)
 | some p=>z0x n p.1 p.2 r
theorem zvo (n:Int) (o:List Out) (i:List In) (x:List UInt8) (r:List (List UInt8)):z0x n o i (x::r)=z66 n r (z6v o i x [] ((za 32 (Go.Lib.cut x [58]).1).drop 1)):=by
 rw [z0x,z00r]
 rfl
theorem z050 (n:Int) (r:List (List UInt8)) (o:List Out) (i:List In) (x:List UInt8) (a:List Int) {hd0 q:List UInt8} {fd:Bool} {v0:List UInt8} {vs:List (List UInt8)} {l:List Op} {e:Int} (hc:Go.Lib.cut x [58]=(hd0,q,fd)) (hv:za 32 hd0=v0::vs) (hr:z18 q=(l,e)):z66 n r (z5i o i x a) =
 if e≠0 then (zTx,1) else if Go.Lib.contains x [58]=false then (zTx,1) else
 if v0=tIn∧a.length=2∧o.length=0 then z0x n o (i++[⟨⟨a.getD 0 0,a.getD 1 0⟩,l⟩]) r else
 if v0=z36∧a.length=1 then z0x n (o++[⟨a.getD 0 0,l⟩]) i r else (zTx,1):=by
 have e1:z5i o i x a=if e≠0 then none else if Go.Lib.contains x [58]=false then none else
  if v0=tIn∧a.length=2∧o.length=0 then some (o,i++[⟨⟨a.getD 0 0,a.getD 1 0⟩,l⟩]) else
  if v0=z36∧a.length=1 then some (o++[⟨a.getD 0 0,l⟩],i) else none:=by
  unfold z5i
  rw [hc]
  show (if (z18 q).2≠0 then none else if Go.Lib.contains x [58]=false then none else
   if (za 32 hd0).headD []=tIn∧a.length=2∧o.length=0 then some (o,i++[⟨⟨a.getD 0 0,a.getD 1 0⟩,(z18 q).1⟩]) else
   if (za 32 hd0).headD []=z36∧a.length=1 then some (o++[⟨a.getD 0 0,(z18 q).1⟩],i) else none)=_
  rw [hr,hv]
  rfl
 rw [e1]
 by_cases h1:e≠0
 ·rw [if_pos h1,if_pos h1];rfl
 rw [if_neg h1,if_neg h1]
 by_cases h2:Go.Lib.contains x [58]=false
 ·rw [if_pos h2,if_pos h2];rfl
 rw [if_neg h2,if_neg h2]
 by_cases h3:v0=tIn∧a.length=2∧o.length=0
 ·rw [if_pos h3,if_pos h3];rfl
 rw [if_neg h3,if_neg h3]
 by_cases h4:v0=z36∧a.length=1
 ·rw [if_pos h4,if_pos h4];rfl
 rw [if_neg h4,if_neg h4];rfl
theorem zof (s:List UInt8):z09 s=if 4000<(s.length:Int) then (zTx,2) else
 if Go.Lib.hasSuffix s [10]=false then (zTx,1) else
 if Go.Lib.hasPrefix ((za 10 (Go.Lib.trimSuffix s [10])).headD []) tTx=false then (zTx,1) else
 if (z20 (Go.Lib.trimPrefix ((za 10 (Go.Lib.trimSuffix s [10])).headD []) tTx)).2=true then z0x (z20 (Go.Lib.trimPrefix ((za 10 (Go.Lib.trimSuffix s [10])).headD []) tTx)).1 [] [] ((za 10 (Go.Lib.trimSuffix s [10])).drop 1) else (zTx,1):=by
 unfold z09
 rw [z038]
 by_cases h:(z20 (Go.Lib.trimPrefix ((za 10 (Go.Lib.trimSuffix s [10])).headD []) tTx)).2=true
 ·rw [if_pos h,if_pos h]
 ·rw [if_neg h,if_neg h]
theorem zm6 (t:Tx):z46 [I t.height,.l 3 (t.ins.map eIn),.l 2 (t.outs.map z27)]=some [I (zb t)]:=zd (f:=fun t:Tx=>zb t) t trivial
noncomputable def z9c:z7:=spD (fun s:List UInt8=>s.length≤1000000000) fun s=>z20 s
theorem zd1 (s:List UInt8) (h:s.length≤1000000000):z9c [.s s]=some [I (z20 s).1,.b (z20 s).2]:=zd (p:=fun s:List UInt8=>s.length≤1000000000) (f:=fun s:List UInt8=>z20 s) s h
noncomputable def z8b:z7:=spD (fun _:List UInt8=>True) fun s=>z09 s
theorem zq3 (s:List UInt8):z8b [.s s]=some (eTx (z09 s).1++[I (z09 s).2]):=zd (f:=fun s:List UInt8=>z09 s) s trivial
attribute [local irreducible] z08 spD z1n itoa z8 z38 z1p z4u zr za zb z18
section
variable {α:Type} {f:α→List Dt} {sp:Nat→z7} {N:Nat} {E:Env}
theorem zd2 {sz:Nat} {a:Atom} {x:α} {l:List α} (ha:a.val E=some (.l sz ((x::l).map f))):denX sp E (.sub sz a (some (.c (.i .i64 1))) none)=some (.l sz (l.map f)):=by
 have hl:(x::l).length=l.length+1:=rfl
 rw [zs5 (m:=1) (n:=((x::l).length:Int)) ha rfl rfl (by omega) (by omega) (by omega)]
 simp
end
attribute [local irreducible] den denX z0r z14
def zea:T :=
 .lets [.call 42 [.v 0] 0,.call 42 [.v 0] 1] [] (.lets [.ise false (.v 2)] [] (.ite (.v 3) (.lets [.call 37 [.v 1] 0] [] (.lets [.bin .eql (.v 4) (.v 0)] [] (.ret [.v 1,.v 5])))
 (.ret [.v 1,.c (.b false)])))
def z00s:T :=
 .ite (.v 35) (.ret [.c (.i .i64 0),.c (.nil 3),.c (.nil 2),.c (.i .i64 1)]) (.lets [.mk 1 [[.v 33]]] [] (.lets [.app 1 (.v 29) (.v 36)] [] (.lets [.bin .add (.v 30) (.c (.i .i64
 1))] [] (.again 1 [.v 28,.v 37,.v 38]))))
def z00t:T :=
 .lets [.mk 3 [[.v 43,.v 44,.v 32]]] [] (.lets [.app 3 (.v 17) (.v 45)] [] (.lets [.bin .add (.v 19) (.c (.i .i64 1))] [] (.again 0 [.v 16,.v 46,.v 18,.v 47])))
def z00u:T :=
 .lets [] [.inr 1 (.v 29) (.c (.i .i64 0))] (.lets [.idx (.v 29) (.c (.i .i64 0)) 0] [] (.lets [] [.inr 1 (.v 29) (.c (.i .i64 1))] (.lets [.idx (.v 29) (.c (.i .i64 1)) 0] []
 z00t)))
def z00v:T :=
 .lets [.idx (.v 29) (.c (.i .i64 0)) 0] [] (.lets [.mk 2 [[.v 47,.v 32]]] [] (.lets [.app 2 (.v 16) (.v 48)] [] (.lets [.bin .add (.v 19) (.c (.i .i64 1))] [] (.again 0 [.v 49,.v
 17,.v 18,.v 50]))))
def z00w:T :=
 .lets [.bin .eql (.v 45) (.c (.i .i64 1))] [] (.ite (.v 46) (.lets [] [.inr 1 (.v 29) (.c (.i .i64 0))] z00v) (.ret [.c (.i .i64 0),.c (.nil 3),.c (.nil 2),.c (.i .i64
 1)]))
def z00x:T :=
 .lets [.bin .eql (.v 43) (.c (.s [111,117,116]))] [] (.ite (.v 44) (.lets [.len (.v 29)] [] z00w) (.ret [.c (.i .i64 0),.c (.nil 3),.c (.nil 2),.c (.i .i64 1)]))
def z00y:T :=
 .lets [.bin .eql (.v 41) (.c (.i .i64 0))] [] (.ite (.v 42) z00u (.lets [] [.inr 1 (.v 25) (.c (.i .i64 0))] (.lets [.idx (.v 25) (.c (.i .i64 0)) 0] [] z00x)))
def z00z:T :=
 .lets [.idx (.v 29) (.c (.i .i64 0)) 0] [] (.lets [.mk 2 [[.v 45,.v 32]]] [] (.lets [.app 2 (.v 16) (.v 46)] [] (.lets [.bin .add (.v 19) (.c (.i .i64 1))] [] (.again 0 [.v 47,.v
 17,.v 18,.v 48]))))
def z010:T :=
 .lets [.bin .eql (.v 43) (.c (.i .i64 1))] [] (.ite (.v 44) (.lets [] [.inr 1 (.v 29) (.c (.i .i64 0))] z00z) (.ret [.c (.i .i64 0),.c (.nil 3),.c (.nil 2),.c (.i .i64
 1)]))
def z011:T :=
 .lets [.bin .eql (.v 41) (.c (.s [111,117,116]))] [] (.ite (.v 42) (.lets [.len (.v 29)] [] z010) (.ret [.c (.i .i64 0),.c (.nil 3),.c (.nil 2),.c (.i .i64 1)]))
def zvp:T :=
 .lets [.bin .eql (.v 39) (.c (.i .i64 2))] [] (.ite (.v 40) (.lets [.len (.v 16)] [] z00y) (.lets [] [.inr 1 (.v 25) (.c (.i .i64 0))] (.lets [.idx (.v 25) (.c (.i .i64 0))
 0] [] z011)))
def zvq:T :=
 .lets [.idx (.v 29) (.c (.i .i64 0)) 0] [] (.lets [.mk 2 [[.v 43,.v 32]]] [] (.lets [.app 2 (.v 16) (.v 44)] [] (.lets [.bin .add (.v 19) (.c (.i .i64 1))] [] (.again 0 [.v 45,.v
 17,.v 18,.v 46]))))
def zvr:T :=
 .lets [.bin .eql (.v 41) (.c (.i .i64 1))] [] (.ite (.v 42) (.lets [] [.inr 1 (.v 29) (.c (.i .i64 0))] zvq) (.ret [.c (.i .i64 0),.c (.nil 3),.c (.nil 2),.c (.i .i64
 1)]))
def zvs:T :=
 .lets [.bin .eql (.v 39) (.c (.s [111,117,116]))] [] (.ite (.v 40) (.lets [.len (.v 29)] [] zvr) (.ret [.c (.i .i64 0),.c (.nil 3),.c (.nil 2),.c (.i .i64 1)]))
def zvt:T :=
 .lets [.bin .eql (.v 37) (.c (.s [105,110]))] [] (.ite (.v 38) (.lets [.len (.v 29)] [] zvp) (.lets [] [.inr 1 (.v 25) (.c (.i .i64 0))] (.lets [.idx (.v 25) (.c (.i .i64
 0)) 0] [] zvs)))
def zvu:T :=
 .ite (.v 36) (.ret [.c (.i .i64 0),.c (.nil 3),.c (.nil 2),.c (.i .i64 1)]) (.lets [] [.inr 1 (.v 25) (.c (.i .i64 0))] (.lets [.idx (.v 25) (.c (.i .i64 0)) 0] [] zvt))
def zvv:T :=
 .ite (.v 34) (.ret [.c (.i .i64 0),.c (.nil 3),.c (.nil 2),.c (.i .i64 1)]) (.lets [.call 49 [.v 21,.c (.s [58])] 0] [] (.lets [.not (.v 35)] [] zvu))
def zvw:T :=
 .ite (.v 31) (.lets [] [.inr 1 (.v 26) (.v 30)] (.lets [.idx (.v 26) (.v 30) 0] [] (.lets [.call 62 [.v 32] 0,.call 62 [.v 32] 1] [] (.lets [.not (.v 34)] [] z00s)))) (.lets
 [.call 57 [.v 23] 0,.call 57 [.v 23] 1] [] (.lets [.bin .neq (.v 33) (.c (.i .i64 0))] [] zvv))
def zvx:T :=
 .lets [.sub 1 (.v 25) (some (.c (.i .i64 1))) none] [] (.lets [.len (.v 26)] [] (.loop [.c (.b false),.c (.nil 1),.c (.i .i64 0)] (.lets [.bin .lss (.v 30) (.v 27)] []
 zvw)))
def zvy:T :=
 .lets [.call 48 [.v 21,.c (.s [58])] 0,.call 48 [.v 21,.c (.s [58])] 1,.call 48 [.v 21,.c (.s [58])] 2] [] (.lets [.call 41 [.v 22,.c (.s [32])] 0] [] zvx)
def zvz:T :=
 .lets [.bin .neq (.v 21) (.c (.i .i64 0))] [] (.ite (.v 22) (.ret [.c (.i .i64 0),.c (.nil 3),.c (.nil 2),.v 21]) (.ret [.v 9,.v 17,.v 16,.c (.i .i64 0)]))
def zw0:T :=
 .lets [.bin .lss (.v 19) (.v 15)] [] (.ite (.v 20) (.lets [] [.inr 1 (.v 14) (.v 19)] (.lets [.idx (.v 14) (.v 19) 0] [] zvy)) (.lets [.call 17 [.v 9,.v 17,.v 16] 0] []
 zvz))
def zw1:T :=
 .ite (.v 13) (.ret [.c (.i .i64 0),.c (.nil 3),.c (.nil 2),.c (.i .i64 1)]) (.lets [.sub 1 (.v 5) (some (.c (.i .i64 1))) none] [] (.lets [.len (.v 14)] [] (.loop [.c (.nil 2),
 .c (.nil 3),.c (.i .i64 0),.c (.i .i64 0)] zw0)))
def zw2:T :=
 .ite (.v 11) (.ret [.c (.i .i64 0),.c (.nil 3),.c (.nil 2),.c (.i .i64 1)]) (.lets [.not (.v 8)] [] (.ite (.v 12) (.ret [.c (.i .i64 0),.c (.nil 3),.c (.nil 2),.c (.i .i64
 1)]) (.lets [.not (.v 10)] [] zw1)))
def zw3:T :=
 .lets [.call 51 [.v 6,.c (.s [116,120,32])] 0,.call 51 [.v 6,.c (.s [116,120,32])] 1] [] (.lets [.call 62 [.v 7] 0,.call 62 [.v 7] 1] [] (.lets [.not (.v 4)] []
 zw2))
def zw4:T :=
 .lets [.call 52 [.v 0,.c (.s [10])] 0,.call 52 [.v 0,.c (.s [10])] 1] [] (.lets [.call 41 [.v 3,.c (.s [10])] 0] [] (.lets [] [.inr 1 (.v 5) (.c (.i .i64 0))] (.lets [.idx (.v
 5) (.c (.i .i64 0)) 0] [] zw3)))
def zfx:T :=
 .lets [.slen (.v 0)] [] (.lets [.bin .gtr (.v 1) (.c (.i .i64 4000))] [] (.ite (.v 2) (.ret [.c (.i .i64 0),.c (.nil 3),.c (.nil 2),.c (.i .i64 2)]) zw4))
attribute [local irreducible] z4r z1e
theorem z051:Meets Tryz.prog z9c 121 ⟨[.one],[(false,[.scal]),(false,[.scal])],true⟩:=by
 refine zn (sp:=(z0g [(37,z1e),(42,z4r)])) (sigs:=z0k) (cut:=[]) (hints:=[]) (fn:=Tryz.f121) (t:=zea) (by kernel_rfl) (by kernel_rfl) (by kernel_rfl) ?_ ?_
 ·exact (z04 (L:=[(37,z1e),(42,z4r)]) ⟨z6 rfl zb7,z6 rfl zsl,trivial⟩)
 ·rintro ds rs - h
  obtain ⟨w,hw,rfl,rfl⟩:=zl h
  clear h
  refine ⟨⟨1,?_⟩,z8v rfl rfl⟩
  show den _ _ zea [.s w] []=ret (z20 w)
  have a1:=zdw w hw
  unfold zea z20
  cases hi:(zr w).2.is with
  | true =>
   rw [hi] at a1
   repeat' (first|refine dqK rfl (a1) ?_|refine z4 (z5d rfl) ?_|exact z5 rfl rfl|refine z13 rfl ?_|fail)
  | false =>
   rw [hi] at a1
   repeat' (first|refine dq1 ?_|refine dqK rfl (a1) ?_|refine dqk rfl (z2x _) ?_|refine z4 (z5d rfl) ?_|exact z5 rfl rfl|refine z19 rfl ?_|fail)
attribute [local irreducible] z20 z6v z0x z66 z5i
attribute [local irreducible] z60 z61 z65 z4t z52 z0b z46
theorem z07x:Meets Tryz.prog z8b 55 ⟨[.one],[(true,[.scal,.pure,.pure]),(false,[.scal])],false⟩:=by
 refine z7i (sp:=(z0g [(17,z46),(41,z0b),(48,z52),(49,z4t),(51,z60),(52,z61),(57,z65),(62,z9c)])) (sigs:=z0k) (cut:=[]) (hints:=[⟨11,[.n 11 2 661 100 2,.c 11 2 661,.n 11 1 660 97 3,.c 11 1 660,.t 3,.t 54]⟩]) (fns:=[z9t 122 Tryz.f122 [⟨5,[.t 4,.r 9 3 1,.t 27]⟩] []]) (dep:=3) (pool:=600) (fn:=Tryz.f55) (t:=zfx) (by kernel_rfl) (by kernel_rfl) (by kernel_rfl) ?_ ?_ ?_
 ·exact (z2k (fn:=Tryz.f122) (by kernel_rfl) (by kernel_rfl) (by kernel_rfl) (by kernel_rfl) (by kernel_rfl) z8t)
 ·exact (z04 (L:=[(17,z46),(41,z0b),(48,z52),(49,z4t),(51,z60),(52,z61),(57,z65),(62,z9c)]) ⟨z6 rfl zo3,z6 rfl z6j,z6 rfl zsm,z6 rfl zou,z6 rfl zzy,z6 rfl zzz,z6 rfl z00p,z6 rfl z051,trivial⟩)
 ·rintro ds rs hok h
  obtain ⟨s,-,rfl,rfl⟩:=zl h
  clear h
  refine ⟨⟨s.length+5000,?_⟩,?_⟩
  ·show den _ _ zfx [.s s] []=ret (z09 s)
   rw [zof]
   unfold zfx
   repeat' (first|refine dq1 ?_|exact z5 rfl rfl|refine tR (fun h=>?_) fun h=>?_|fail)
   have hs4:s.length≤4000:=by omega
   have hrs:(Go.Lib.trimSuffix s [10]).length≤s.length:=by
    unfold Go.Lib.trimSuffix
    split
    ·simp
    ·exact Nat.le_refl _
   have hr4:(Go.Lib.trimSuffix s [10]).length≤4000:=by omega
   have hcl:=z3l 10 (Go.Lib.trimSuffix s [10])
   have a1:=zk8 s [10]
   have a2:=z2e (Go.Lib.trimSuffix s [10]) 10 (by omega)
   have hne:=z2p 10 (Go.Lib.trimSuffix s [10])
   generalize za 10 (Go.Lib.trimSuffix s [10])=l at *
   cases l with
   | nil=>exact absurd rfl hne
   | cons w0 ws =>
   simp only [List.headD_cons,List.drop_succ_cons,List.drop_zero]
   have hw0:w0.length≤4000:=by have:=hcl.2 w0 (by simp);omega
   have hx:(w0::ws)[0]? = some w0:=rfl
   have hln:(w0::ws).length=ws.length+1:=rfl
   have a3:=zk7 w0 tTx
   have ht0:(Go.Lib.trimPrefix w0 tTx).length≤4000:=by
    unfold Go.Lib.trimPrefix
    split
    ·simp;omega
    ·omega
   have a4:=zd1 (Go.Lib.trimPrefix w0 tTx) (by omega)
   generalize z20 (Go.Lib.trimPrefix w0 tTx)=nb at *
   obtain ⟨n,ok⟩:=nb
   generalize Go.Lib.trimPrefix w0 tTx=h0 at *
   generalize Go.Lib.hasPrefix w0 tTx=is at *
   generalize Go.Lib.hasSuffix s [10]=sfx at *
   generalize Go.Lib.trimSuffix s [10]=rest at *
   simp only at *
   repeat' (first|refine dq1 ?_|refine dqc ?_|refine dqK rfl (a1) ?_|refine dqk rfl (a2) ?_|refine dqK rfl (a3) ?_|refine dqK rfl (a4) ?_|refine z4 (zd2 rfl) ?_|exact z5 rfl rfl|((first|refine tN ?_ ?_|refine tG ?_ ?_) <;> intro h)|fail)
   (refine zy (fun (a:List Out × List In) k=>[.l 2 (a.1.map z27),.l 3 (a.2.map eIn),I 0,I k]) (fun (a:List Out × List In) _ (r:List (List UInt8))=>z0x n a.1 a.2 r) (fun a k=>a.1.length+a.2.length=k) ([],[]) ws ?_ ?_ ?_ ?_ ?_;rfl;exact rfl;omega)
   ·rintro ⟨o,i⟩ k x r hx hd hk ha again hag
    simp only at ha hag ⊢
    have hxl:x.length≤4000:=by have:=hcl.2 x (List.mem_cons_of_mem _ (List.mem_of_getElem? hx));omega
    rw [zvo]
    have b1:=zfn x [58] (by omega)
    have b2:=zki (Go.Lib.cut x [58]).2.1
    have b3:=zgr x [58] (by omega)
    have hc1:(Go.Lib.cut x [58]).1.length≤4000:=by
     unfold Go.Lib.cut
     split
     ·simp;omega
     ·simp only;omega
    have b4:=z2e (Go.Lib.cut x [58]).1 32 (by omega)
    have hcw:=z3l 32 (Go.Lib.cut x [58]).1
    have hne2:=z2p 32 (Go.Lib.cut x [58]).1
    generalize hc:Go.Lib.cut x [58]=c at *
    obtain ⟨hd0,q,fd⟩:=c
    simp only at *
    generalize hv:za 32 hd0=v at *
    cases v with
    | nil=>exact absurd rfl hne2
    | cons v0 vs =>
    generalize hr:z18 q=rd at *
    obtain ⟨l,e⟩:=rd
    have fe:=fun a=>z050 n r o i x a hc hv hr
    simp only [List.drop_succ_cons,List.drop_zero] at b2 ⊢
    have hv0:(v0::vs)[0]? = some v0:=rfl
    have hvn:(v0::vs).length=vs.length+1:=rfl
    repeat' (first|refine dq1 ?_|refine dqc ?_|refine dqK rfl (b1) ?_|refine dqk rfl (b4) ?_|refine z4 (zd2 rfl) ?_|refine dqT ?_|fail)
    (refine zy (fun (a:List Int) k=>[.b false,.l 1 (a.map z1c),I k]) (fun (a:List Int) _ (r':List (List UInt8))=>z66 n r (z6v o i x a r')) (fun a k=>a.length=k) [] vs ?_ ?_ ?_ ?_ ?_;rfl;exact rfl;omega)
    ·rintro a k' w r' hw hd' hk' ha' again' hag'
     try simp only at ha' hag' ⊢
     have hwl:w.length≤4000:=by have:=hcw.2 w (List.mem_cons_of_mem _ (List.mem_of_getElem? hw));omega
     rw [z00q]
     have b6:=zd1 w (by omega)
     generalize z20 w=nb at *
     obtain ⟨m,g⟩:=nb
     simp only at b6 ⊢
     cases g with
     | true =>
      rw [if_pos rfl]
      repeat' (first|refine dq1 ?_|refine dqc ?_|refine dqK rfl (b6) ?_|refine dqT ?_|refine z13 rfl ?_|fail)
      exact z9 rfl rfl (hag' (a++[m]) (by rw [List.length_append,ha'];rfl))
     | false =>
      rw [if_neg (by simp)]
      have e1:z66 n r none=(zTx,1):=by with_unfolding_all rfl
      rw [e1]
      repeat' (first|refine dq1 ?_|refine dqc ?_|refine dqK rfl (b6) ?_|exact z5 rfl rfl|refine dqT ?_|refine z19 rfl ?_|fail)
    ·rintro a ha' again'
     try simp only at ha' ⊢
     rw [z04z,fe a]
     repeat' (first|refine dq1 ?_|refine dqc ?_|refine dqK rfl (b2) ?_|refine dqk rfl (b3) ?_|exact z5 rfl rfl|((first|refine tR ?_ ?_|refine tG ?_ ?_) <;> intro h)|refine dqF ?_|fail)
     by_cases hI:v0=tIn∧a.length=2∧o.length=0
     ·obtain ⟨rfl,h2,h3⟩:=hI
      rw [if_pos ⟨rfl,h2,h3⟩]
      match a,h2,o,h3 with
      | [a0,a1],_,[],_ =>
      have x0:[a0,a1][0]? = some a0:=rfl
      have x1:[a0,a1][1]? = some a1:=rfl
      have xl:[a0,a1].length=2:=rfl
      have xo:([]:List Out).length=0:=rfl
      repeat' (first|refine dq1 ?_|refine dqc ?_|refine z4 (z1h rfl rfl (by simp)) ?_|refine z4 (z6g (x:=⟨⟨a0,a1⟩,l⟩) (fun _=>rfl) rfl rfl (by omega)) ?_|refine dqT ?_|refine z19 rfl ?_|fail)
      exact z9 rfl rfl (hag ([],i++[⟨⟨a0,a1⟩,l⟩]) (by simp;simp at ha;omega))
     ·rw [if_neg hI]
      by_cases hO:v0=z36∧a.length=1
      ·obtain ⟨rfl,h2⟩:=hO
       rw [if_pos ⟨rfl,h2⟩]
       match a,h2 with
       | [a0],_ =>
       have x0:[a0][0]? = some a0:=rfl
       have xl:[a0].length=1:=rfl
       repeat' (first|refine dq1 ?_|refine dqc ?_|refine z4 (z1h rfl rfl (by simp)) ?_|refine z4 (z6g (x:=⟨a0,l⟩) (fun _=>rfl) rfl rfl (by omega)) ?_|refine dqT ?_|refine z19 rfl ?_|refine z13 rfl ?_|fail)
       exact z9 rfl rfl (hag (o++[⟨a0,l⟩],i) (by simp;omega))
      ·rw [if_neg hO]
       by_cases c1:v0=tIn
       ·subst c1
        by_cases c2:a.length=2
        ·have c3:¬ o.length=0:=fun h=>hI ⟨rfl,c2,h⟩
         repeat' (first|refine dq1 ?_|refine dqc ?_|exact z5 rfl rfl|refine dqT ?_|refine dqF ?_|refine z19 rfl ?_|refine z13 rfl ?_|fail)
        ·repeat' (first|refine dq1 ?_|refine dqc ?_|exact z5 rfl rfl|refine dqF ?_|refine z19 rfl ?_|refine z13 rfl ?_|fail)
       ·by_cases c4:v0=z36
        ·subst c4
         have c5:¬ a.length=1:=fun h=>hO ⟨rfl,h⟩
         repeat' (first|refine dq1 ?_|refine dqc ?_|exact z5 rfl rfl|refine dqF ?_|refine z19 rfl ?_|fail)
        ·repeat' (first|refine dq1 ?_|refine dqc ?_|exact z5 rfl rfl|refine dqF ?_|fail)
   ·rintro ⟨o,i⟩ ha again
    simp only at ha ⊢
    have e0:z0x n o i []=if zb ⟨n,i,o⟩≠0 then (zTx,zb ⟨n,i,o⟩) else (⟨n,i,o⟩,0):=by with_unfolding_all rfl
    rw [e0]
    have b5:=zm6 ⟨n,i,o⟩
    simp only at b5
    repeat' (first|refine dq1 ?_|refine dqk rfl (b5) ?_|exact z5 rfl rfl|refine tR (fun h=>?_) fun h=>?_|refine dqF ?_|fail)
  ·intro i d hi hd
   match i,hi,hd with
   | 0,_,hd =>
    obtain rfl:I (z09 s).1.height=d:=Option.some.inj hd
    rfl
   | 1,hi,_=>simp [zh] at hi
   | 2,hi,_=>simp [zh] at hi
   | 3,_,hd =>
    obtain rfl:I (z09 s).2=d:=Option.some.inj hd
    rfl
   | i+4,hi,hd=>simp [zh] at hi
end
section
open Go.Lib (itoa)
open Go.RowKit
def tBlk:List UInt8:=[98,108,111,99,107]
def z11:List UInt8:=[10,116,120,32]
def zch:Block:=⟨0,0,0,0,[]⟩
abbrev z8c:=Int × Int × Int × Int
def set4 (o:z8c) (k:Nat) (n:Int):z8c:=match k with
 | 0=>(n,o.2)
 | 1=>(o.1,n,o.2.2)
 | 2=>(o.1,o.2.1,n,o.2.2.2)
 | _=>(o.1,o.2.1,o.2.2.1,n)
def zeb (o:z8c) (k:Nat):List (List UInt8)→z8c × Bool
 | []=>(o,true)
 | x::r=>if (z20 x).2=true then zeb (set4 o k (z20 x).1) (k+1) r else (o,false)
def z21 (s:List UInt8):z8c × Bool :=
 if ((za 32 s).length:Int)≠5 then ((0,0,0,0),false) else
 if (za 32 s).headD []≠tBlk then ((0,0,0,0),false) else zeb (0,0,0,0) 0 ((za 32 s).drop 1)
def z4v (s:List UInt8):Int:=Go.Lib.index (s.drop 1) z11
def z5a (s:List UInt8):List UInt8:=if 0≤z4v s then s.take (z4v s+2).toNat else s
def z10:Nat→List UInt8→List (List UInt8)
 | 0,_=>[]
 | f+1,s=>if s=[] then [] else z5a s::z10 f (s.drop (z5a s).length)
def zw5 (h:z8c) (l:List Tx):Block × Int:=if ze ⟨h.1,h.2.1,h.2.2.1,h.2.2.2,l⟩≠0 then (zch,ze ⟨h.1,h.2.1,h.2.2.1,h.2.2.2,l⟩) else (⟨h.1,h.2.1,h.2.2.1,h.2.2.2,l⟩,0)
def z1y (h:z8c) (l:List Tx):List (List UInt8)→Block × Int
 | []=>zw5 h l
 | p::r=>if (z09 p).2≠0 then (zch,(z09 p).2) else z1y h (l++[(z09 p).1]) r
def z0m (s:List UInt8):Block × Int :=
 if 4000<(s.length:Int) then (zch,2) else
 if (z21 (Go.Lib.cut s [10]).1).2=true then z1y (z21 (Go.Lib.cut s [10]).1).1 [] (z10 (Go.Lib.cut s [10]).2.1.length (Go.Lib.cut s [10]).2.1) else (zch,1)
theorem zbh (p:List UInt8):∀ s:List UInt8,-1≤Go.Lib.index s p∧(p≠[]→Go.Lib.index s p<(s.length:Int)∨Go.Lib.index s p = -1)
 | []=>by
  unfold Go.Lib.index
  split
  ·rename_i h
   refine ⟨by omega,fun hp=>?_⟩
   cases p with
   | nil=>exact absurd rfl hp
   | cons a p=>cases h
  ·exact ⟨by omega,fun _=>.inr rfl⟩
 | b::s=>by
  obtain ⟨h1,h2⟩:=zbh p s
  unfold Go.Lib.index
  split
  ·exact ⟨by omega,fun _=>.inl (by simp only [List.length_cons];omega)⟩
  ·split
   ·exact ⟨by omega,fun _=>.inr rfl⟩
   ·refine ⟨by omega,fun hp=>?_⟩
    rename_i hne
    have hne':Go.Lib.index s p ≠ -1:=by simpa using hne
    rcases h2 hp with h|h
    ·exact .inl (by simp only [List.length_cons];omega)
    ·exact absurd h hne'
theorem z07y {s:List UInt8} (h:s≠[]) (h0:0≤z4v s):z4v s+1<(s.length:Int):=by
 unfold z4v at *
 have:=(zbh z11 (s.drop 1)).2 (by decide)
 rw [List.length_drop] at this
 have:0<s.length:=List.length_pos_iff.2 h
 omega
theorem zi8 {s:List UInt8} (h:s≠[]):z5a s≠[]:=by
 unfold z5a
 split
 ·rename_i h0
  intro e
  have:=congrArg List.length e
  rw [List.length_take,List.length_nil] at this
  have:0<s.length:=List.length_pos_iff.2 h
  omega
 ·exact h
theorem zfy (s:List UInt8):s=z5a s++s.drop (z5a s).length:=by
 unfold z5a
 split
 ·rw [List.length_take]
  rcases Nat.le_total (z4v s+2).toNat s.length with h|h
  ·rw [Nat.min_eq_left h,List.take_append_drop]
  ·rw [Nat.min_eq_right h,List.take_of_length_le h];simp
 ·simp
theorem zec:∀ (f:Nat) (s:List UInt8),s.length≤f→(z10 f s).flatten=s∧(z10 f s).length≤s.length∧∀ p ∈ z10 f s,p≠[]
 | 0,s,h=>by
  obtain rfl:s=[]:=List.eq_nil_of_length_eq_zero (by omega)
  simp [z10]
 | f+1,s,h=>by
  unfold z10
  by_cases hs:s=[]
  ·subst hs;simp
  ·rw [if_neg hs]
   have hp:=zi8 hs
   have hpl:0<(z5a s).length:=List.length_pos_iff.2 hp
   have he:=zfy s
   have hl:=congrArg List.length he
   rw [List.length_append] at hl
   obtain ⟨i1,i2,i3⟩:=zec f (s.drop (z5a s).length) (by omega)
   refine ⟨by rw [List.flatten_cons,i1,← he],by simp only [List.length_cons];omega,fun p hm=>?_⟩
   rcases List.mem_cons.1 hm with rfl|hm
   ·exact hp
   ·exact i3 p hm
theorem z0b4 {b:UInt8} (hb:b≠10) (s:List UInt8):Go.Lib.index (b::s) z11=if Go.Lib.index s z11 = -1 then -1 else Go.Lib.index s z11+1:=by
 rw [Go.Lib.index]
 have hp:List.isPrefixOf z11 (b::s)=false:=by
  simp only [z11,List.isPrefixOf,Bool.and_eq_false_imp,beq_iff_eq]
  intro h;exact absurd h.symm hb
 rw [hp]
 simp
theorem z0gb {s:List UInt8} (h:List.isPrefixOf tTx s=false):Go.Lib.index (10::s) z11=if Go.Lib.index s z11 = -1 then -1 else Go.Lib.index s z11+1:=by
 rw [Go.Lib.index]
 have hp:List.isPrefixOf z11 (10::s)=false:=by
  have:List.isPrefixOf z11 (10::s)=List.isPrefixOf tTx s:=by simp [z11,tTx,List.isPrefixOf]
  rw [this,h]
 rw [hp]
 simp
theorem z0e2 (s:List UInt8):Go.Lib.index (10::(tTx++s)) z11=0:=by
 rw [Go.Lib.index]
 have hp:List.isPrefixOf z11 (10::(tTx++s))=true:=by
  rw [List.isPrefixOf_iff_prefix]
  exact List.prefix_append z11 s
 rw [hp]
 rfl
structure PlainL (l:List UInt8):Prop where
 ne:∀ b ∈ l,b≠10
 no:∀ s,List.isPrefixOf tTx (l++s)=false
end
section
open Go.Lib (itoa)
open Go.RowKit
set_option maxRecDepth 100000
def zk:List UInt8→List (List UInt8)
 | []=>[[]]
 | b::l=>if b=10 then [10]::zk l else match zk l with
  | []=>[[b]]
  | x::xs=>(b::x)::xs
theorem z67:∀ s:List UInt8,(∀ b ∈ s,b≠10)→zk s=[s]
 | [],_=>rfl
 | b::s,h=>by
  rw [zk,if_neg (h b (by simp)),z67 s fun y hy=>h y (List.mem_cons_of_mem _ hy)]
theorem z8d:∀ (x l:List UInt8),(∀ b ∈ x,b≠10)→zk (x++10::l)=(x++[10])::zk l
 | [],l,_=>by rw [List.nil_append,zk,if_pos rfl];rfl
 | b::x,l,h=>by
  rw [List.cons_append,zk,if_neg (h b (by simp)),z8d x l fun y hy=>h y (List.mem_cons_of_mem _ hy)]
  rfl
theorem zw6:∀ (n:Nat) (s:List UInt8),s.length≤n→Go.Lib.splitK [10] 1 (Go.Lib.count s [10]) s=zk s:=by
 intro n
 induction n with
 | zero =>
  intro s hs
  obtain rfl:s=[]:=List.eq_nil_of_length_eq_zero (by omega)
  rw [Go.Lib.count_miss (by simp [Go.Lib.index])]
  rfl
 | succ n ih =>
  intro s hs
  rcases z7j 10 s with ⟨h1,h2⟩|⟨x,l,rfl,h2,h3⟩
  ·rw [Go.Lib.count_miss h1,z67 s h2]
   rfl
  ·have hd:(x++10::l).drop (x.length+1)=l:=by
    rw [← List.drop_drop,List.drop_left];rfl
   have ht:(x++10::l).take (x.length+1)=x++[10]:=by
    rw [List.take_append,List.take_of_length_le (by omega)]
    simp
   have hl:l.length≤n:=by simp at hs;omega
   rw [Go.Lib.count_hit (by simp) h3,show ([10]:List UInt8).length=1 from rfl,hd,Nat.add_comm,Go.Lib.splitK,if_neg (by rw [h3];simp),h3,z8d x l h2]
   simp only [Int.toNat_natCast,show ([10]:List UInt8).length=1 from rfl,hd,ht]
   rw [← ih l hl]
def grp (a:List (List UInt8)):List (List UInt8)→List (List UInt8)
 | []=>a
 | x::r=>if x=[] then grp a r else if a=[]∨Go.Lib.hasPrefix x tTx=true then grp (a++[x]) r else grp (a.dropLast++[a.getLastD []++x]) r
def z2t (p:UInt8):List UInt8→List UInt8 × List UInt8
 | []=>([],[])
 | c::r=>if p=10∧Go.Lib.hasPrefix (c::r) tTx=true then ([],c::r) else (c::(z2t c r).1,(z2t c r).2)
theorem zkk:∀ (r:List UInt8) (p:UInt8),¬ (p=10∧Go.Lib.hasPrefix r tTx=true)→z2t p r=if Go.Lib.index r z11 = -1 then (r,[]) else (r.take (Go.Lib.index r z11+1).toNat,r.drop (Go.Lib.index r z11+1).toNat)
 | [],p,_=>by
  rw [if_pos (by decide)];rfl
 | c::r,p,h=>by
  rw [z2t,if_neg h]
  by_cases hc:c=10∧Go.Lib.hasPrefix r tTx=true
  ·obtain ⟨rfl,hp⟩:=hc
   have hp':=hp
   unfold Go.Lib.hasPrefix at hp'
   rw [List.isPrefixOf_iff_prefix] at hp'
   obtain ⟨m,rfl⟩:=hp'
   rw [z0e2,if_neg (by decide)]
   have e:z2t 10 (tTx++m)=([],tTx++m):=by
    have e1:tTx++m=116::([120,32]++m):=rfl
    rw [e1] at hp ⊢
    rw [z2t,if_pos ⟨rfl,hp⟩]
   rw [e]
   rfl
  ·rw [zkk r c hc]
   have hi:Go.Lib.index (c::r) z11=if Go.Lib.index r z11 = -1 then -1 else Go.Lib.index r z11+1:=by
    by_cases h10:c=10
    ·subst h10
     refine z0gb ?_
     have:¬ Go.Lib.hasPrefix r tTx=true:=fun k=>hc ⟨rfl,k⟩
     unfold Go.Lib.hasPrefix at this
     exact Bool.eq_false_iff.2 this
    ·exact z0b4 h10 r
   have hle:=(zbh z11 r).1
   rw [hi]
   by_cases hr:Go.Lib.index r z11 = -1
   ·rw [if_pos hr,if_pos hr,if_pos rfl]
   ·rw [if_neg hr,if_neg hr,if_neg (by omega)]
    rw [show (Go.Lib.index r z11+1+1).toNat=(Go.Lib.index r z11+1).toNat+1 by omega,List.take_succ_cons,List.drop_succ_cons]
theorem z07z {c:UInt8} (r:List UInt8) (h:c≠10):z5a (c::r)=c::(z2t c r).1∧(c::r).drop (z5a (c::r)).length=(z2t c r).2:=by
 have e:=zkk r c fun k=>h k.1
 have hle:=(zbh z11 r).1
 have hlt:=(zbh z11 r).2 (by decide)
 rw [e]
 unfold z5a
 rw [show z4v (c::r)=Go.Lib.index r z11 from rfl]
 by_cases hr:Go.Lib.index r z11 = -1
 ·rw [if_pos hr,if_neg (by omega)]
  exact ⟨rfl,by simp⟩
 ·rw [if_neg hr,if_pos (by omega),show (Go.Lib.index r z11+2).toNat=(Go.Lib.index r z11+1).toNat+1 by omega]
  refine ⟨rfl,?_⟩
  rw [List.take_succ_cons,List.length_cons,List.drop_succ_cons,List.length_take,Nat.min_eq_left (by omega)]
theorem zfz:∀ (x:List UInt8) (p:UInt8) (t:List UInt8),(∀ b ∈ x,b≠10)→¬ (p=10∧Go.Lib.hasPrefix (x++10::t) tTx=true)→z2t p (x++10::t)=(x++10::(z2t 10 t).1,(z2t 10 t).2)
 | [],p,t,_,h=>by
  rw [List.nil_append] at h ⊢
  rw [z2t,if_neg h]
  rfl
 | b::x,p,t,hx,h=>by
  rw [List.cons_append] at h ⊢
  rw [z2t,if_neg h,zfz x b t (fun y hy=>hx y (List.mem_cons_of_mem _ hy)) fun k=>hx b (by simp) k.1]
  rfl
theorem zed:∀ (x:List UInt8) (p:UInt8),(∀ b ∈ x,b≠10)→¬ (p=10∧Go.Lib.hasPrefix x tTx=true)→z2t p x=(x,[])
 | [],p,_,_=>rfl
 | b::x,p,hx,h=>by
  rw [z2t,if_neg h,zed x b (fun y hy=>hx y (List.mem_cons_of_mem _ hy)) fun k=>hx b (by simp) k.1]
theorem zog:∀ (t:List UInt8) (p:UInt8),(z2t p t).2=[]∨Go.Lib.hasPrefix (z2t p t).2 tTx=true
 | [],p=>.inl rfl
 | c::r,p=>by
  rw [z2t]
  by_cases h:p=10∧Go.Lib.hasPrefix (c::r) tTx=true
  ·rw [if_pos h];exact .inr h.2
  ·rw [if_neg h];exact zog r c
theorem zw7:∀ (t:List UInt8) (p:UInt8),(z2t p t).1.length+(z2t p t).2.length=t.length
 | [],p=>rfl
 | c::r,p=>by
  rw [z2t]
  by_cases h:p=10∧Go.Lib.hasPrefix (c::r) tTx=true
  ·rw [if_pos h];simp
  ·rw [if_neg h]
   have:=zw7 r c
   simp only [List.length_cons]
   omega
theorem zw8 {x:List UInt8} (t:List UInt8) (hx:∀ b ∈ x,b≠10):Go.Lib.hasPrefix (x++[10]) tTx=Go.Lib.hasPrefix (x++10::t) tTx:=by
 unfold Go.Lib.hasPrefix
 match x,hx with
 | [],_=>simp [tTx,List.isPrefixOf]
 | [a],_=>simp [tTx,List.isPrefixOf]
 | [a,b],_=>simp [tTx,List.isPrefixOf]
 | a::b::c::x,_=>simp [tTx,List.isPrefixOf]
theorem z0b5:∀ (n:Nat) (t:List UInt8) (a:List (List UInt8)) (p:List UInt8),t.length≤n→grp (a++[p]) (zk t)=grp (a++[p++(z2t 10 t).1]) (zk (z2t 10 t).2):=by
 intro n
 induction n with
 | zero =>
  intro t a p h
  obtain rfl:t=[]:=List.eq_nil_of_length_eq_zero (by omega)
  show grp (a++[p]) (zk [])=grp (a++[p++[]]) (zk [])
  rw [List.append_nil]
 | succ n ih =>
  intro t a p h
  by_cases hp:Go.Lib.hasPrefix t tTx=true
  ·have e:z2t 10 t=([],t):=by
    cases t with
    | nil=>rfl
    | cons c t=>rw [z2t,if_pos ⟨rfl,hp⟩]
   rw [e]
   show grp (a++[p]) (zk t)=grp (a++[p++[]]) (zk t)
   rw [List.append_nil]
  ·rcases z7j 10 t with ⟨-,h2⟩|⟨x,l,rfl,h2,-⟩
   ·rw [zed t 10 h2 fun k=>hp k.2,z67 t h2]
    have hnil:∀ b:List (List UInt8),grp b (zk [])=b:=fun b=>by
     show grp b [[]]=b
     rw [grp,if_pos rfl,grp]
    show grp (a++[p]) [t]=grp (a++[p++t]) (zk [])
    rw [hnil,grp]
    by_cases ht:t=[]
    ·subst ht;rw [if_pos rfl,List.append_nil,grp]
    ·rw [if_neg ht,if_neg (by rintro (k|k);simp at k;exact hp k),grp]
     simp
   ·rw [zfz x 10 l h2 fun k=>hp k.2,z8d x l h2,grp,if_neg (by simp),if_neg (by rintro (k|k);simp at k;rw [zw8 l h2] at k;exact hp k)]
    have hl:l.length≤n:=by simp at h;omega
    have e:(a++[p]).dropLast++[(a++[p]).getLastD []++(x++[10])]=a++[p++(x++[10])]:=by simp
    rw [e,ih l a _ hl]
    simp
theorem z052:∀ (n:Nat) (s:List UInt8) (a:List (List UInt8)) (f:Nat),s.length≤n→s.length≤f→(s=[]∨s.head? ≠ some 10∧(a=[]∨Go.Lib.hasPrefix s tTx=true))→grp a (zk s)=a++z10 f s:=by
 intro n
 induction n with
 | zero =>
  intro s a f h hf _
  obtain rfl:s=[]:=List.eq_nil_of_length_eq_zero (by omega)
  have:z10 f []=[]:=by cases f <;> simp [z10]
  rw [this]
  simp [zk,grp]
 | succ n ih =>
  intro s a f h hf hs
  cases s with
  | nil =>
   have:z10 f []=[]:=by cases f <;> simp [z10]
   rw [this]
   simp [zk,grp]
  | cons c r =>
   rcases hs with hs|⟨hs,ha⟩
   ·cases hs
   have hc:c≠10:=fun e=>hs (by rw [e];rfl)
   obtain ⟨f,rfl⟩:∃ g,f=g+1:=⟨f - 1,by simp only [List.length_cons] at hf;omega⟩
   obtain ⟨p1,p2⟩:=z07z r hc
   have hlen:=zw7 r c
   have hrest:=zog r c
   rw [z10,if_neg (by simp),p2,p1]
   simp only [List.length_cons] at h hf
   have hnext:∀ b:List (List UInt8),grp b (zk (z2t c r).2)=b++z10 f (z2t c r).2:=by
    intro b
    refine ih _ b f (by omega) (by omega) ?_
    rcases hrest with hr|hr
    ·exact .inl hr
    ·refine .inr ⟨?_,.inr hr⟩
     unfold Go.Lib.hasPrefix at hr
     rw [List.isPrefixOf_iff_prefix] at hr
     obtain ⟨m,hm⟩:=hr
     rw [← hm]
     show some (116:UInt8)≠some 10
     decide
   rcases z7j 10 (c::r) with ⟨-,h2⟩|⟨x,l,hx,h2,-⟩
   ·have hr2:∀ b ∈ r,b≠10:=fun y hy=>h2 y (List.mem_cons_of_mem _ hy)
    rw [z67 _ h2,zed r c hr2 fun k=>hc k.1,grp,if_neg (by simp),if_pos ha,grp]
    have:z10 f []=[]:=by cases f <;> simp [z10]
    rw [this]
   ·cases x with
    | nil =>
     simp only [List.nil_append,List.cons.injEq] at hx
     exact absurd hx.1 hc
    | cons d x =>
     simp only [List.cons_append,List.cons.injEq] at hx
     obtain ⟨rfl,rfl⟩:=hx
     have hx2:∀ b ∈ x,b≠10:=fun y hy=>h2 y (List.mem_cons_of_mem _ hy)
     have e0:=z8d (c::x) l h2
     rw [List.cons_append] at e0
     rw [e0,grp,if_neg (by simp),if_pos (by
      rcases ha with ha|ha
      ·exact .inl ha
      ·refine .inr ?_
       have:=zw8 l h2
       rw [this];exact ha),z0b5 l.length l a _ (Nat.le_refl _)]
     rw [zfz x c l hx2 fun k=>hc k.1] at hnext ⊢
     rw [hnext]
     simp
theorem zi9 {p:List UInt8}:∀ {a:List (List UInt8)},p ∈ a→p.length≤a.flatten.length
 | [],h=>by cases h
 | x::a,h=>by
  rw [List.flatten_cons,List.length_append]
  rcases List.mem_cons.1 h with rfl|h
  ·omega
  ·have:=zi9 h;omega
theorem zhe:∀ s:List UInt8,(zk s).flatten=s
 | []=>rfl
 | b::s=>by
  have ih:=zhe s
  rw [zk]
  by_cases hb:b=10
  ·rw [if_pos hb,List.flatten_cons,ih,hb];rfl
  ·rw [if_neg hb]
   cases hls:zk s with
   | nil=>rw [hls] at ih;rw [← ih];rfl
   | cons x xs=>rw [hls] at ih;rw [← ih];simp
theorem z053 (s:List UInt8):((zk s).drop 1).flatten.length≤s.length:=by
 have h:=congrArg List.length (zhe s)
 cases hl:zk s with
 | nil=>simp
 | cons x r =>
  rw [hl,List.flatten_cons,List.length_append] at h
  simp only [List.drop_succ_cons,List.drop_zero]
  omega
theorem zbi:∀ (ls:List (List UInt8)) (a:List (List UInt8)) (p:List UInt8),∃ q r,grp (p::a) ls=(p++q)::r
 | [],a,p=>⟨[],a,by rw [grp,List.append_nil]⟩
 | x::ls,a,p=>by
  rw [grp]
  by_cases h1:x=[]
  ·rw [if_pos h1];exact zbi ls a p
  rw [if_neg h1]
  by_cases h2:p::a=[]∨Go.Lib.hasPrefix x tTx=true
  ·rw [if_pos h2,List.cons_append];exact zbi ls _ p
  rw [if_neg h2]
  cases a with
  | nil =>
   obtain ⟨q,r,e⟩:=zbi ls [] (p++x)
   refine ⟨x++q,r,?_⟩
   rw [← List.append_assoc]
   exact e
  | cons y a =>
   have e:(p::y::a).dropLast++[(p::y::a).getLastD []++x]=p::((y::a).dropLast++[(y::a).getLastD []++x]):=by simp
   rw [e]
   exact zbi ls _ p
theorem zoh {q:List UInt8} (h:(10::q:List UInt8).length≤4000):(z09 (10::q)).2=1:=by
 unfold z09
 rw [if_neg (by omega)]
 by_cases hs:Go.Lib.hasSuffix (10::q) [10]=false
 ·rw [if_pos hs]
 rw [if_neg hs]
 have hh:(za 10 (Go.Lib.trimSuffix (10::q) [10])).headD []=[]:=by
  have hs2:Go.Lib.hasSuffix (10::q) [10]=true:=by simpa using hs
  unfold Go.Lib.trimSuffix
  rw [hs2,if_pos rfl]
  cases q with
  | nil=>rfl
  | cons c q =>
   have e:(10::c::q:List UInt8).take ((10::c::q:List UInt8).length - ([10]:List UInt8).length)=10::(c::q).take q.length:=by
    rw [show (10::c::q:List UInt8).length - ([10]:List UInt8).length=q.length+1 by simp,List.take_succ_cons]
   rw [e,za,if_pos rfl]
   rfl
 rw [hh]
 rfl
theorem z012 (h:z8c) {l:List UInt8} (hl:l.length≤4000):z1y h [] (grp [] (zk l))=z1y h [] (z10 l.length l):=by
 cases l with
 | nil=>rfl
 | cons c r =>
  by_cases hc:c=10
  ·subst hc
   rw [zk,if_pos rfl,grp,if_neg (by simp),if_pos (.inl rfl)]
   obtain ⟨q,z,e⟩:=zbi (zk r) [] [10]
   rw [List.nil_append,e]
   have hall:=zec (10::r).length (10::r) (Nat.le_refl _)
   rw [show (10::r).length=r.length+1 from rfl] at *
   rw [z10,if_neg (by simp)] at *
   have hp:=zfy (10::r)
   have hne:=zi8 (s:=10::r) (by simp)
   generalize hpp:z5a (10::r)=p at *
   cases p with
   | nil=>exact absurd rfl hne
   | cons d p =>
    have hd:(10:UInt8)=d:=by
     rw [List.cons_append] at hp
     injection hp
    subst hd
    have hlen:r.length+1=(p.length+1)+((10::r).drop (p.length+1)).length:=by
     have:=congrArg List.length hp
     rw [List.length_append] at this
     simpa using this
    have h1:=zoh (q:=p) (by simp only [List.length_cons] at hl ⊢;omega)
    have h2:(z09 ([10]++q)).2=1:=by
     refine zoh (q:=q) ?_
     have hg:∀ (ls:List (List UInt8)) (a:List (List UInt8)),(grp a ls).flatten=a.flatten++ls.flatten:=by
      intro ls
      induction ls with
      | nil=>intro a;simp [grp]
      | cons x ls ih =>
       intro a
       rw [grp]
       by_cases k1:x=[]
       ·subst k1;rw [if_pos rfl,ih];simp
       rw [if_neg k1]
       by_cases k2:a=[]∨Go.Lib.hasPrefix x tTx=true
       ·rw [if_pos k2,ih];simp
       rw [if_neg k2,ih]
       obtain ⟨b,y,rfl⟩:∃ b y,a=b++[y]:=by
        rcases List.eq_nil_or_concat a with k|⟨b,y,k⟩
        ·exact absurd (.inl k) k2
        ·exact ⟨b,y,by simpa using k⟩
       simp
     have hf:∀ s:List UInt8,(zk s).flatten=s:=by
      intro s
      induction s with
      | nil=>rfl
      | cons b s ih =>
       rw [zk]
       by_cases hb:b=10
       ·rw [if_pos hb,List.flatten_cons,ih,hb];rfl
       ·rw [if_neg hb]
        cases hls:zk s with
        | nil=>rw [hls] at ih;rw [← ih];rfl
        | cons x xs=>rw [hls] at ih;rw [← ih];simp
     have hlen2:=congrArg List.length (congrArg List.flatten e)
     rw [hg,hf] at hlen2
     simp only [List.flatten_cons,List.length_append,List.flatten_nil,List.length_nil,List.length_cons] at hlen2 hl ⊢
     omega
    rw [z1y,z1y,h1,h2,if_pos (by decide),if_pos (by decide)]
  ·rw [z052 (c::r).length (c::r) [] (c::r).length (Nat.le_refl _) (Nat.le_refl _) (.inr ⟨by simpa using hc,.inl rfl⟩),List.nil_append]
def zd3 (K:List Int→Block × Int) (n:List Int):List (List UInt8)→Block × Int
 | []=>K n
 | x::r=>if (z20 x).2=false then (zch,1) else zd3 K (n++[(z20 x).1]) r
def zw9 (s:List UInt8):Block × Int :=
 if ((za 32 (Go.Lib.trimSuffix ((zk s).headD []) [10])).length:Int)≠5 then (zch,1) else
 if (za 32 (Go.Lib.trimSuffix ((zk s).headD []) [10])).headD []≠tBlk then (zch,1) else
 zd3 (fun n=>z1y (n.getD 0 0,n.getD 1 0,n.getD 2 0,n.getD 3 0) [] (grp [] ((zk s).drop 1))) [] ((za 32 (Go.Lib.trimSuffix ((zk s).headD []) [10])).drop 1)
theorem z054 (s:List UInt8):Go.Lib.trimSuffix ((zk s).headD []) [10]=(Go.Lib.cut s [10]).1∧(s.length≤4000→∀ h,z1y h [] (grp [] ((zk s).drop 1))=z1y h [] (z10 (Go.Lib.cut s [10]).2.1.length (Go.Lib.cut s [10]).2.1)):=by
 rcases z7j 10 s with ⟨h1,h2⟩|⟨x,l,rfl,h2,h3⟩
 ·have ec:Go.Lib.cut s [10]=(s,[],false):=by unfold Go.Lib.cut;rw [h1,if_neg (by decide)]
  rw [z67 s h2,ec]
  refine ⟨?_,fun _ h=>rfl⟩
  show Go.Lib.trimSuffix s [10]=s
  unfold Go.Lib.trimSuffix
  rw [if_neg]
  intro hs
  unfold Go.Lib.hasSuffix at hs
  rw [List.isSuffixOf_iff_suffix] at hs
  obtain ⟨q,rfl⟩:=hs
  exact h2 10 (by simp) rfl
 ·have ec:Go.Lib.cut (x++10::l) [10]=(x,l,true):=by
   unfold Go.Lib.cut
   rw [h3,if_pos (by omega),Int.toNat_natCast]
   have hd:(x++10::l).drop (x.length+1)=l:=by rw [← List.drop_drop,List.drop_left];rfl
   simp only [show ([10]:List UInt8).length=1 from rfl,hd,List.take_left']
  rw [z8d x l h2,ec]
  refine ⟨?_,fun hl h=>z012 h (by simp at hl ⊢;omega)⟩
  show Go.Lib.trimSuffix (x++[10]) [10]=x
  unfold Go.Lib.trimSuffix
  rw [if_pos (by unfold Go.Lib.hasSuffix;rw [List.isSuffixOf_iff_suffix];exact List.suffix_append _ _)]
  simp
theorem z013 {s:List UInt8} (hs:s.length≤4000):z0m s=zw9 s:=by
 obtain ⟨e1,e2⟩:=z054 s
 have e2:=e2 hs
 unfold z0m zw9
 rw [if_neg (by omega),e1]
 unfold z21
 generalize za 32 (Go.Lib.cut s [10]).1=w at *
 by_cases h5:(w.length:Int)≠5
 ·rw [if_pos h5,if_pos h5];rfl
 rw [if_neg h5,if_neg h5]
 by_cases hb:w.headD []≠tBlk
 ·rw [if_pos hb,if_pos hb];rfl
 rw [if_neg hb,if_neg hb]
 match w,h5 with
 | [w0,a,b,c,d],_ =>
  simp only [List.drop_succ_cons,List.drop_zero,zd3,zeb]
  cases ha:(z20 a).2
  ·rfl
  cases hb2:(z20 b).2
  ·rfl
  cases hc:(z20 c).2
  ·rfl
  cases hd:(z20 d).2
  ·rfl
  simp only [Bool.true_eq_false,if_true,if_false,e2,set4]
  rfl
 | [],h=>exact absurd (show (0:Int)≠5 by decide) h
 | [_],h=>exact absurd (show (1:Int)≠5 by decide) h
 | [_,_],h=>exact absurd (show (2:Int)≠5 by decide) h
 | [_,_,_],h=>exact absurd (show (3:Int)≠5 by decide) h
 | [_,_,_,_],h=>exact absurd (show (4:Int)≠5 by decide) h
 | _::_::_::_::_::_::r,h=>exact absurd (by simp only [List.length_cons];omega) h
end
section
open Go.RowKit
set_option maxRecDepth 100000
set_option maxHeartbeats 4000000
attribute [local irreducible] z08 spD z1n
def z055:T :=
 .lets [.call 10 [.v 9] 0] [] (.lets [] [.inr 6 (.v 4) (.v 3)] (.lets [.set (.v 4) (.v 3) 3 [.v 12]] [] (.lets [.bin .add (.v 3) (.c (.i .i64 1))] [] (.again 0 [.v 14,.v 13]))))
def z056:T :=
 .lets [] [.inr 6 (.v 4) (.v 3)] (.lets [.idx (.v 4) (.v 3) 0,.idx (.v 4) (.v 3) 1,.idx (.v 4) (.v 3) 2,.idx (.v 4) (.v 3) 3,.idx (.v 4) (.v 3) 4,.idx (.v 4) (.v 3) 5] []
 z055)
def zia:T :=
 .lets [.call 9 [.v 0] 0] [] (.lets [.len (.v 1)] [] (.loop [.c (.i .i64 0),.v 1] (.lets [.bin .lss (.v 3) (.v 2)] [] (.ite (.v 5) z056 (.ret [.v 4])))))
def z080:T :=
 .lets [.idx (.v 3) (.v 6) 0,.idx (.v 3) (.v 6) 1,.idx (.v 3) (.v 6) 2,.idx (.v 3) (.v 6) 3,.idx (.v 3) (.v 6) 4,.idx (.v 3) (.v 6) 5] [] (.lets [.bin .add (.v 5) (.v 10)] []
 (.lets [.bin .add (.v 6) (.c (.i .i64 1))] [] (.again 0 [.v 14,.v 15])))
def z081:T :=
 .lets [.idx (.v 2) (.v 10) 0,.idx (.v 2) (.v 10) 1] [] (.lets [.bin .sub (.v 9) (.v 12)] [] (.lets [.bin .add (.v 10) (.c (.i .i64 1))] [] (.again 1 [.v 14,.v 15])))
def z082:T :=
 .lets [.len (.v 2)] [] (.loop [.v 5,.c (.i .i64 0)] (.lets [.bin .lss (.v 10) (.v 8)] [] (.ite (.v 11) (.lets [] [.inr 2 (.v 2) (.v 10)] z081) (.ret [.v 9]))))
def zm7:T :=
 .lets [.len (.v 3)] [] (.loop [.c (.i .i64 0),.c (.i .i64 0)] (.lets [.bin .lss (.v 6) (.v 4)] [] (.ite (.v 7) (.lets [] [.inr 6 (.v 3) (.v 6)] z080) z082)))
def z8e (l:List Coin):Prop:=l.length≤1000000∧∀ c ∈ l,c.o.lock.length≤8796093022208
theorem CoinsOK.short {l:List Coin} (h:CoinsOK l):z8e l:=⟨by have:=h.len;omega,fun c hc=>by have:=z84 (z48 (h.good c hc)).2.2.2.2.2.2.2.2;omega⟩
noncomputable def zc3:z7:=spD z8e fun l=>l
theorem zwa (l:List Coin) (h:z8e l):zc3 [.l 6 (l.map z00)]=some [.l 6 (l.map z00)]:=zd (p:=z8e) (f:=fun l:List Coin=>l) l h
theorem z0b6:Meets Tryz.prog zc3 155 ⟨[.one],[(false,[.fresh 102 6])],false⟩:=by
 refine zn (sp:=(z0g [(9,zbz),(10,z8w)])) (sigs:=z0k) (cut:=[]) (hints:=[⟨3,[.t 9,.o 6]⟩]) (fn:=Tryz.f155) (t:=zia) (by kernel_rfl) (by kernel_rfl) (by kernel_rfl) ?_ ?_
 ·exact (z04 (L:=[(9,zbz),(10,z8w)]) ⟨z6 rfl z0ao,z6 rfl z07e,trivial⟩)
 ·rintro ds rs - h
  obtain ⟨l,⟨hl,hk⟩,rfl,rfl⟩:=zl h
  clear h
  refine ⟨⟨l.length+1,?_⟩,zzg (by simp [zh,CF.isScal])⟩
  show den _ _ zia [.l 6 (l.map z00)] []=ret l
  unfold zia
  repeat' (first|refine dq1 ?_|refine dqk rfl (zsh _ hl) ?_|fail)
  (refine zy (fun (_:Unit) k=>[I k,.l 6 (l.map z00)]) (fun _ _ _=>l) (fun _ _=>True) () l ?_ ?_ ?_ ?_ ?_;rfl;exact trivial;exact Nat.lt_succ_self _)
  ·rintro _ k c r hx hd hkl - again hag
   repeat' (first|refine dq1 ?_|refine dqc ?_|refine dqm ?_|refine dqk rfl (zdv _ (hk c (List.mem_of_getElem? hx))) ?_|refine dqT ?_|fail)
   refine z4 (z048 rfl rfl rfl (by omega) (by simp) (by exact hx) rfl) ?_
   repeat' (first|refine dq1 ?_|exact z9 rfl rfl (hag () trivial)|fail)
  ·intro _ _ again
   repeat' (first|refine dq1 ?_|exact z5 rfl rfl|refine dqF ?_|fail)
theorem z014 (l:List Coin):∀ s:Int,l.foldl (fun s c=>s+c.o.coin) s=s+zj l:=by
 induction l with
 | nil=>intro s;simp [zj]
 | cons c l ih=>intro s;rw [List.foldl_cons,ih,zj];omega
def z2z (t:Tx) (l:List Coin):Int:=t.outs.foldl (fun s o=>s - o.coin) (l.foldl (fun s c=>s+c.o.coin) 0)
def zd4 (x:Tx × List Coin):Prop:=x.2.length≤1000000∧(∀ c ∈ x.2,0≤c.o.coin∧c.o.coin≤1000000000)∧x.1.outs.length≤1000000∧∀ o ∈ x.1.outs,0≤o.coin∧o.coin≤1000000000
noncomputable def z7b:z7:=spD zd4 fun x=>z2z x.1 x.2
theorem zci (t:Tx) (l:List Coin) (h:zd4 (t,l)):z7b [I t.height,.l 3 (t.ins.map eIn),.l 2 (t.outs.map z27),.l 6 (l.map z00)]=some [I (z2z t l)]:=zd (p:=zd4) (f:=fun x:Tx × List Coin=>z2z x.1 x.2) (t,l) h
theorem z039:Meets Tryz.prog z7b 130 ⟨[.agg 3,.one],[(false,[.scal])],true⟩:=by
 refine zn (sp:=(z0g [])) (sigs:=z0k) (cut:=[]) (hints:=[⟨3,[.t 5,.t 12]⟩,⟨8,[.t 5,.t 25]⟩]) (fn:=Tryz.f130) (t:=zm7) (by kernel_rfl) (by kernel_rfl) (by kernel_rfl) ?_ ?_
 ·exact (z04 (L:=[]) trivial)
 ·rintro ds rs - h
  obtain ⟨⟨t,l⟩,⟨h1,h2,h3,h4⟩,rfl,rfl⟩:=zl h
  clear h
  simp only at h1 h2 h3 h4
  refine ⟨⟨l.length+t.outs.length+1,?_⟩,z0e rfl⟩
  show den _ _ zm7 [I t.height,.l 3 (t.ins.map eIn),.l 2 (t.outs.map z27),.l 6 (l.map z00)] []=ret (z2z t l)
  unfold zm7 z2z
  repeat' (first|refine dq1 ?_|fail)
  (refine zy (fun (s:Int) k=>[I s,I k]) (fun (s:Int) _ (r:List Coin)=>t.outs.foldl (fun s o=>s - o.coin) (r.foldl (fun s c=>s+c.o.coin) s)) (fun s k=>0≤s∧s≤k * 1000000000) (0:Int) l ?_ ?_ ?_ ?_ ?_;rfl;exact ⟨by omega,by omega⟩;omega)
  ·rintro s k c r hx hd hkl ⟨h0,h5⟩ again hag
   have hc:=h2 c (List.mem_of_getElem? hx)
   repeat' (first|refine dq1 ?_|refine dqc ?_|refine dqm ?_|refine dqT ?_|fail)
   exact z9 rfl rfl (hag (s+c.o.coin) ⟨by omega,by omega⟩)
  ·rintro s ⟨h0,h5⟩ again
   repeat' (first|refine dq1 ?_|refine dqF ?_|fail)
   (refine zy (fun (s:Int) k=>[I s,I k]) (fun (s:Int) _ (r:List Out)=>r.foldl (fun s o=>s - o.coin) s) (fun s k => - (k * 1000000000)≤s∧s≤l.length * 1000000000) s t.outs ?_ ?_ ?_ ?_ ?_;rfl;exact ⟨by omega,by omega⟩;omega)
   ·rintro s k c r hx hd hkl ⟨h0,h5⟩ again' hag
    have hc:=h4 c (List.mem_of_getElem? hx)
    repeat' (first|refine dq1 ?_|refine dqc ?_|refine dqm ?_|refine dqT ?_|fail)
    exact z9 rfl rfl (hag (s - c.coin) ⟨by omega,by omega⟩)
   ·rintro s ⟨h0,h5⟩ again'
    repeat' (first|refine dq1 ?_|exact z5 rfl rfl|refine dqF ?_|fail)
def z74:Coin:=⟨⟨0,0⟩,⟨0,[]⟩,0,false⟩
def zwb (l:List Coin) (p:Point):Coin × Int:=if zw l≠0 then (z74,zw l) else if z2g l p=true then ((l[zm l p]?).getD z74,0) else (z74,7)
end
section
open Go.RowKit
set_option maxRecDepth 100000
set_option maxHeartbeats 4000000
theorem zhf (l m:List Op):z7a [.l 2 (l.map eOp),.l 2 (m.map eOp)]=some [.b (decide (l=m))]:=zd (f:=fun x:List Op × List Op=>decide (x.1=x.2)) (l,m) trivial
theorem z03a:Meets Tryz.prog z7a 137 ⟨[.one,.one],[(false,[.scal])],true⟩ :=
 z97 (e:=fun x:{ x:List Op × List Op // True }=>Enc.e x.1) (d:=fun x=>.b (decide (x.1.1=x.1.2))) rfl (z0v (fn:=Tryz.f137) (by kernel_rfl) (by kernel_rfl) (by kernel_rfl)) (fun _=>rfl) fun x W F us hF h=>by
  obtain ⟨v,us,rfl,h1,h⟩:=zo h
  obtain ⟨v2,us,rfl,h2,h⟩:=zo h
  obtain rfl:=z0n h
  obtain ⟨A,n,c,rfl,k1⟩:=z4m z7z h1
  obtain ⟨A2,n2,c2,rfl,k2⟩:=z4m z7z h2
  refine (zi0 x.1.1 x.1.2 A A2 n c n2 c2 W F F k1 k2).mono ?_
  rintro r W' ⟨rfl,m,rfl⟩
  exact ⟨_,rfl,z91 (Below.refl _ _) m,.b _⟩
attribute [local irreducible] z08 spD z1n
theorem ok_l {α:Type} {sz:Nat} {l:List α} {f:α→List Dt} (h:Dt.ok (.l sz (l.map f))):l.length≤9223372036854775807:=by
 cases h with
 | l _ _ h1 _ _=>simpa using h1
theorem z0gc (x y:Out):(decide (x.coin=y.coin) && decide (x.lock=y.lock))=decide (x=y):=by
 cases x;cases y
 simp only [Out.mk.injEq,Bool.decide_and]
noncomputable def z68:z7:=spD (fun _:Out × Out=>True) fun x=>decide (x.1=x.2)
theorem zkl (x y:Out):z68 [I x.coin,.l 2 (x.lock.map eOp),I y.coin,.l 2 (y.lock.map eOp)]=some [.b (decide (x=y))]:=zd (f:=fun x:Out × Out=>decide (x.1=x.2)) (x,y) trivial
def zcj:T :=
 .lets [.bin .eql (.v 0) (.v 2)] [] (.ite (.v 4) (.lets [.call 20 [.v 1,.v 3] 0] [] (.ret [.v 5])) (.ret [.c (.b false)]))
theorem z015:Meets Tryz.prog z68 92 ⟨[.agg 2,.agg 2],[(false,[.scal])],true⟩:=by
 refine zn (sp:=(z0g [(20,z7a)])) (sigs:=z0k) (cut:=[]) (hints:=[]) (fn:=Tryz.f92) (t:=zcj) (by kernel_rfl) (by kernel_rfl) (by kernel_rfl) ?_ ?_
 ·exact (z04 (L:=[(20,z7a)]) ⟨z6 rfl z03a,trivial⟩)
 ·rintro ds rs - h
  obtain ⟨⟨x,y⟩,-,rfl,rfl⟩:=zl h
  clear h
  refine ⟨⟨1,?_⟩,z0e rfl⟩
  show den _ _ zcj [I x.coin,.l 2 (x.lock.map eOp),I y.coin,.l 2 (y.lock.map eOp)] []=ret (decide (x=y))
  rw [← z0gc]
  unfold zcj
  repeat' (first|refine dq1 ?_|refine dqk rfl (zhf _ _) ?_|exact z5 rfl rfl|refine tU (fun h=>?_) fun h=>?_|fail)
theorem zg0 {α:Type} [DecidableEq α] (l m:List α):decide (l=m)=if (l.length:Int)≠m.length then false else decide (l=m):=by
 by_cases h:(l.length:Int)≠m.length
 ·rw [if_pos h,decide_eq_false]
  rintro rfl
  exact h rfl
 ·rw [if_neg h]
end
section
open Go.RowKit
open Go.Lib (itoa)
set_option maxRecDepth 100000
set_option maxHeartbeats 4000000
theorem z0h2 (x y:In):(if x.p=y.p then decide (x.key=y.key) else false)=decide (x=y):=by
 cases x;cases y
 by_cases h:(‹Point› : Point)=‹Point› <;> simp only [In.mk.injEq,Bool.decide_and] <;> split <;> simp [*]
theorem z0h3 (t u:Tx):(if t.height=u.height then if decide (t.ins=u.ins)=true then decide (t.outs=u.outs) else false else false)=decide (t=u):=by
 cases t;cases u
 simp only [Tx.mk.injEq,Bool.decide_and]
 split <;> rename_i h
 ·split <;> rename_i h2
  ·simp [h,h2]
  ·simp [h,h2]
 ·simp [h]
noncomputable def zae:z7:=spD (fun _:In × In=>True) fun x=>decide (x.1=x.2)
theorem zq4 (x y:In):zae (eIn x++eIn y)=some [.b (decide (x=y))]:=zd (f:=fun x:In × In=>decide (x.1=x.2)) (x,y) trivial
noncomputable def zd5:z7:=spD (fun _:List In × List In=>True) fun x=>decide (x.1=x.2)
theorem z057 (l m:List In):zd5 [.l 3 (l.map eIn),.l 3 (m.map eIn)]=some [.b (decide (l=m))]:=zd (f:=fun x:List In × List In=>decide (x.1=x.2)) (l,m) trivial
noncomputable def zee:z7:=spD (fun _:List Out × List Out=>True) fun x=>decide (x.1=x.2)
theorem z016 (l m:List Out):zee [.l 2 (l.map z27),.l 2 (m.map z27)]=some [.b (decide (l=m))]:=zd (f:=fun x:List Out × List Out=>decide (x.1=x.2)) (l,m) trivial
noncomputable def z7o:z7:=spD (fun _:Tx × Tx=>True) fun x=>decide (x.1=x.2)
theorem zwc (x y:Tx):z7o (eTx x++eTx y)=some [.b (decide (x=y))]:=zd (f:=fun x:Tx × Tx=>decide (x.1=x.2)) (x,y) trivial
attribute [local irreducible] z08 spD z1n z8 zb
attribute [local irreducible] den denX z0r z14
def zg1:T :=
 .lets [.eqs false [(.v 0,.v 3),(.v 1,.v 4)]] [] (.ite (.v 6) (.lets [.call 20 [.v 2,.v 5] 0] [] (.ret [.v 7])) (.ret [.c (.b false)]))
def z0b8:T :=
 .lets [.call 66 [.v 9,.v 10,.v 11,.v 12,.v 13,.v 14] 0] [] (.lets [.not (.v 15)] [] (.ite (.v 16) (.ret [.c (.b false)]) (.lets [.bin .add (.v 7) (.c (.i .i64 1))] [] (.again 0
 [.v 6,.v 17]))))
def z0b9:T :=
 .lets [.idx (.v 0) (.v 7) 0,.idx (.v 0) (.v 7) 1,.idx (.v 0) (.v 7) 2] [] (.lets [] [.inr 3 (.v 1) (.v 7)] (.lets [.idx (.v 1) (.v 7) 0,.idx (.v 1) (.v 7) 1,.idx (.v 1) (.v 7)
 2] [] z0b8))
def z0ba:T :=
 .lets [.len (.v 0)] [] (.loop [.c (.b false),.c (.i .i64 0)] (.lets [.bin .lss (.v 7) (.v 5)] [] (.ite (.v 8) (.lets [] [.inr 3 (.v 0) (.v 7)] z0b9) (.ret [.c (.b true)]))))
def zwd:T :=
 .lets [.len (.v 0)] [] (.lets [.len (.v 1)] [] (.lets [.bin .neq (.v 2) (.v 3)] [] (.ite (.v 4) (.ret [.c (.b false)]) z0ba)))
def z083:T :=
 .lets [.call 21 [.v 9,.v 10,.v 11,.v 12] 0] [] (.lets [.not (.v 13)] [] (.ite (.v 14) (.ret [.c (.b false)]) (.lets [.bin .add (.v 7) (.c (.i .i64 1))] [] (.again 0 [.v 6,.v
 15]))))
def z084:T :=
 .lets [] [.inr 2 (.v 0) (.v 7)] (.lets [.idx (.v 0) (.v 7) 0,.idx (.v 0) (.v 7) 1] [] (.lets [] [.inr 2 (.v 1) (.v 7)] (.lets [.idx (.v 1) (.v 7) 0,.idx (.v 1) (.v 7) 1] []
 z083)))
def z085:T :=
 .ite (.v 4) (.ret [.c (.b false)]) (.lets [.len (.v 0)] [] (.loop [.c (.b false),.c (.i .i64 0)] (.lets [.bin .lss (.v 7) (.v 5)] [] (.ite (.v 8) z084 (.ret [.c (.b
 true)])))))
def zm8:T :=
 .lets [.len (.v 0)] [] (.lets [.len (.v 1)] [] (.lets [.bin .neq (.v 2) (.v 3)] [] z085))
def zib:T :=
 .lets [.bin .eql (.v 0) (.v 3)] [] (.ite (.v 6) (.lets [.call 67 [.v 1,.v 4] 0] [] (.ite (.v 7) (.lets [.call 68 [.v 2,.v 5] 0] [] (.ret [.v 8])) (.ret [.c (.b false)]))) (.ret
 [.c (.b false)]))
attribute [local irreducible] z7a
theorem z086:Meets Tryz.prog zae 136 ⟨[.agg 3,.agg 3],[(false,[.scal])],true⟩:=by
 refine zn (sp:=(z0g [(20,z7a)])) (sigs:=z0k) (cut:=[]) (hints:=[]) (fn:=Tryz.f136) (t:=zg1) (by kernel_rfl) (by kernel_rfl) (by kernel_rfl) ?_ ?_
 ·exact (z04 (L:=[(20,z7a)]) ⟨z6 rfl z03a,trivial⟩)
 ·rintro ds rs - h
  obtain ⟨⟨x,y⟩,-,rfl,rfl⟩:=zl h
  clear h
  refine ⟨⟨1,?_⟩,z0e rfl⟩
  show den _ _ zg1 [I x.p.tx,I x.p.at_,.l 2 (x.key.map eOp),I y.p.tx,I y.p.at_,.l 2 (y.key.map eOp)] []=ret (decide (x=y))
  rw [← z0h2]
  unfold zg1
  repeat' (first|refine dq1 ?_|refine dqk rfl (zhf _ _) ?_|exact z5 rfl rfl|refine tR (fun h=>?_) fun h=>?_|fail)
theorem z0gd:Meets Tryz.prog zd5 135 ⟨[.one,.one,.clos 136 []],[(false,[.scal])],true⟩:=by
 refine zn (sp:=(z0g [(66,zae)])) (sigs:=z0k) (cut:=[]) (hints:=[⟨4,[.t 6,.t 17]⟩]) (fn:=Tryz.f135) (t:=zwd) (by kernel_rfl) (by kernel_rfl) (by kernel_rfl) ?_ ?_
 ·exact (z04 (L:=[(66,zae)]) ⟨z6 rfl z086,trivial⟩)
 ·rintro ds rs hok h
  obtain ⟨⟨l,m⟩,-,rfl,rfl⟩:=zl h
  clear h
  have hll:=ok_l (hok (.l 3 (l.map eIn)) (List.mem_cons_self ..))
  refine ⟨⟨l.length+1,?_⟩,z0e rfl⟩
  show den _ _ zwd [.l 3 (l.map eIn),.l 3 (m.map eIn)] []=ret (decide (l=m))
  rw [zg0]
  unfold zwd
  repeat' (first|refine dq1 ?_|exact z5 rfl rfl|refine tR (fun h=>?_) fun h=>?_|fail)
  have hlm:l.length=m.length:=by omega
  (refine zy (fun (_:Unit) k=>[.b false,I k]) (fun (_:Unit) k (r:List In)=>decide (r=m.drop k)) (fun _ _=>True) () l ?_ ?_ ?_ ?_ ?_;rfl;exact trivial;exact Nat.lt_succ_self _)
  ·rintro _ k x r hx hd hk - again hag
   have hy:m[k]? = some (m[k]'(by omega)):=List.getElem?_eq_getElem (by omega)
   have hdy:m.drop k=m[k]'(by omega)::m.drop (k+1):=List.drop_eq_getElem_cons (by omega)
   rw [hdy]
   generalize m[k]'(by omega)=y at *
   have e:decide (x::r=y::m.drop (k+1))=if decide (x=y)=true then decide (r=m.drop (k+1)) else false:=by
    by_cases h:x=y
    ·simp [h]
    ·simp [h]
   rw [e]
   have hkm:k<m.length:=by omega
   repeat' (first|refine dq1 ?_|refine dqc ?_|refine dqm ?_|refine dqk rfl (zq4 x y) ?_|exact z5 rfl rfl|exact z9 rfl rfl (hag () trivial)|refine tN (fun h=>?_) fun h=>?_|refine dqT ?_|fail)
  ·rintro _ - again
   rw [hlm,List.drop_length]
   repeat' (first|refine dq1 ?_|exact z5 rfl rfl|refine dqF ?_|fail)
attribute [local irreducible] z68
theorem z0e3:Meets Tryz.prog zee 138 ⟨[.one,.one,.clos 92 []],[(false,[.scal])],true⟩:=by
 refine zn (sp:=(z0g [(21,z68)])) (sigs:=z0k) (cut:=[]) (hints:=[⟨4,[.t 6,.t 17]⟩]) (fn:=Tryz.f138) (t:=zm8) (by kernel_rfl) (by kernel_rfl) (by kernel_rfl) ?_ ?_
 ·exact (z04 (L:=[(21,z68)]) ⟨z6 rfl z015,trivial⟩)
 ·rintro ds rs hok h
  obtain ⟨⟨l,m⟩,-,rfl,rfl⟩:=zl h
  clear h
  have hll:=ok_l (hok (.l 2 (l.map z27)) (List.mem_cons_self ..))
  refine ⟨⟨l.length+1,?_⟩,z0e rfl⟩
  show den _ _ zm8 [.l 2 (l.map z27),.l 2 (m.map z27)] []=ret (decide (l=m))
  rw [zg0]
  unfold zm8
  repeat' (first|refine dq1 ?_|exact z5 rfl rfl|refine tR (fun h=>?_) fun h=>?_|fail)
  have hlm:l.length=m.length:=by omega
  (refine zy (fun (_:Unit) k=>[.b false,I k]) (fun (_:Unit) k (r:List Out)=>decide (r=m.drop k)) (fun _ _=>True) () l ?_ ?_ ?_ ?_ ?_;rfl;exact trivial;exact Nat.lt_succ_self _)
  ·rintro _ k x r hx hd hk - again hag
   have hy:m[k]? = some (m[k]'(by omega)):=List.getElem?_eq_getElem (by omega)
   have hdy:m.drop k=m[k]'(by omega)::m.drop (k+1):=List.drop_eq_getElem_cons (by omega)
   rw [hdy]
   generalize m[k]'(by omega)=y at *
   have e:decide (x::r=y::m.drop (k+1))=if decide (x=y)=true then decide (r=m.drop (k+1)) else false:=by
    by_cases h:x=y
    ·simp [h]
    ·simp [h]
   rw [e]
   have hkm:k<m.length:=by omega
   repeat' (first|refine dq1 ?_|refine dqc ?_|refine dqm ?_|refine dqk rfl (zkl x y) ?_|exact z5 rfl rfl|exact z9 rfl rfl (hag () trivial)|refine tN (fun h=>?_) fun h=>?_|refine dqT ?_|fail)
  ·rintro _ - again
   rw [hlm,List.drop_length]
   repeat' (first|refine dq1 ?_|exact z5 rfl rfl|refine dqF ?_|fail)
attribute [local irreducible] zd5
theorem z0bb:Meets Tryz.prog z7o 62 ⟨[.agg 3,.agg 3],[(false,[.scal])],true⟩:=by
 refine zn (sp:=(z0g [(67,zd5),(68,zee)])) (sigs:=z0k) (cut:=[]) (hints:=[]) (fn:=Tryz.f62) (t:=zib) (by kernel_rfl) (by kernel_rfl) (by kernel_rfl) ?_ ?_
 ·exact (z04 (L:=[(67,zd5),(68,zee)]) ⟨z6 rfl z0gd,z6 rfl z0e3,trivial⟩)
 ·rintro ds rs - h
  obtain ⟨⟨x,y⟩,-,rfl,rfl⟩:=zl h
  clear h
  refine ⟨⟨1,?_⟩,z0e rfl⟩
  show den _ _ zib [I x.height,.l 3 (x.ins.map eIn),.l 2 (x.outs.map z27),I y.height,.l 3 (y.ins.map eIn),.l 2 (y.outs.map z27)] []=ret (decide (x=y))
  rw [← z0h3]
  unfold zib
  repeat' (first|refine dq1 ?_|refine dqk rfl (z057 _ _) ?_|refine dqk rfl (z016 _ _) ?_|exact z5 rfl rfl|((first|refine tR ?_ ?_|refine tB ?_ ?_) <;> intro h)|fail)
end
section
open Go.RowKit
set_option maxRecDepth 100000
set_option maxHeartbeats 4000000
noncomputable def z69:z7:=spD (fun _:List Op=>True) fun l=>z8 l
theorem zkm (l:List Op):z69 [.l 2 (l.map eOp)]=some [I (z8 l)]:=zd (f:=fun l:List Op=>z8 l) l trivial
theorem z017:Meets Tryz.prog z69 123 ⟨[.one],[(false,[.scal])],true⟩ :=
 z97 (e:=fun x:{ x:List Op // True }=>Enc.e x.1) (d:=fun x=>I (z8 x.1)) rfl (z0v (fn:=Tryz.f123) (by kernel_rfl) (by kernel_rfl) (by kernel_rfl)) (fun _=>rfl) fun x W F us hF h=>by
  obtain ⟨v,us,rfl,h1,h⟩:=zo h
  obtain rfl:=z0n h
  obtain ⟨A,n,c,rfl,k1⟩:=z4m z7z h1
  exact (ze3 x.1 A n c W F k1 hF).mono fun e w' h=>⟨_,h.1,h.2,.i _ _ (wrap_i64 (zk1 x.1).i64)⟩
attribute [local irreducible] z08 spD z1n
end
section
open Go.RowKit
open Go.Lib (itoa atoiAll atoiSat)
set_option maxRecDepth 100000
set_option maxHeartbeats 4000000
def zc4:List UInt8:=[45,32,45,32,100,117,112,32,115,119,97,112,32,100,114,111,112,32,97,100,100,32,115,117,98,32,115,97,109,101,32,108,101,115,115,32,110,111,116,32,97,110,100,32,118,101,114,105,102,121,32,104,101,105,103,104,116,32,109,105,120]
def wordsL:List (List UInt8):=[45]::[45]::opNames.drop 2
theorem zbj:Go.Lib.fields zc4=wordsL:=by decide +kernel
theorem z018:∀ b ∈ zc4,b.toNat<128:=by decide
theorem z019:∀ y ∈ wordsL,y.length≤1000000:=by decide
theorem zwe:z34 [.s zc4]=some [.l 1 (wordsL.map z26)]:=by
 have h:=zk4 zc4 ⟨by decide,z018,by rw [zbj];decide,by rw [zbj];exact z019⟩
 rw [zbj] at h
 exact h
theorem zoi {k:Int} (h0:2≤k) (h1:k≤13):wordsL[k.toNat]? = some ((opNames[k.toNat]?).getD []):=by
 have hk:k=2∨k=3∨k=4∨k=5∨k=6∨k=7∨k=8∨k=9∨k=10∨k=11∨k=12∨k=13:=by omega
 rcases hk with rfl|rfl|rfl|rfl|rfl|rfl|rfl|rfl|rfl|rfl|rfl|rfl <;> rfl
def joinTail (acc:List UInt8) (first:Bool):List (List UInt8)→List UInt8
 | []=>acc
 | x::r=>joinTail (if first then acc++x else acc++[32]++x) false r
theorem zet:∀ (r:List (List UInt8)) (acc:List UInt8),joinTail acc false r=acc++(match r with | []=>[]|_=>32::z1p 32 r)
 | [],acc=>by simp [joinTail]
 | x::r,acc=>by
  rw [joinTail,zet r]
  cases r with
  | nil=>simp [z1p]
  | cons y r=>simp [z1p]
theorem zwf (l:List (List UInt8)):joinTail [] true l=z1p 32 l:=by
 cases l with
 | nil=>rfl
 | cons x r =>
  rw [joinTail,zet]
  cases r with
  | nil=>simp [z1p]
  | cons y r=>simp [z1p]
noncomputable def z6w:z7:=spD (fun l:List Op=>z8 l=0) fun l=>z4o l
theorem zd6 (l:List Op) (h:z8 l=0):z6w [.l 2 (l.map eOp)]=some [.s (z4o l)]:=zd (p:=fun l:List Op=>z8 l=0) (f:=fun l:List Op=>z4o l) l h
attribute [local irreducible] z08 spD z1n itoa z8 z38 z1p z28 z4u zr za z2c z2m joinTail
attribute [local irreducible] den denX z0r z14
def zwg:T :=
 .lets [] [.inr 1 (.v 1) (.v 6)] (.lets [.idx (.v 1) (.v 6) 0] [] (.lets [.bin .add (.v 9) (.v 11)] [] (.lets [.bin .add (.v 4) (.c (.i .i64 1))] [] (.again 0 [.v 12,.v 13]))))
def zwh:T :=
 .ite (.v 10) (.lets [.call 37 [.v 7] 0] [] (.lets [.bin .add (.v 9) (.v 11)] [] (.lets [.bin .add (.v 4) (.c (.i .i64 1))] [] (.again 0 [.v 12,.v 13])))) zwg
def zwi:T :=
 .lets [] [.inr 1 (.v 1) (.v 6)] (.lets [.idx (.v 1) (.v 6) 0] [] (.lets [.bin .add (.v 3) (.v 10)] [] (.lets [.bin .add (.v 4) (.c (.i .i64 1))] [] (.again 0 [.v 11,.v 12]))))
def zwj:T :=
 .ite (.v 9) (.lets [.call 37 [.v 7] 0] [] (.lets [.bin .add (.v 3) (.v 10)] [] (.lets [.bin .add (.v 4) (.c (.i .i64 1))] [] (.again 0 [.v 11,.v 12])))) zwi
def zwk:T :=
 .ite (.v 8) (.lets [.bin .add (.v 3) (.c (.s [32]))] [] (.lets [.bin .eql (.v 6) (.c (.i .i64 1))] [] zwh)) (.lets [.bin .eql (.v 6) (.c (.i .i64 1))] [] zwj)
def zwl:T :=
 .ite (.v 5) (.lets [] [.inr 2 (.v 0) (.v 4)] (.lets [.idx (.v 0) (.v 4) 0,.idx (.v 0) (.v 4) 1] [] (.lets [.bin .gtr (.v 4) (.c (.i .i64 0))] [] zwk))) (.ret [.v 3])
def zef:T :=
 .lets [.call 45 [.c (.s [45,32,45,32,100,117,112,32,115,119,97,112,32,100,114,111,112,32,97,100,100,32,115,117,98,32,115,97,109,101,32,108,101,115,
 115,32,110,111,116,32,97,110,100,32,118,101,114,105,102,121,32,104,101,105,103,104,116,32,109,105,120])] 0] [] (.lets [.len (.v 0)] [] (.loop [.c (.s []),
 .c (.i .i64 0)] (.lets [.bin .lss (.v 4) (.v 2)] [] zwl)))
def z058:T :=
 .lets [.ise false (.v 2)] [] (.ite (.v 3) (.lets [.call 43 [.v 1,.c (.i .i64 10)] 0] [] (.lets [.bin .eql (.v 4) (.v 0)] [] (.ret [.v 1,.v 5]))) (.ret [.v 1,.c (.b false)]))
def zic:T :=
 .lets [.call 44 [.v 0,.c (.i .i64 10),.c (.i .i64 64)] 0,.call 44 [.v 0,.c (.i .i64 10),.c (.i .i64 64)] 1] [] z058
def zwm:T :=
 .lets [.mk 2 [[.v 11,.c (.i .i64 0)]]] [] (.lets [.app 2 (.v 5) (.v 15)] [] (.lets [.bin .add (.v 8) (.c (.i .i64 1))] [] (.again 0 [.v 16,.v 6,.v 7,.v 17])))
def zwn:T :=
 .lets [.mk 2 [[.c (.i .i64 1),.v 12]]] [] (.lets [.app 2 (.v 5) (.v 15)] [] (.lets [.bin .add (.v 8) (.c (.i .i64 1))] [] (.again 0 [.v 16,.v 6,.v 7,.v 17])))
def zwo:T :=
 .lets [.call 59 [.v 10] 0,.call 59 [.v 10] 1] [] (.lets [.bin .geq (.v 11) (.c (.i .i64 2))] [] (.ite (.v 14) zwm (.ite (.v 13) zwn (.ret [.c (.nil 2),.c (.i
 .i64 1)]))))
def zwp:T :=
 .ite (.v 9) (.lets [] [.inr 1 (.v 3) (.v 8)] (.lets [.idx (.v 3) (.v 8) 0] [] (.lets [.call 55 [.v 2,.v 10] 0] [] zwo))) (.lets [.call 25 [.v 5] 0] [] (.lets [.bin .neq
 (.v 10) (.c (.i .i64 0))] [] (.ite (.v 11) (.ret [.c (.nil 2),.v 10]) (.ret [.v 5,.c (.i .i64 0)]))))
def zwq:T :=
 .lets [.call 41 [.v 0,.c (.s [32])] 0] [] (.lets [.len (.v 3)] [] (.loop [.c (.nil 2),.c (.nil 2),.c (.i .i64 0),.c (.i .i64 0)] (.lets [.bin .lss (.v 8) (.v 4)] []
 zwp)))
def zwr:T :=
 .lets [.call 45 [.c (.s [45,32,45,32,100,117,112,32,115,119,97,112,32,100,114,111,112,32,97,100,100,32,115,117,98,32,115,97,109,101,32,108,101,115,
 115,32,110,111,116,32,97,110,100,32,118,101,114,105,102,121,32,104,101,105,103,104,116,32,109,105,120])] 0] [] zwq
def zeg:T :=
 .lets [.bin .eql (.v 0) (.c (.s []))] [] (.ite (.v 1) (.ret [.c (.nil 2),.c (.i .i64 0)]) zwr)
section
variable {sp:Nat→z7} {N:Nat} {E E':Env} {ks:List (List Dt→Option (List Dt))} {res:Option (List Dt)}
theorem z4a {a b:Atom} {x y:List UInt8} (ha:a.val E=some (.s x)) (hb:b.val E=some (.s y)) (h:x.length+y.length≤1000000000):denX sp E (.bin .add a b)=some (.s (x++y)):=by
 have e:denX sp E (.bin .add a b)=(if x.length+y.length≤1000000000 then some (.s (x++y)) else none):=by with_unfolding_all simp only [denX,ha,hb,Option.bind_eq_bind,Option.bind_some];with_unfolding_all rfl
 rw [e,if_pos h]
end
attribute [local irreducible] z1e z34
theorem z059:Meets Tryz.prog z6w 140 ⟨[.one],[(false,[.scal])],true⟩:=by
 refine zn (sp:=(z0g [(37,z1e),(45,z34)])) (sigs:=z0k) (cut:=[]) (hints:=[⟨4,[.t 4,.t 10]⟩]) (fn:=Tryz.f140) (t:=zef) (by kernel_rfl) (by kernel_rfl) (by kernel_rfl) ?_ ?_
 ·exact (z04 (L:=[(37,z1e),(45,z34)]) ⟨z6 rfl zb7,z6 rfl zh1,trivial⟩)
 ·rintro ds rs - h
  obtain ⟨l,hc0,rfl,rfl⟩:=zl h
  clear h
  refine ⟨⟨l.length+1,?_⟩,z0e rfl⟩
  show den _ _ zef [.l 2 (l.map eOp)] []=ret (z4o l)
  obtain ⟨hl16,hall⟩:=zb6 hc0
  have et:z4o l=joinTail [] true (l.map z16):=by rw [zwf];with_unfolding_all rfl
  rw [et]
  have a1:=zwe
  unfold zef
  repeat' (first|refine dq1 ?_|refine dqk rfl (a1) ?_|fail)
  (refine zy (fun (a:List UInt8) k=>[.s a,I k]) (fun (a:List UInt8) k (r:List Op)=>joinTail a (decide (k=0)) (r.map z16)) (fun a k=>a.length≤100 * k) [] l ?_ ?_ ?_ ?_ ?_;rfl;exact Nat.zero_le _;omega)
  ·rintro a k o r hx hd hk ha again hag
   have hbad:=hall o (List.mem_of_getElem? hx)
   have ho:=zi1 hbad
   obtain ⟨ho1,ho2,-⟩:=ho
   have hto:=zjx hbad
   have e1:joinTail a (decide (k=0)) (z16 o::r.map z16)=joinTail (if decide (k=0)=true then a++z16 o else a++[32]++z16 o) false (r.map z16):=by with_unfolding_all rfl
   rw [List.map_cons,e1]
   have hk1:decide (k+1=0)=false:=rfl
   by_cases hk0:k=0
   ·rw [if_pos (decide_eq_true hk0)]
    have ha':=hag (a++z16 o) (by rw [List.length_append];omega)
    rw [hk1] at ha'
    repeat' (first|refine dq1 ?_|refine dqc ?_|refine dqm ?_|refine dqT ?_|refine dqF ?_|fail)
    refine z44 rfl (fun h=>?_) (fun h=>?_)
    ·have ht:z16 o=itoa o.n:=by with_unfolding_all exact if_pos h
     rw [ht] at ha' hto ⊢
     repeat' (first|refine dq1 ?_|refine dqk rfl (z2x _) ?_|refine z4 (z4a rfl rfl (by omega)) ?_|fail)
     exact z9 rfl rfl ha'
    ·have hw:=zoi (k:=o.kind) (by omega) ho2
     have ht:z16 o=(opNames[o.kind.toNat]?).getD []:=by with_unfolding_all exact if_neg h
     rw [ht] at ha' hto ⊢
     have hwl:wordsL.length=14:=rfl
     repeat' (first|refine dq1 ?_|refine dqc ?_|refine z4 (z4a rfl rfl (by omega)) ?_|fail)
     exact z9 rfl rfl ha'
   ·rw [if_neg (by simpa using hk0)]
    have ha':=hag (a++[32]++z16 o) (by simp only [List.length_append,List.length_cons,List.length_nil];omega)
    rw [hk1] at ha'
    repeat' (first|refine dq1 ?_|refine dqc ?_|refine dqm ?_|refine dqT ?_|fail)
    refine z4 (z4a rfl rfl (by simp only [List.length_cons,List.length_nil];omega)) ?_
    have hal:(a++[32]).length≤2000:=by simp only [List.length_append,List.length_cons,List.length_nil];omega
    generalize a++[32]=a2 at *
    repeat' (first|refine dq1 ?_|fail)
    refine z44 rfl (fun h=>?_) (fun h=>?_)
    ·have ht:z16 o=itoa o.n:=by with_unfolding_all exact if_pos h
     rw [ht] at ha' hto ⊢
     repeat' (first|refine dq1 ?_|refine dqk rfl (z2x _) ?_|refine z4 (z4a rfl rfl (by omega)) ?_|fail)
     exact z9 rfl rfl ha'
    ·have hw:=zoi (k:=o.kind) (by omega) ho2
     have ht:z16 o=(opNames[o.kind.toNat]?).getD []:=by with_unfolding_all exact if_neg h
     rw [ht] at ha' hto ⊢
     have hwl:wordsL.length=14:=rfl
     repeat' (first|refine dq1 ?_|refine dqc ?_|refine z4 (z4a rfl rfl (by omega)) ?_|fail)
     exact z9 rfl rfl ha'
  ·rintro a ha again
   have e0:∀ b:Bool,joinTail a b []=a:=fun b=>by with_unfolding_all rfl
   simp only [List.map_nil,e0]
   repeat' (first|refine dq1 ?_|exact z5 rfl rfl|refine dqF ?_|fail)
def z0a (w:List UInt8):Int × Bool:=((zr w).1,!(zr w).2.is && decide (itoa (zr w).1=w))
noncomputable def z3m:z7:=spD (fun s:List UInt8=>s.length≤1000000000) fun s=>z0a s
theorem z4w (s:List UInt8) (h:s.length≤1000000000):z3m [.s s]=some [I (z0a s).1,.b (z0a s).2]:=zd (p:=fun s:List UInt8=>s.length≤1000000000) (f:=fun s:List UInt8=>z0a s) s h
attribute [local irreducible] z9j z6t
theorem zid:Meets Tryz.prog z3m 69 ⟨[.one],[(false,[.scal]),(false,[.scal])],true⟩:=by
 refine zn (sp:=(z0g [(43,z9j),(44,z6t)])) (sigs:=z0k) (cut:=[]) (hints:=[]) (fn:=Tryz.f69) (t:=zic) (by kernel_rfl) (by kernel_rfl) (by kernel_rfl) ?_ ?_
 ·exact (z04 (L:=[(43,z9j),(44,z6t)]) ⟨z6 rfl z0aq,z6 rfl z04g,trivial⟩)
 ·rintro ds rs - h
  obtain ⟨w,hw,rfl,rfl⟩:=zl h
  clear h
  refine ⟨⟨1,?_⟩,z8v rfl rfl⟩
  show den _ _ zic [.s w] []=ret (z0a w)
  have a1:=zlt w hw
  unfold zic z0a
  cases hi:(zr w).2.is with
  | true =>
   rw [hi] at a1
   repeat' (first|refine dqK rfl (a1) ?_|refine z4 (z5d rfl) ?_|exact z5 rfl rfl|refine z13 rfl ?_|fail)
  | false =>
   rw [hi] at a1
   repeat' (first|refine dq1 ?_|refine dqK rfl (a1) ?_|refine dqk rfl (zsj _) ?_|refine z4 (z5d rfl) ?_|exact z5 rfl rfl|refine z19 rfl ?_|fail)
theorem z0bc (w:List UInt8):(2≤idx wordsL w→idx wordsL w=z2m w∧z2m w≠0)∧(¬ 2≤idx wordsL w→z2m w=0):=by
 by_cases h:w ∈ opNames.drop 2
 ·have key:∀ w ∈ opNames.drop 2,2≤idx wordsL w∧idx wordsL w=z2m w∧z2m w≠0:=by with_unfolding_all decide +kernel
  exact ⟨fun _=>(key w h).2,fun hn=>absurd (key w h).1 hn⟩
 ·have hk:z2m w=0:=by
   with_unfolding_all refine zgz _ _ _ _ fun m hm hne e=>?_
   have hm':m=[]∨m=[]∨m ∈ opNames.drop 2:=by
    have e2:opNames=[]::[]::opNames.drop 2:=rfl
    rw [e2] at hm
    simpa using hm
   rcases hm' with rfl|rfl|hm'
   ·exact hne rfl
   ·exact hne rfl
   ·exact h (e ▸ hm')
  refine ⟨fun hi=>?_,fun _=>hk⟩
  exfalso
  have hm:w ∈ wordsL:=(znz w wordsL 0).1 (by unfold idx at hi;omega)
  have hm':w=[45]∨w=[45]∨w ∈ opNames.drop 2:=by
   simpa [wordsL] using hm
  rcases hm' with rfl|rfl|hm'
  ·exact absurd hi (by decide)
  ·exact absurd hi (by decide)
  ·exact h hm'
theorem zc5 (w:List UInt8):z17 w=if (z0a w).2=true then some (z0a w).1 else none:=by
 unfold z0a
 cases hi:(zr w).2.is with
 | true=>rw [ze8 hi];rfl
 | false =>
  rw [ze9 hi]
  by_cases h:itoa (zr w).1=w
  ·rw [if_pos h,if_pos (by simpa using h)]
  ·rw [if_neg h,if_neg (by simpa using h)]
noncomputable def z6x:z7:=spD (fun s:List UInt8=>s.length≤4000) fun s=>z18 s
theorem zm9 (s:List UInt8) (h:s.length≤4000):z6x [.s s]=some [.l 2 ((z18 s).1.map eOp),I (z18 s).2]:=zd (p:=fun s:List UInt8=>s.length≤4000) (f:=fun s:List UInt8=>z18 s) s h
attribute [local irreducible] z0a zb5
attribute [local irreducible] z9o z69 z0b
theorem z05a:Meets Tryz.prog z6x 148 ⟨[.one],[(false,[.fresh 217 2]),(false,[.scal])],false⟩:=by
 refine zn (sp:=(z0g [(25,z69),(41,z0b),(45,z34),(55,z9o),(59,z3m)])) (sigs:=z0k) (cut:=[]) (hints:=[⟨6,[.r 4 217 2,.r 2 217 2,.t 3,.t 18]⟩]) (fn:=Tryz.f148) (t:=zeg) (by kernel_rfl) (by kernel_rfl) (by kernel_rfl) ?_ ?_
 ·exact (z04 (L:=[(25,z69),(41,z0b),(45,z34),(55,z9o),(59,z3m)]) ⟨z6 rfl z017,z6 rfl z6j,z6 rfl zh1,z6 rfl z0b2,z6 rfl zid,trivial⟩)
 ·rintro ds rs hok h
  obtain ⟨s,hs4,rfl,rfl⟩:=zl h
  clear h
  refine ⟨⟨s.length+5,?_⟩,?_⟩
  ·show den _ _ zeg [.s s] []=ret (z18 s)
   rw [zoe,if_neg (by omega)]
   unfold zeg
   have a1:=zwe
   have hcl:=z3l 32 s
   repeat' (first|refine dq1 ?_|refine dqk rfl (a1) ?_|refine dqk rfl (z2e s 32 (by omega)) ?_|exact z5 rfl rfl|refine tR (fun h=>?_) fun h=>?_|fail)
   (refine zy (fun (a:List Op) k=>[.l 2 (a.map eOp),.l 2 [],I 0,I k]) (fun (a:List Op) _ (r:List (List UInt8))=>z4u a r) (fun a k=>a.length=k) [] (za 32 s) ?_ ?_ ?_ ?_ ?_;rfl;exact rfl;omega)
   ·rintro a k w r hx hd hk ha again hag
    have hw:=hcl.2 w (List.mem_of_getElem? hx)
    rw [zha]
    have a2:=zvn wordsL w
    have a3:=z4w w (by omega)
    obtain ⟨ki1,ki2⟩:=z0bc w
    have hwo:=zc5 w
    generalize idx wordsL w=j at *
    generalize z0a w=pw at *
    obtain ⟨n,b⟩:=pw
    try simp only at a3 hwo
    by_cases hj:2≤j
    ·obtain ⟨hjk,hk0⟩:=ki1 hj
     rw [zhc hk0,← hjk]
     simp only
     repeat' (first|refine dq1 ?_|refine dqc ?_|refine dqk rfl (a2) ?_|refine dqK rfl (a3) ?_|refine z4 (z1h rfl rfl (by simp)) ?_|refine z4 (z6g (x:=⟨j,0⟩) (fun _=>rfl) rfl rfl (by omega)) ?_|refine dqT ?_|fail)
     exact z9 rfl rfl (hag (a++[⟨j,0⟩]) (by rw [List.length_append,ha];rfl))
    ·rw [zhb (ki2 hj),hwo]
     cases b with
     | true =>
      simp only [if_true,Option.map_some]
      repeat' (first|refine dq1 ?_|refine dqc ?_|refine dqk rfl (a2) ?_|refine dqK rfl (a3) ?_|refine z4 (z1h rfl rfl (by simp)) ?_|refine z4 (z6g (x:=⟨1,n⟩) (fun _=>rfl) rfl rfl (by omega)) ?_|refine dqT ?_|refine dqF ?_|refine z19 rfl ?_|fail)
      exact z9 rfl rfl (hag (a++[⟨1,n⟩]) (by rw [List.length_append,ha];rfl))
     | false =>
      simp only [Bool.false_eq_true,if_false,Option.map_none]
      repeat' (first|refine dq1 ?_|refine dqc ?_|refine dqk rfl (a2) ?_|refine dqK rfl (a3) ?_|exact z5 rfl rfl|refine dqT ?_|refine dqF ?_|refine z13 rfl ?_|fail)
   ·rintro a ha again
    rw [zkj]
    repeat' (first|refine dq1 ?_|refine dqk rfl (zkm _) ?_|exact z5 rfl rfl|refine tR (fun h=>?_) fun h=>?_|refine dqF ?_|fail)
  ·intro i d hi hd
   match i,hi,hd with
   | 0,hi,_=>simp [zh] at hi
   | 1,_,hd=>simp only [Enc.e,z1c,List.cons_append,List.nil_append,List.getElem?_cons_zero,List.getElem?_cons_succ,Option.some.injEq] at hd;subst hd;rfl
   | i+2,hi,hd=>simp [zh] at hi
end
section
open Go.RowKit
open Go.Lib (itoa)
set_option maxRecDepth 100000
set_option maxHeartbeats 4000000
noncomputable def z6y:z7:=spD (fun _:Tx=>True) fun t=>zb t
theorem zma (t:Tx):z6y [I t.height,.l 3 (t.ins.map eIn),.l 2 (t.outs.map z27)]=some [I (zb t)]:=zd (f:=fun t:Tx=>zb t) t trivial
theorem z05b:Meets Tryz.prog z6y 57 ⟨[.agg 3],[(false,[.scal])],true⟩ :=
 z85 rfl (z0v (fn:=Tryz.f57) (by kernel_rfl) (by kernel_rfl) (by kernel_rfl)) fun t _ W F us hF h=>by
  obtain ⟨cs,rfl,hr⟩:=z78 h
  have hS:Sep W F [rep t cs shTx] W:=(Sep.start W F hF.1).addRep (S:=shTx) (shTx.more (fun b hb=>⟨.inl hb,by simp⟩) (she_tx.of hr))
  exact ⟨(zqy t).i64,(z036 t cs hS At.z).mono fun e w' h=>⟨h.1,h.2.below⟩⟩
attribute [local irreducible] z08 spD z1n itoa z8 z38 z1p z28 z4u zr za z2c z2m zb z18
attribute [local irreducible] den denX z0r z14
theorem z05c {x:In} (h:z8 x.key=0):z2n x=[105,110,32]++itoa x.p.tx++[32]++itoa x.p.at_++[58]++z4o x.key++[10]:=by
 unfold z2n z2j
 rw [if_neg (fun k=>k h)]
theorem z01a {x:Out} (h:z8 x.lock=0):z22 x=[111,117,116,32]++itoa x.coin++[58]++z4o x.lock++[10]:=by
 unfold z22 z2j
 rw [if_neg (fun k=>k h)]
noncomputable def z8f:z7:=spD (fun t:Tx=>zb t=0) fun t=>z1s t
theorem zq5 (t:Tx) (h:zb t=0):z8f [I t.height,.l 3 (t.ins.map eIn),.l 2 (t.outs.map z27)]=some [.s (z1s t)]:=zd (p:=fun t:Tx=>zb t=0) (f:=fun t:Tx=>z1s t) t h
def z01b:T :=
 .lets [.bin .add (.v 18) (.v 19)] [] (.lets [.bin .add (.v 20) (.c (.s [10]))] [] (.lets [.bin .add (.v 7) (.v 21)] [] (.lets [.bin .add (.v 8) (.c (.i .i64 1))] [] (.again 0 [.v
 22,.v 23]))))
def z01c:T :=
 .lets [.bin .add (.v 14) (.c (.s [32]))] [] (.lets [.call 37 [.v 11] 0] [] (.lets [.bin .add (.v 15) (.v 16)] [] (.lets [.bin .add (.v 17) (.c (.s [58]))] [] (.lets [.call 58 [.v
 12] 0] [] z01b))))
def z01d:T :=
 .lets [.idx (.v 1) (.v 8) 0,.idx (.v 1) (.v 8) 1,.idx (.v 1) (.v 8) 2] [] (.lets [.call 37 [.v 10] 0] [] (.lets [.bin .add (.c (.s [105,110,32])) (.v 13)] [] z01c))
def z01e:T :=
 .lets [.bin .add (.v 18) (.v 19)] [] (.lets [.bin .add (.v 20) (.c (.s [10]))] [] (.lets [.bin .add (.v 11) (.v 21)] [] (.lets [.bin .add (.v 12) (.c (.i .i64 1))] [] (.again 1 [.v
 22,.v 23]))))
def z01f:T :=
 .lets [.call 37 [.v 14] 0] [] (.lets [.bin .add (.c (.s [111,117,116,32])) (.v 16)] [] (.lets [.bin .add (.v 17) (.c (.s [58]))] [] (.lets [.call 58 [.v 15] 0] [] z01e)))
def z01g:T :=
 .lets [.bin .lss (.v 12) (.v 10)] [] (.ite (.v 13) (.lets [] [.inr 2 (.v 2) (.v 12)] (.lets [.idx (.v 2) (.v 12) 0,.idx (.v 2) (.v 12) 1] [] z01f)) (.ret [.v 11]))
def z01h:T :=
 .lets [.bin .lss (.v 8) (.v 6)] [] (.ite (.v 9) (.lets [] [.inr 3 (.v 1) (.v 8)] z01d) (.lets [.len (.v 2)] [] (.loop [.v 7,.c (.i .i64 0)] z01g)))
def z01i:T :=
 .lets [.bin .add (.c (.s [116,120,32])) (.v 3)] [] (.lets [.bin .add (.v 4) (.c (.s [10]))] [] (.lets [.len (.v 1)] [] (.loop [.v 5,.c (.i .i64 0)] z01h)))
def zg2:T :=
 .lets [.call 37 [.v 0] 0] [] z01i
attribute [local irreducible] z1e z6w
theorem z087:Meets Tryz.prog z8f 64 ⟨[.agg 3],[(false,[.scal])],true⟩:=by
 refine zn (sp:=(z0g [(37,z1e),(58,z6w)])) (sigs:=z0k) (cut:=[]) (hints:=[⟨3,[.t 3,.t 16]⟩,⟨8,[.t 3,.t 43]⟩]) (fn:=Tryz.f64) (t:=zg2) (by kernel_rfl) (by kernel_rfl) (by kernel_rfl) ?_ ?_
 ·exact (z04 (L:=[(37,z1e),(58,z6w)]) ⟨z6 rfl zb7,z6 rfl z059,trivial⟩)
 ·rintro ds rs - h
  obtain ⟨t,ht,rfl,rfl⟩:=zl h
  clear h
  refine ⟨⟨20,?_⟩,z0e rfl⟩
  show den _ _ zg2 [I t.height,.l 3 (t.ins.map eIn),.l 2 (t.outs.map z27)] []=ret (z3p t++t.ins.flatMap z2n++t.outs.flatMap z22)
  have ok:=z58 ht
  have h0:=zeq ok.head
  have lh:=z3q (n:=t.height) (by omega) (by omega)
  have hn1:=ok.ins
  have hn2:=ok.outs
  have lhh:(z3p t).length≤24:=by simp only [z3p,List.length_append,List.length_cons,List.length_nil];omega
  unfold zg2
  repeat' (first|refine dq1 ?_|refine dqk rfl (z2x _) ?_|refine z4 (z4a rfl rfl (by simp only [List.length_append,List.length_cons,List.length_nil];omega)) ?_|fail)
  (refine zy (fun (a:List UInt8) k=>[.s a,I k]) (fun (a:List UInt8) _ (r:List In)=>a++r.flatMap z2n++t.outs.flatMap z22) (fun a k=>a.length≤24+200 * k) (z3p t) t.ins ?_ ?_ ?_ ?_ ?_;rfl;exact (by omega);omega)
  ·rintro a k x r hx hd hk ha again hag
   have hxb:=zi6 ok.insOk x (List.mem_of_getElem? hx)
   obtain ⟨b1,b2,b3,b4,b5⟩:=zsq hxb
   have il:=zo6 hxb
   have l1:=z3q (n:=x.p.tx) (by omega) (by omega)
   have l2:=z3q (n:=x.p.at_) (by omega) (by omega)
   have ol:=z9a b5
   have a3:=zd6 x.key b5
   have hag':=hag (a++z2n x) (by rw [List.length_append];omega)
   have e:a++(x::r).flatMap z2n=(a++z2n x)++r.flatMap z2n:=by simp
   rw [e]
   rw [z05c b5] at hag' ⊢
   clear hag e il
   repeat' (first|refine dq1 ?_|refine dqc ?_|refine dqm ?_|refine dqk rfl (z2x _) ?_|refine dqk rfl (a3) ?_|refine z4 (z4a rfl rfl (by simp only [List.length_append,List.length_cons,List.length_nil];omega)) ?_|refine dqT ?_|fail)
   exact z9 rfl rfl hag'
  ·rintro a ha again
   simp only [List.flatMap_nil,List.append_nil]
   repeat' (first|refine dq1 ?_|refine dqF ?_|fail)
   (refine zy (fun (b:List UInt8) k=>[.s b,I k]) (fun (b:List UInt8) _ (r:List Out)=>b++r.flatMap z22) (fun b k=>b.length≤a.length+200 * k) a t.outs ?_ ?_ ?_ ?_ ?_;rfl;exact (by omega);omega)
   ·rintro b k x r hx hd hk hb again' hag
    obtain ⟨b1,b2,b5⟩:=ok.good x (List.mem_of_getElem? hx)
    have il:=zk9 b1 b2
    have l1:=z3q (n:=x.coin) (by omega) (by omega)
    have ol:=z9a b5
    have a3:=zd6 x.lock b5
    have hag':=hag (b++z22 x) (by rw [List.length_append];omega)
    have e:b++(x::r).flatMap z22=(b++z22 x)++r.flatMap z22:=by simp
    rw [e]
    rw [z01a b5] at hag' ⊢
    clear hag e il
    repeat' (first|refine dq1 ?_|refine dqc ?_|refine dqm ?_|refine dqk rfl (z2x _) ?_|refine dqk rfl (a3) ?_|refine z4 (z4a rfl rfl (by simp only [List.length_append,List.length_cons,List.length_nil];omega)) ?_|refine dqT ?_|fail)
    exact z9 rfl rfl hag'
   ·rintro b hb again'
    simp only [List.flatMap_nil,List.append_nil]
    repeat' (first|refine dq1 ?_|exact z5 rfl rfl|refine dqF ?_|fail)
def z75 (k:Nat) (n:Int) (o:List Out) (i:List In) (r:List (List UInt8)):Tx × Int:=if k=0 then (match r with
 | []=>z0x n o i []
 | x::r=>if Go.Lib.hasPrefix x tTx=false then (zTx,1) else if (z0a (x.drop 3)).2=false then (zTx,1) else z0x (z0a (x.drop 3)).1 o i r) else z0x n o i r
theorem z01j (n:Int) (r:List (List UInt8)) (o:List Out) (i:List In) (x:List UInt8) {v0:List UInt8} {vs:List (List UInt8)} {l:List Op} {e j:Int} (hj:Go.Lib.indexByte x 58=j) (hv:za 32 (x.take j.toNat)=v0::vs) (hr:z18 (x.drop (j+1).toNat)=(l,e)):z0x n o i (x::r) =
 if j<0 then (zTx,1) else if e≠0 then (zTx,1) else z66 n r (z2s o i (v0::vs) l):=by
 have e1:z0x n o i (x::r)=z66 n r (zgm o i x):=by rw [z0x,z04k];rfl
 rw [e1]
 unfold zgm
 rw [hj]
 by_cases h1:j<0
 ·rw [if_pos h1,if_pos h1];rfl
 rw [if_neg h1,if_neg h1,show j.toNat+1=(j+1).toNat by omega,hr,hv]
 by_cases h2:e≠0
 ·rw [if_pos h2,if_pos h2];rfl
 ·rw [if_neg h2,if_neg h2]
theorem z0bd (n:Int) (r:List (List UInt8)) (o:List Out) (i:List In) (a b:List UInt8) (l:List Op):z66 n r (z2s o i [tIn,a,b] l)=if (z0a a).2=false then (zTx,1) else if (z0a b).2=false then (zTx,1) else if (0:Int)<(o.length:Int) then (zTx,1) else z0x n o (i++[⟨⟨(z0a a).1,(z0a b).1⟩,l⟩]) r:=by
 have e:z2s o i [tIn,a,b] l=match z17 a,z17 b with
  | some a,some b=>if 0<o.length then none else some (o,i++[⟨⟨a,b⟩,l⟩])
  | _,_=>none:=if_pos ⟨rfl,rfl⟩
 rw [e,zc5 a,zc5 b]
 cases (z0a a).2 <;> cases (z0a b).2
 ·rfl
 ·rfl
 ·rfl
 ·simp only [if_true,Bool.true_eq_false,if_false]
  by_cases h:0<o.length
  ·rw [if_pos h,if_pos (by omega)];rfl
  ·rw [if_neg h,if_neg (by omega)];rfl
theorem z088 (n:Int) (r:List (List UInt8)) (o:List Out) (i:List In) (a:List UInt8) (l:List Op):z66 n r (z2s o i [z36,a] l)=if (z0a a).2=false then (zTx,1) else z0x n (o++[⟨(z0a a).1,l⟩]) i r:=by
 have e:z2s o i [z36,a] l=match z17 a with
  | some a=>some (o++[⟨a,l⟩],i)
  | none=>none:=by
  have h1:z2s o i [z36,a] l=if z36=z36∧[z36,a].length=2 then (match z17 a with
   | some a=>some (o++[⟨a,l⟩],i)
   | none=>none) else none:=if_neg (fun h=>by simp at h)
  rw [h1,if_pos ⟨rfl,rfl⟩]
 rw [e,zc5 a]
 cases (z0a a).2 <;> rfl
theorem zie (n:Int) (r:List (List UInt8)) (o:List Out) (i:List In) (v0:List UInt8) (vs:List (List UInt8)) (l:List Op) (h1:¬ (v0=tIn∧vs.length=2)) (h2:¬ (v0=z36∧vs.length=1)):z66 n r (z2s o i (v0::vs) l)=(zTx,1):=by
 have e:z2s o i (v0::vs) l=none:=by
  unfold z2s
  rw [if_neg (fun h=>h1 ⟨h.1,by simpa using h.2⟩),if_neg (fun h=>h2 ⟨h.1,by simpa using h.2⟩)]
 rw [e];rfl
theorem zd7 {x p:List UInt8} (h:Go.Lib.hasPrefix x p=true):Go.Lib.trimPrefix x p=x.drop p.length∧p.length≤x.length:=by
 unfold Go.Lib.trimPrefix
 rw [h,if_pos rfl]
 unfold Go.Lib.hasPrefix at h
 rw [List.isPrefixOf_iff_prefix] at h
 obtain ⟨r,rfl⟩:=h
 exact ⟨rfl,by simp⟩
theorem z05d (w:List UInt8):z20 w=z0a w:=rfl
theorem z05e {s:List UInt8} (hs:s.length≤4000):z09 s=if ((za 10 s).length:Int)<2 then (zTx,1) else if (za 10 s).getLastD []≠[] then (zTx,1) else z75 0 0 [] [] ((za 10 s).take ((za 10 s).length - 1)):=by
 have key:=z0dn s
 have hL:=zof s
 rw [if_neg (by omega)] at hL
 rw [hL]
 clear hL
 by_cases h:Go.Lib.hasSuffix s [10]=true
 ·obtain ⟨h1,h2⟩:=key.2 h
  have hR:(if ((za 10 s).length:Int)<2 then (zTx,(1:Int)) else if (za 10 s).getLastD []≠[] then (zTx,1) else z75 0 0 [] [] ((za 10 s).take ((za 10 s).length - 1)))=z75 0 0 [] [] ((za 10 s).take ((za 10 s).length - 1)):=by
   rw [if_neg (by omega),if_neg (fun k=>k h2)]
  rw [hR,if_neg (by simp [h]),z0au h]
  clear hR h1 h2
  have hne:=z2p 10 (Go.Lib.trimSuffix s [10])
  generalize za 10 (Go.Lib.trimSuffix s [10])=l at *
  cases l with
  | nil=>exact absurd rfl hne
  | cons w ws =>
   have e:((w::ws)++[[]]).take (((w::ws)++[([]:List UInt8)]).length - 1)=w::ws:=by simp
   have e0:z75 0 0 [] [] (w::ws)=if Go.Lib.hasPrefix w tTx=false then (zTx,1) else if (z0a (w.drop 3)).2=false then (zTx,1) else z0x (z0a (w.drop 3)).1 [] [] ws:=if_pos rfl
   rw [e,e0]
   simp only [List.headD_cons,List.drop_succ_cons,List.drop_zero]
   by_cases hp:Go.Lib.hasPrefix w tTx=true
   ·obtain ⟨h3,-⟩:=zd7 hp
    have h3:Go.Lib.trimPrefix w tTx=w.drop 3:=h3
    rw [hp,h3,z05d]
    cases hw:(z0a (w.drop 3)).2 <;> simp
   ·have hp:Go.Lib.hasPrefix w tTx=false:=by simpa using hp
    rw [hp]
    simp
 ·have hR:(if ((za 10 s).length:Int)<2 then (zTx,(1:Int)) else if (za 10 s).getLastD []≠[] then (zTx,1) else z75 0 0 [] [] ((za 10 s).take ((za 10 s).length - 1)))=(zTx,1):=by
   by_cases h1:((za 10 s).length:Int)<2
   ·rw [if_pos h1]
   ·rw [if_neg h1,if_pos (fun h2=>h (key.1 ⟨by omega,h2⟩))]
  rw [hR,if_pos (by simpa using h)]
noncomputable def z6l:z7:=spD (fun s:List UInt8=>s.length≤4000) fun s=>z09 s
theorem zq6 (s:List UInt8) (h:s.length≤4000):z6l [.s s]=some (eTx (z09 s).1++[I (z09 s).2]):=zd (p:=fun s:List UInt8=>s.length≤4000) (f:=fun s:List UInt8=>z09 s) s h
theorem zif {sp:Nat→z7} {E:Env} {a:Atom} {x:List UInt8} {lo:Atom} {m:Int} (ha:a.val E=some (.s x)) (hl:lo.val E=some (I m)) (h0:0≤m) (h1:m≤x.length):denX sp E (.ssub a (some lo) none)=some (.s (x.drop m.toNat)):=by
 have hb:bndI E 0 (some lo)=some m:=by show asI (lo.val E)=some m;rw [hl];rfl
 have:=zgk (sp:=sp) (lo:=some lo) (hi:=none) (m:=m) (n:=(x.length:Int)) ha hb rfl h0 h1 (by omega)
 rw [this]
 simp
theorem z0be {sp:Nat→z7} {E:Env} {a:Atom} {x:List UInt8} {hi:Atom} {n:Int} (ha:a.val E=some (.s x)) (hh:hi.val E=some (I n)) (h0:0≤n) (h1:n≤x.length):denX sp E (.ssub a none (some hi))=some (.s (x.take n.toNat)):=by
 have hb:bndI E (x.length:Int) (some hi)=some n:=by show asI (hi.val E)=some n;rw [hh];rfl
 have:=zgk (sp:=sp) (lo:=none) (hi:=some hi) (m:=0) (n:=n) ha rfl hb (by omega) h0 h1
 rw [this]
 simp
theorem z0e4 (x:List UInt8) (c:UInt8):Go.Lib.indexByte x c<(x.length:Int):=by
 induction x with
 | nil=>simp [Go.Lib.indexByte]
 | cons b l ih =>
  rw [Go.Lib.indexByte]
  simp only [List.length_cons]
  split
  ·omega
  ·split
   ·omega
   ·omega
attribute [local irreducible] z20 z0x z66 z5i z2s z0a
def z01k:T :=
 .ite (.v 25) (.ret [.c (.i .i64 0),.c (.nil 3),.c (.nil 2),.c (.i .i64 1)]) (.lets [.bin .add (.v 15) (.c (.i .i64 1))] [] (.again 0 [.v 12,.v 13,.v 14,.v 26,.v 23]))
def z01l:T :=
 .ite (.v 21) (.ret [.c (.i .i64 0),.c (.nil 3),.c (.nil 2),.c (.i .i64 1)]) (.lets [.ssub (.v 18) (some (.c (.i .i64 3))) none] [] (.lets [.call 59 [.v 22] 0,.call 59 [.v 22] 1]
 [] (.lets [.not (.v 24)] [] z01k)))
def z01m:T :=
 .lets [.mk 3 [[.v 34,.v 37,.v 24]]] [] (.lets [.app 3 (.v 12) (.v 43)] [] (.lets [.bin .add (.v 15) (.c (.i .i64 1))] [] (.again 0 [.v 44,.v 13,.v 14,.v 45,.v 16])))
def z01n:T :=
 .lets [.len (.v 13)] [] (.lets [.bin .gtr (.v 41) (.c (.i .i64 0))] [] (.ite (.v 42) (.ret [.c (.i .i64 0),.c (.nil 3),.c (.nil 2),.c (.i .i64 1)]) z01m))
def z01o:T :=
 .ite (.v 39) (.ret [.c (.i .i64 0),.c (.nil 3),.c (.nil 2),.c (.i .i64 1)]) (.lets [.not (.v 38)] [] (.ite (.v 40) (.ret [.c (.i .i64 0),.c (.nil 3),.c (.nil 2),.c (.i .i64
 1)]) z01n))
def z01p:T :=
 .lets [] [.inr 1 (.v 28) (.c (.i .i64 2))] (.lets [.idx (.v 28) (.c (.i .i64 2)) 0] [] (.lets [.call 59 [.v 36] 0,.call 59 [.v 36] 1] [] (.lets [.not (.v 35)] [] z01o)))
def z01q:T :=
 .lets [.mk 2 [[.v 38,.v 24]]] [] (.lets [.app 2 (.v 13) (.v 41)] [] (.lets [.bin .add (.v 15) (.c (.i .i64 1))] [] (.again 0 [.v 12,.v 42,.v 14,.v 43,.v 16])))
def z01r:T :=
 .lets [.call 59 [.v 37] 0,.call 59 [.v 37] 1] [] (.lets [.not (.v 39)] [] (.ite (.v 40) (.ret [.c (.i .i64 0),.c (.nil 3),.c (.nil 2),.c (.i .i64 1)]) z01q))
def z01s:T :=
 .ite (.v 36) (.lets [] [.inr 1 (.v 28) (.c (.i .i64 1))] (.lets [.idx (.v 28) (.c (.i .i64 1)) 0] [] z01r)) (.ret [.c (.i .i64 0),.c (.nil 3),.c (.nil 2),.c (.i .i64 1)])
def z01t:T :=
 .ite (.v 34) (.lets [.len (.v 28)] [] (.lets [.bin .eql (.v 35) (.c (.i .i64 2))] [] z01s)) (.ret [.c (.i .i64 0),.c (.nil 3),.c (.nil 2),.c (.i .i64 1)])
def zws:T :=
 .ite (.v 32) (.lets [] [.inr 1 (.v 28) (.c (.i .i64 1))] (.lets [.idx (.v 28) (.c (.i .i64 1)) 0] [] (.lets [.call 59 [.v 33] 0,.call 59 [.v 33] 1] [] z01p))) (.lets []
 [.inr 1 (.v 28) (.c (.i .i64 0))] (.lets [.idx (.v 28) (.c (.i .i64 0)) 0] [] (.lets [.bin .eql (.v 33) (.c (.s [111,117,116]))] [] z01t)))
def zwt:T :=
 .lets [.mk 2 [[.v 36,.v 24]]] [] (.lets [.app 2 (.v 13) (.v 39)] [] (.lets [.bin .add (.v 15) (.c (.i .i64 1))] [] (.again 0 [.v 12,.v 40,.v 14,.v 41,.v 16])))
def zwu:T :=
 .lets [.call 59 [.v 35] 0,.call 59 [.v 35] 1] [] (.lets [.not (.v 37)] [] (.ite (.v 38) (.ret [.c (.i .i64 0),.c (.nil 3),.c (.nil 2),.c (.i .i64 1)]) zwt))
def zwv:T :=
 .ite (.v 34) (.lets [] [.inr 1 (.v 28) (.c (.i .i64 1))] (.lets [.idx (.v 28) (.c (.i .i64 1)) 0] [] zwu)) (.ret [.c (.i .i64 0),.c (.nil 3),.c (.nil 2),.c (.i .i64 1)])
def zww:T :=
 .ite (.v 32) (.lets [.len (.v 28)] [] (.lets [.bin .eql (.v 33) (.c (.i .i64 2))] [] zwv)) (.ret [.c (.i .i64 0),.c (.nil 3),.c (.nil 2),.c (.i .i64 1)])
def zwx:T :=
 .ite (.v 30) (.lets [.len (.v 28)] [] (.lets [.bin .eql (.v 31) (.c (.i .i64 3))] [] zws)) (.lets [] [.inr 1 (.v 28) (.c (.i .i64 0))] (.lets [.idx (.v 28) (.c (.i .i64 0))
 0] [] (.lets [.bin .eql (.v 31) (.c (.s [111,117,116]))] [] zww)))
def zwy:T :=
 .lets [.call 41 [.v 27,.c (.s [32])] 0] [] (.lets [] [.inr 1 (.v 28) (.c (.i .i64 0))] (.lets [.idx (.v 28) (.c (.i .i64 0)) 0] [] (.lets [.bin .eql (.v 29) (.c (.s [105,110]))]
 [] zwx)))
def zwz:T :=
 .lets [.bin .neq (.v 25) (.c (.i .i64 0))] [] (.ite (.v 26) (.ret [.c (.i .i64 0),.c (.nil 3),.c (.nil 2),.c (.i .i64 1)]) (.lets [.ssub (.v 18) none (some (.v 20))] []
 zwy))
def zx0:T :=
 .ite (.v 21) (.ret [.c (.i .i64 0),.c (.nil 3),.c (.nil 2),.c (.i .i64 1)]) (.lets [.bin .add (.v 20) (.c (.i .i64 1))] [] (.lets [.ssub (.v 18) (some (.v 22)) none] [] (.lets
 [.call 60 [.v 23] 0,.call 60 [.v 23] 1] [] zwz)))
def zx1:T :=
 .ite (.v 19) (.lets [.call 46 [.v 18,.c (.s [116,120,32])] 0] [] (.lets [.not (.v 20)] [] z01l)) (.lets [.call 47 [.v 18,.c (.i .u8 58)] 0] [] (.lets [.bin .lss (.v 20)
 (.c (.i .i64 0))] [] zx0))
def zx2:T :=
 .lets [.bin .neq (.v 18) (.c (.i .i64 0))] [] (.ite (.v 19) (.ret [.c (.i .i64 0),.c (.nil 3),.c (.nil 2),.v 18]) (.ret [.v 16,.v 12,.v 13,.c (.i .i64 0)]))
def zx3:T :=
 .ite (.v 17) (.lets [] [.inr 1 (.v 10) (.v 15)] (.lets [.idx (.v 10) (.v 15) 0] [] (.lets [.bin .eql (.v 15) (.c (.i .i64 0))] [] zx1))) (.lets [.call 61 [.v 16,.v 12,.v
 13] 0] [] zx2)
def zx4:T :=
 .lets [.sub 1 (.v 1) none (some (.v 9))] [] (.lets [.len (.v 10)] [] (.loop [.c (.nil 3),.c (.nil 2),.c (.i .i64 0),.c (.i .i64 0),.c (.i .i64 0)] (.lets [.bin .lss (.v 15) (.v
 11)] [] zx3)))
def zx5:T :=
 .ite (.v 7) (.ret [.c (.i .i64 0),.c (.nil 3),.c (.nil 2),.c (.i .i64 1)]) (.lets [.len (.v 1)] [] (.lets [.bin .sub (.v 8) (.c (.i .i64 1))] [] zx4))
def zx6:T :=
 .lets [.bin .sub (.v 4) (.c (.i .i64 1))] [] (.lets [] [.inr 1 (.v 1) (.v 5)] (.lets [.idx (.v 1) (.v 5) 0] [] (.lets [.bin .neq (.v 6) (.c (.s []))] [] zx5)))
def zx7:T :=
 .lets [.bin .lss (.v 2) (.c (.i .i64 2))] [] (.ite (.v 3) (.ret [.c (.i .i64 0),.c (.nil 3),.c (.nil 2),.c (.i .i64 1)]) (.lets [.len (.v 1)] [] zx6))
def zg3:T :=
 .lets [.call 41 [.v 0,.c (.s [10])] 0] [] (.lets [.len (.v 1)] [] zx7)
attribute [local irreducible] z35 z4s z6y z6x z3m z0b
theorem z089:Meets Tryz.prog z6l 71 ⟨[.one],[(true,[.scal,.pure,.pure]),(false,[.scal])],false⟩:=by
 refine z7i (sp:=(z0g [(41,z0b),(46,z35),(47,z4s),(59,z3m),(60,z6x),(61,z6y)])) (sigs:=z0k) (cut:=[]) (hints:=[⟨7,[.n 4 1 660 97 3,.c 4 1 660,.n 4 2 661 100 2,.c 4 2 661,.t 3,.t 46,.o 4]⟩]) (fns:=[z9t 146 Tryz.f146 [] []]) (dep:=1) (pool:=600) (fn:=Tryz.f71) (t:=zg3) (by kernel_rfl) (by kernel_rfl) (by kernel_rfl) ?_ ?_ ?_
 ·exact (z2k (fn:=Tryz.f146) (by kernel_rfl) (by kernel_rfl) (by kernel_rfl) (by kernel_rfl) (by kernel_rfl) z8t)
 ·exact (z04 (L:=[(41,z0b),(46,z35),(47,z4s),(59,z3m),(60,z6x),(61,z6y)]) ⟨z6 rfl z6j,z6 rfl zh3,z6 rfl zzx,z6 rfl zid,z6 rfl z05a,z6 rfl z05b,trivial⟩)
 ·rintro ds rs hok h
  obtain ⟨s,hs,rfl,rfl⟩:=zl h
  clear h
  refine ⟨⟨s.length+5000,?_⟩,?_⟩
  ·show den _ _ zg3 [.s s] []=ret (z09 s)
   rw [z05e hs]
   have a1:=z2e s 10 (by omega)
   have hcl:=z3l 10 s
   have hne:=z2p 10 s
   generalize za 10 s=l at *
   unfold zg3
   repeat' (first|refine dq1 ?_|refine dqc ?_|refine dqk rfl (a1) ?_|exact z5 rfl rfl|refine tR (fun h=>?_) fun h=>?_|fail)
   obtain ⟨ws,w0,rfl⟩:∃ ws w,l=ws++[w]:=by
    rcases List.eq_nil_or_concat l with h|⟨ws,w,h⟩
    ·exact absurd h hne
    ·exact ⟨ws,w,by simpa using h⟩
   have hlen:((ws++[w0]).length:Int) - 1=(ws.length:Int):=by simp
   have hln:(ws++[w0]).length=ws.length+1:=by simp
   have hx:(ws++[w0])[(((ws++[w0]).length:Int) - 1).toNat]? = some w0:=by rw [hlen];simp
   have ht:(ws++[w0]).take (((ws++[w0]).length:Int) - 1).toNat=ws:=by rw [hlen];simp
   have ht2:(ws++[w0]).take ((ws++[w0]).length - 1)=ws:=by simp
   have hg:(ws++[w0]).getLastD []=w0:=by simp
   rw [hg,ht2]
   repeat' (first|refine dq1 ?_|exact z5 rfl rfl|refine tR (fun h=>?_) fun h=>?_|fail)
   (refine zy (fun (a:List In × List Out × Int) k=>[.l 3 (a.1.map eIn),.l 2 (a.2.1.map z27),I 0,I k,I a.2.2]) (fun (a:List In × List Out × Int) k (r:List (List UInt8))=>z75 k a.2.2 a.2.1 a.1 r) (fun a k=>a.1.length+a.2.1.length≤k) ([],[],0) ws ?_ ?_ ?_ ?_ ?_;rfl;exact Nat.zero_le _;omega)
   ·rintro ⟨i,o,n⟩ k x r hx hd hk ha again hag
    simp only at ha hag ⊢
    have hxl:x.length≤4000:=by have:=hcl.2 x (List.mem_append_left _ (List.mem_of_getElem? hx));omega
    have hgo:∀ (n:Int) (i:List In) (o:List Out),z75 (k+1) n o i r=z0x n o i r:=fun n i o=>if_neg (by omega)
    by_cases hk0:k=0
    ·subst hk0
     have e0:z75 0 n o i (x::r)=if Go.Lib.hasPrefix x tTx=false then (zTx,1) else if (z0a (x.drop 3)).2=false then (zTx,1) else z0x (z0a (x.drop 3)).1 o i r:=if_pos rfl
     rw [e0]
     have a2:=zc0 x tTx
     have hpl:=fun h=>(zd7 (x:=x) (p:=tTx) h).2
     have a3:=z4w (x.drop 3) (by rw [List.length_drop];omega)
     have hag':=hag (i,o,(z0a (x.drop 3)).1) (by simp only;omega)
     simp only at hag'
     rw [hgo] at hag'
     generalize z0a (x.drop 3)=nb at *
     obtain ⟨m,g⟩:=nb
     simp only at a3 hag' ⊢
     cases hp:Go.Lib.hasPrefix x tTx with
     | false =>
      rw [hp] at a2
      rw [if_pos rfl]
      repeat' (first|refine dq1 ?_|refine dqc ?_|refine dqk rfl (a2) ?_|exact z5 rfl rfl|refine dqT ?_|refine z19 rfl ?_|fail)
     | true =>
      rw [hp] at a2
      have hpl:=hpl hp
      have h3:3≤x.length:=hpl
      rw [if_neg (by simp)]
      cases g with
      | false =>
       rw [if_pos rfl]
       repeat' (first|refine dq1 ?_|refine dqc ?_|refine dqk rfl (a2) ?_|refine dqK rfl (a3) ?_|refine z4 (zif rfl rfl (by omega) (by omega)) ?_|exact z5 rfl rfl|refine dqT ?_|refine z19 rfl ?_|refine z13 rfl ?_|fail)
      | true =>
       rw [if_neg (by simp)]
       repeat' (first|refine dq1 ?_|refine dqc ?_|refine dqk rfl (a2) ?_|refine dqK rfl (a3) ?_|refine z4 (zif rfl rfl (by omega) (by omega)) ?_|refine dqT ?_|refine z13 rfl ?_|fail)
       exact z9 rfl rfl hag'
    ·have e0:z75 k n o i (x::r)=z0x n o i (x::r):=if_neg hk0
     rw [e0]
     have b1:=zk6 x 58
     have hjl:=z0e4 x 58
     have hj0:(58:Int).toNat.toUInt8=58:=rfl
     rw [hj0] at b1
     generalize hj:Go.Lib.indexByte x 58=j at *
     have hne2:=z2p 32 (x.take j.toNat)
     have hcw:=z3l 32 (x.take j.toNat)
     have b2:=z2e (x.take j.toNat) 32 (by rw [List.length_take];omega)
     have b3:=zm9 (x.drop (j+1).toNat) (by rw [List.length_drop];omega)
     generalize hv:za 32 (x.take j.toNat)=v at *
     cases v with
     | nil=>exact absurd rfl hne2
     | cons v0 vs =>
     generalize hr:z18 (x.drop (j+1).toNat)=rd at *
     obtain ⟨l,e⟩:=rd
     simp only at b3
     rw [z01j n r o i x hj hv hr]
     have hv0:(v0::vs)[0]? = some v0:=rfl
     have hvn:(v0::vs).length=vs.length+1:=rfl
     have htl:(x.take j.toNat).length≤4000:=by rw [List.length_take];omega
     repeat' (first|refine dq1 ?_|refine dqc ?_|refine dqk rfl (b1) ?_|refine dqk rfl (b2) ?_|refine dqK rfl (b3) ?_|refine z4 (zif rfl rfl (by omega) (by omega)) ?_|refine z4 (z0be rfl rfl (by omega) (by omega)) ?_|exact z5 rfl rfl|refine tR (fun h=>?_) fun h=>?_|refine dqT ?_|refine dqF ?_|fail)
     clear b1 b2 b3
     have hcw2:=hcw.2
     have hww:∀ y,y ∈ v0::vs→y.length≤1000000000:=fun y hy=>by have:=hcw2 y hy;omega
     clear hcw hcw2
     have hag:=fun (s':List In × List Out × Int) (h:s'.1.length+s'.2.1.length≤k+1)=>hag s' h
     simp only [hgo] at hag
     by_cases c1:v0=tIn
     ·subst c1
      by_cases c2:vs.length=2
      ·match vs,c2 with
       | [wa,wb],_ =>
       rw [z0bd]
       have xa:[tIn,wa,wb][(1:Int).toNat]? = some wa:=rfl
       have xb:[tIn,wa,wb][(2:Int).toNat]? = some wb:=rfl
       have xl:[tIn,wa,wb].length=3:=rfl
       have d1:=z4w wa (hww wa (by simp))
       have d2:=z4w wb (hww wb (by simp))
       generalize z0a wa=pa at *
       generalize z0a wb=pb at *
       obtain ⟨na,oka⟩:=pa
       obtain ⟨nb,okb⟩:=pb
       simp only at d1 d2 ⊢
       repeat' (first|refine dq1 ?_|refine dqc ?_|refine dqK rfl (d1) ?_|refine dqK rfl (d2) ?_|refine z4 (z1h rfl rfl (by simp)) ?_|refine z4 (z6g (x:=⟨⟨na,nb⟩,l⟩) (fun _=>rfl) rfl rfl (by omega)) ?_|exact z5 rfl rfl|((first|refine tR ?_ ?_|refine tG ?_ ?_) <;> intro h)|refine dqT ?_|refine z19 rfl ?_|fail)
       exact z9 rfl rfl (hag (i++[⟨⟨na,nb⟩,l⟩],o,n) (by simp;omega))
      ·rw [zie _ _ _ _ _ _ _ (fun h=>c2 h.2) (fun h=>absurd h.1 (by decide))]
       repeat' (first|refine dq1 ?_|refine dqc ?_|exact z5 rfl rfl|refine dqF ?_|refine z19 rfl ?_|refine z13 rfl ?_|fail)
     ·by_cases c3:v0=z36
      ·subst c3
       by_cases c4:vs.length=1
       ·match vs,c4 with
        | [wa],_ =>
        rw [z088]
        have xa:[z36,wa][(1:Int).toNat]? = some wa:=rfl
        have xl:[z36,wa].length=2:=rfl
        have d1:=z4w wa (hww wa (by simp))
        generalize z0a wa=pa at *
        obtain ⟨na,oka⟩:=pa
        simp only at d1 ⊢
        repeat' (first|refine dq1 ?_|refine dqc ?_|refine dqK rfl (d1) ?_|refine z4 (z1h rfl rfl (by simp)) ?_|refine z4 (z6g (x:=⟨na,l⟩) (fun _=>rfl) rfl rfl (by omega)) ?_|exact z5 rfl rfl|refine tG (fun h=>?_) fun h=>?_|refine dqT ?_|refine dqF ?_|refine z19 rfl ?_|fail)
        exact z9 rfl rfl (hag (i,o++[⟨na,l⟩],n) (by simp;omega))
       ·rw [zie _ _ _ _ _ _ _ (fun h=>absurd h.1 (by decide)) (fun h=>c4 h.2)]
        repeat' (first|refine dq1 ?_|refine dqc ?_|exact z5 rfl rfl|refine dqF ?_|refine z19 rfl ?_|fail)
      ·rw [zie _ _ _ _ _ _ _ (fun h=>c1 h.1) (fun h=>c3 h.1)]
       repeat' (first|refine dq1 ?_|refine dqc ?_|exact z5 rfl rfl|refine dqF ?_|fail)
   ·rintro ⟨i,o,n⟩ ha again
    simp only at ha ⊢
    have e0:z75 ws.length n o i []=if zb ⟨n,i,o⟩≠0 then (zTx,zb ⟨n,i,o⟩) else (⟨n,i,o⟩,0):=by
     have e1:z75 ws.length n o i []=z0x n o i []:=by unfold z75;split <;> rfl
     rw [e1]
     with_unfolding_all rfl
    rw [e0]
    have b5:=zma ⟨n,i,o⟩
    simp only at b5
    repeat' (first|refine dq1 ?_|refine dqk rfl (b5) ?_|exact z5 rfl rfl|refine tR (fun h=>?_) fun h=>?_|refine dqF ?_|fail)
  ·intro i d hi hd
   match i,hi,hd with
   | 0,_,hd =>
    obtain rfl:I (z09 s).1.height=d:=Option.some.inj hd
    rfl
   | 1,hi,_=>simp [zh] at hi
   | 2,hi,_=>simp [zh] at hi
   | 3,_,hd =>
    obtain rfl:I (z09 s).2=d:=Option.some.inj hd
    rfl
   | i+4,hi,hd=>simp [zh] at hi
end
section
open Go.RowKit
def zmb:List CF→List Dt→Prop
 | .scal::fs,d::ds=>d.scal=true∧zmb fs ds
 | _::fs,_::ds=>zmb fs ds
 | _,_=>True
theorem zmc:∀ {fs:List CF} {ds:List Dt},zmb fs ds→∀ (j:Nat) (d:Dt),fs[j]? = some .scal→ds[j]? = some d→d.scal=true
 | [],_,_,j,d,hf,_=>by cases hf
 | _::_,[],_,j,d,_,hd=>by cases hd
 | c::fs,x::ds,h,j,d,hf,hd=>by
  cases j with
  | zero =>
   simp only [List.getElem?_cons_zero,Option.some.injEq] at hf hd
   subst hf;subst hd
   exact h.1
  | succ j =>
   have h':zmb fs ds:=by
    cases c with
    | scal=>exact h.2
    | pure=>exact h
    | fresh e sz=>exact h
   exact zmc h' j d (by simpa using hf) (by simpa using hd)
theorem z7p {s:Sig} {rs:List Dt} (h:zmb (zh s) rs):z5t s rs:=fun i d h1 h2=>zmc h i d h1 h2
def zmd:List CF→Bool
 | []=>true
 | .fresh _ _::_=>false
 | _::fs=>zmd fs
theorem zck:∀ {fs:List CF},zmd fs=true→∀ c ∈ fs,c = .scal∨c = .pure
 | [],_,c,h=>by cases h
 | x::fs,h,c,hc=>by
  cases x with
  | scal =>
   rcases List.mem_cons.1 hc with rfl|hc
   ·exact .inl rfl
   ·exact zck (fs:=fs) h c hc
  | pure =>
   rcases List.mem_cons.1 hc with rfl|hc
   ·exact .inr rfl
   ·exact zck (fs:=fs) h c hc
  | fresh e sz=>cases h
section
variable {W W':World} {F F':Nat→Prop} {pk:List PK} {b:Bool}
theorem resP {s:Sig} {rs:List Dt} {v:Value} {us:List Value} (hv:zld s.res v us) (hc:zmd (zh s)=true) (hs:zmb (zh s) rs) (hr:Reps W' F' rs us) (hl:rs.length=(zh s).length) (hF':∀ b,F' b→F b∨(W.heap.size≤b∧b<W'.heap.size)):∃ us F',ResR W F W' s rs v us F' :=
 ⟨us,F',zdp hv (zck hc) (zmc hs) hl hr hF'⟩
end
end
section
open Go.RowKit
set_option maxRecDepth 100000
set_option maxHeartbeats 4000000
theorem zeh:∀ s:List UInt8,(zk s).length≤s.length+1∧∀ x ∈ zk s,x.length≤s.length
 | []=>⟨by simp [zk],by simp [zk]⟩
 | b::s=>by
  obtain ⟨h1,h2⟩:=zeh s
  rw [zk]
  by_cases hb:b=10
  ·rw [if_pos hb]
   refine ⟨by simp only [List.length_cons];omega,fun x hx=>?_⟩
   rcases List.mem_cons.1 hx with rfl|hx
   ·simp
   ·have:=h2 x hx;simp only [List.length_cons];omega
  ·rw [if_neg hb]
   cases hl:zk s with
   | nil=>exact ⟨by simp,by simp⟩
   | cons y ys =>
    rw [hl] at h1 h2
    refine ⟨by simp only [List.length_cons] at h1 ⊢;omega,fun x hx=>?_⟩
    rcases List.mem_cons.1 hx with rfl|hx
    ·have:=h2 y (List.mem_cons_self ..);simp only [List.length_cons];omega
    ·have:=h2 x (List.mem_cons_of_mem _ hx);simp only [List.length_cons];omega
theorem z08a (s:List UInt8):zk s≠[]:=by
 cases s with
 | nil=>simp [zk]
 | cons b s =>
  rw [zk]
  split
  ·simp
  ·split <;> simp
noncomputable def z6z:z7:=spD (fun x:List UInt8 × List UInt8 × Int × Int=>x.1.length≤1000000000∧x.2=([10],1,-1)) fun x=>zk x.1
theorem zme (s:List UInt8) (h:s.length≤1000000000):z6z [.s s,.s [10],I 1,I (-1)]=some [.l 1 ((zk s).map z26)]:=zd (p:=fun x:List UInt8 × List UInt8 × Int × Int=>x.1.length≤1000000000∧x.2=([10],1,-1)) (f:=fun x:List UInt8 × List UInt8 × Int × Int=>zk x.1) (s,[10],1,-1) ⟨h,rfl⟩
theorem z05f:Meets Tryz.prog z6z 141 ⟨[.one,.one,.one,.one],[(false,[.pure])],false⟩ :=
 z1r rfl (z0v (fn:=Tryz.f141) (by kernel_rfl) (by kernel_rfl) (by kernel_rfl)) fun ⟨s,q⟩ ⟨hs,hq⟩ W F us hF h=>by
  simp only at hq hs
  subst hq
  obtain ⟨v,us,rfl,h1,h⟩:=zo h
  obtain ⟨v2,us,rfl,h2,h⟩:=zo h
  obtain ⟨v3,us,rfl,h3,h⟩:=zo h
  obtain ⟨v4,us,rfl,h4,h⟩:=zo h
  obtain rfl:=z0n h
  obtain ⟨rfl,-⟩:=z0u h1
  obtain ⟨rfl,-⟩:=z0u h2
  obtain ⟨rfl,-⟩:=z6i h3
  obtain ⟨rfl,-⟩:=z6i h4
  obtain ⟨m,hm⟩:=z9k hF.2.2.2.1 (g:=Tryz.lays221_ren.g 1) (by kernel_rfl)
  have h1s:1≤(⟨[10].toArray⟩:ByteArray).size:=by rw [z3h];exact Nat.le_refl _
  have hall:=Go.Lib.splitB_all ⟨[10].toArray⟩ h1s 1 _ ⟨s.toArray⟩ rfl
  have hd:=Go.Lib.splitB_data ⟨[10].toArray⟩ 1 (Go.Lib.countB ⟨s.toArray⟩ ⟨[10].toArray⟩) ⟨s.toArray⟩
  have hcut:Go.Lib.splitK [10] 1 (Go.Lib.countB ⟨s.toArray⟩ ⟨[10].toArray⟩) s=zk s:=zw6 s.length s (Nat.le_refl _)
  have hd:(Go.Lib.splitB ⟨[10].toArray⟩ 1 (Go.Lib.countB ⟨s.toArray⟩ ⟨[10].toArray⟩) ⟨s.toArray⟩).map (·.data.toList)=zk s:=hd.trans hcut
  have hcl:=Go.Lib.countB_le ⟨[10].toArray⟩ h1s (⟨s.toArray⟩:ByteArray).size ⟨s.toArray⟩ (Nat.le_refl _)
  refine (Any.strings_genSplit { Tryz.lays221 with } Tryz.lays221.i9 ⟨s.toArray⟩ ⟨[10].toArray⟩ 1 (-1) (Go.Lib.countB ⟨s.toArray⟩ ⟨[10].toArray⟩+1) m W (by rw [z3h];omega) hm h1s h1s (by decide) (by decide) (by rw [if_pos (by decide)];omega)).mono ?_
  rw [Nat.add_sub_cancel,hall]
  rintro e w' ⟨rfl,rfl⟩
  have hln:Go.Lib.countB ⟨s.toArray⟩ ⟨[10].toArray⟩+1=(zk s).length:=by rw [← hall,← hd,List.length_map]
  obtain ⟨hc1,hc2⟩:=zeh s
  have e2:Go.Lib.cellsOf (Go.Lib.splitB ⟨[10].toArray⟩ 1 (Go.Lib.countB ⟨s.toArray⟩ ⟨[10].toArray⟩) ⟨s.toArray⟩) (Go.Lib.countB ⟨s.toArray⟩ ⟨[10].toArray⟩+1)=((zk s).map fun x=>Value.string ⟨x.toArray⟩).toArray:=by
   rw [← hall,Go.Lib.cellsOf_full,Go.Lib.pieces_eq hd]
  rw [e2,hln]
  refine ⟨_,rfl,(Below.refl _ _).alloc (Nat.le_refl _) _,?_⟩
  exact zi4 (fun x hx=>by have:=hc2 x hx;omega) (by omega)
attribute [local irreducible] z08 spD zk
attribute [local irreducible] den denX z0r z14
noncomputable def z5e:z7:=spD (fun x:List UInt8 × List UInt8=>x.1.length≤1000000000∧x.2=[10]) fun x=>zk x.1
theorem zig (s:List UInt8) (h:s.length≤1000000000):z5e [.s s,.s [10]]=some [.l 1 ((zk s).map z26)]:=zd (p:=fun x:List UInt8 × List UInt8=>x.1.length≤1000000000∧x.2=[10]) (f:=fun x:List UInt8 × List UInt8=>zk x.1) (s,[10]) ⟨h,rfl⟩
def zbk:T :=
 .lets [.slen (.v 1)] [] (.lets [.call 101 [.v 0,.v 1,.v 2,.c (.i .i64 (-1))] 0] [] (.ret [.v 3]))
attribute [local irreducible] z6z
theorem zx8:Meets Tryz.prog z5e 66 ⟨[.one,.one],[(false,[.pure])],false⟩:=by
 refine zn (sp:=(z0g [(101,z6z)])) (sigs:=z0k) (cut:=[]) (hints:=[]) (fn:=Tryz.f66) (t:=zbk) (by kernel_rfl) (by kernel_rfl) (by kernel_rfl) ?_ ?_
 ·exact (z04 (L:=[(101,z6z)]) ⟨z6 rfl z05f,trivial⟩)
 ·rintro ds rs - h
  obtain ⟨⟨s,q⟩,⟨hs,rfl⟩,rfl,rfl⟩:=zl h
  clear h
  simp only at hs
  refine ⟨⟨1,?_⟩,z7p trivial⟩
  show den _ _ zbk [.s s,.s [10]] []=ret (zk s)
  have a1:=zme s hs
  unfold zbk
  repeat' (first|refine dq1 ?_|refine dqc ?_|refine dqm ?_|refine dqK rfl (a1) ?_|exact z5 rfl rfl|((first|refine tR ?_ ?_|refine tB ?_ ?_|refine tC ?_ ?_|refine tN ?_ ?_|refine tF ?_ ?_|refine tG ?_ ?_|refine tP ?_ ?_|refine tQ ?_ ?_|refine tA ?_ ?_|refine tO ?_ ?_|refine tU ?_ ?_|refine tV ?_ ?_) <;> intro h)|refine dqT ?_|refine dqF ?_|refine z19 rfl ?_|refine z13 rfl ?_|refine dqTn ?_|refine dqFn ?_)
end
section
open Go.RowKit
end
section
open Go.RowKit
set_option maxRecDepth 100000
set_option maxHeartbeats 4000000
theorem zoj:∀ l s:List (List UInt8),Er (z9i l s)
 | [],_=>z0q _ rfl
 | x::l,s=>z1d (z0q _ rfl) (z1d (z0q _ rfl) (zoj l _))
theorem z0e5 (k:Book):Er (z1j k):=z1d (z0q _ rfl) (zoj _ _)
theorem z0bh (t:List (List UInt8)) (s:List UInt8):Er (z55 t s):=z1d (z0q _ rfl) (z1d (z0q _ rfl) (z0q _ rfl))
theorem zxa:∀ (l t:List (List UInt8)) (o:List Int),Er (z6h l t o).2.2
 | [],t,o=>z0q _ rfl
 | s::l,t,o=>by
  rw [z6h]
  split
  ·exact z0q _ rfl
  ·split
   ·exact z0bh _ _
   ·exact zxa l _ _
theorem z05i (k:Book) (l:List (List UInt8)):Er (z0o k l).2.2:=by
 unfold z0o
 split
 ·exact z0e5 k
 ·exact zxa _ _ _
theorem zok {n:Int} (h:0≤n∧n≤1000):I64 n:=⟨by have:=h.1;omega,by have:=h.2;omega⟩
noncomputable def zxb:z7:=spD (fun _:Book=>True) fun k=>z1j k
theorem z0gf {W W':World} {F:Nat→Prop}:∀ b,Mid W W' b→F b∨(W.heap.size≤b∧b<W'.heap.size):=fun b h=>.inr h
noncomputable def z8g:z7:=spD (fun x:Book × List (List UInt8)=>x.2.length≤8796093022207) fun x=>z0o x.1 x.2
theorem zq7 (k:Book) (l:List (List UInt8)) (h:l.length≤8796093022207):z8g [.l 1 (k.texts.map z26),.l 1 (l.map z26)]=some [.l 1 ((z0o k l).1.map z26),.l 1 ((z0o k l).2.1.map z1c),I (z0o k l).2.2]:=zd (p:=fun x:Book × List (List UInt8)=>x.2.length≤8796093022207) (f:=fun x:Book × List (List UInt8)=>z0o x.1 x.2) (k,l) h
theorem z08e:Meets Tryz.prog z8g 126 ⟨[.agg 1,.one],[(true,[.pure]),(false,[.pure]),(false,[.scal])],false⟩ :=
 z1r rfl (z0v (fn:=Tryz.f126) (by kernel_rfl) (by kernel_rfl) (by kernel_rfl)) fun x hx W F us hF h=>by
  obtain ⟨k,l⟩:=x
  obtain ⟨cs,us,rfl,h1,h⟩:=z02u (d1:=zbu k) (d2:=Enc.e l) h rfl
  obtain ⟨v,us,rfl,h2,h⟩:=zo h
  obtain rfl:=z0n h
  obtain ⟨A,n,c,rfl,hl⟩:=z4m zgh h2
  have:=hl.1
  simp only at hx
  refine (z0di k cs l A n c W F (she_book.of h1) hl hF.1 (by omega)).mono ?_
  rintro e w' ⟨A,n,c,A',n',c',rfl,hr,hr',hb⟩
  refine ⟨_,rfl,hb,?_⟩
  exact resP (us:=[.slice A n c,.slice A' n' c',.int .i64 (z0o k l).2.2]) (F':=Mid W w') ⟨[.agg #[.slice A n c],.slice A' n' c',.int .i64 (z0o k l).2.2],rfl,.agg #[.slice A n c],_,[.slice A n c],_,rfl,rfl,⟨rfl,rfl⟩,.slice A' n' c',_,[.slice A' n' c'],_,rfl,rfl,⟨rfl,rfl⟩,.int .i64 (z0o k l).2.2,[],[.int .i64 (z0o k l).2.2],[],rfl,rfl,⟨rfl,rfl⟩,rfl,rfl⟩ rfl ⟨rfl,trivial⟩ ⟨zgi zgh hr,zgi z3b hr',.i _ _ (wrap_i64 (z05i k l).i64),trivial⟩ rfl z0gf
noncomputable def z30:z7:=spD (fun _:Block=>True) fun k=>ze k
theorem zda (b:Block):z30 [I b.parent,I b.height,I b.work,I b.nonce,.l 3 (b.txs.map eTx)]=some [I (ze b)]:=zd (f:=fun k:Block=>ze k) b trivial
theorem zkn:Meets Tryz.prog z30 15 ⟨[.agg 5],[(false,[.scal])],true⟩ :=
 z85 rfl (z0v (fn:=Tryz.f15) (by kernel_rfl) (by kernel_rfl) (by kernel_rfl)) fun k _ W F us hF h=>by
  obtain ⟨cs,rfl,hr⟩:=z78 h
  exact ⟨(zsg k).i64,zcu k cs W F (she_block.of hr) hF.1⟩
theorem zol (n:Int):0≤z2d n∧z2d n≤1000:=by
  unfold z2d
  split
  ·exact ⟨by decide,by decide⟩
  ·rename_i h
   have h1:(0:Int)≤2 ^ (min ((n - 1) / 8) 30).toNat:=Int.pow_nonneg (by decide)
   have h2:=Int.ediv_nonneg (show (0:Int)≤64 by decide) h1
   have h3:=Int.ediv_le_self (2 ^ (min ((n - 1) / 8) 30).toNat) (show (0:Int)≤64 by decide)
   exact ⟨h2,by omega⟩
theorem zom (n:Int):I64 (z2d n)∧I64 (z5g n):=by
 have h1:=zol n
 have h2:0≤z5g n∧z5g n≤1000:=by
  unfold z5g
  split <;> exact ⟨by decide,by decide⟩
 exact ⟨zok h1,zok h2⟩
noncomputable def z5f:z7:=spD (fun _:Int=>True) fun n=>(z2d n,z5g n)
theorem zih (n:Int):z5f [I n]=some [I (z2d n),I (z5g n)]:=zd (f:=fun n:Int=>(z2d n,z5g n)) n trivial
theorem z0e6 (n:Int) (w:World):Calls Tryz.prog 128 #[.int .i64 n] w fun e w'=>e = .returned (.tuple #[.int .i64 (z2d n),.int .i64 (z5g n)])∧w=w':=by
 by_cases h:n<1∨1000<n
 ·go_enter Tryz.func128,Tryz.ntmps128
  go_wp2
  all_goals (go_ret2;refine ⟨z5q ?_ ?_,rfl⟩)
  all_goals simp [z2d,z5g,h]
 ·have h1:1≤n:=by omega
  have h2:n≤1000:=by omega
  go_enter Tryz.func128,Tryz.ntmps128
  go_wp2
  all_goals (go_ret2;refine ⟨z5q ?_ ?_,rfl⟩)
  all_goals first|(simp only [z2d];rw [if_neg (by omega)])|(simp [z5g];omega)
theorem zxc:Meets Tryz.prog z5f 128 ⟨[.one],[(false,[.scal]),(false,[.scal])],true⟩ :=
 z1r rfl (z0v (fn:=Tryz.f128) (by kernel_rfl) (by kernel_rfl) (by kernel_rfl)) fun n _ W F us hF h=>by
  obtain ⟨v,us,rfl,h2,h⟩:=zo (d:=I n) h
  obtain rfl:=z0n h
  obtain ⟨rfl,hn⟩:=z6i h2
  refine (z0e6 n W).mono ?_
  rintro e w' ⟨rfl,rfl⟩
  exact ⟨_,rfl,Below.refl _ _,z4q rfl rfl (.i _ _ (wrap_i64 (zom n).1)) (.i _ _ (wrap_i64 (zom n).2))⟩
noncomputable def z08f:z7:=spD (fun _:List Int × Int=>True) fun x=>idx x.1 x.2
noncomputable def z0bi:z7:=spD (fun l:List Int=>l.length≤1000000) fun l=>l
noncomputable def z08g:z7:=spD (fun _:List Int=>True) fun l=>l.reverse
end
section
open Go.RowKit
open Go.Lib (itoa)
set_option maxRecDepth 100000
set_option maxHeartbeats 4000000
def zgo (b:Block):List (List UInt8):=b.txs.map fun t=>(z0p t).1
def zei (k:Book) (s:List UInt8) (l:List (List UInt8)):List (List UInt8) × Int × List Int × Int :=
 if (z0o k (l++[s])).2.2≠0 then ([],0,[],(z0o k (l++[s])).2.2) else
 ((z0o k (l++[s])).1,((z0o k (l++[s])).2.1).getD l.length 0,((z0o k (l++[s])).2.1).take l.length,0)
def z12 (k:Book) (b:Block):List (List UInt8) × Int × List Int × Int :=
 if (z07 b).2≠0 then ([],0,[],(z07 b).2) else zei k (z07 b).1 (zgo b)
theorem zon:∀ (l t:List (List UInt8)) (o:List Int),(z6h l t o).2.2=0→(z6h l t o).2.1.length=o.length+l.length
 | [],t,o,_=>by simp [z6h]
 | s::l,t,o,h=>by
  rw [z6h] at h ⊢
  split at h
  ·cases h
  rename_i h1
  rw [if_neg h1]
  split at h
  ·rename_i h2;exact absurd h h2
  rename_i h2
  rw [if_neg h2]
  rw [zon l _ _ h]
  simp;omega
theorem zhg {k:Book} {l:List (List UInt8)} (h:(z0o k l).2.2=0):(z0o k l).2.1.length=l.length:=by
 unfold z0o at h ⊢
 split at h
 ·rename_i h1;exact absurd h h1
 rename_i h1
 rw [if_neg h1]
 simpa using zon l k.texts [] h
theorem zeu {b:Block} (h:(z07 b).2=0):ze b=0:=by
 unfold z07 at h
 by_cases hb:ze b=0
 ·exact hb
 ·rw [if_pos hb] at h;exact absurd h hb
attribute [local irreducible] z08 spD z0o z07 z0p
attribute [local irreducible] den denX z0r z14
noncomputable def z3n:z7:=spD (fun _:Book × Block=>True) fun x=>z12 x.1 x.2
theorem zdb (k:Book) (b:Block):z3n [.l 1 (k.texts.map z26),I b.parent,I b.height,I b.work,I b.nonce,.l 3 (b.txs.map eTx)]=some [.l 1 ((z12 k b).1.map z26),I (z12 k b).2.1,.l 1 ((z12 k b).2.2.1.map z1c),I (z12 k b).2.2.2]:=zd (f:=fun x:Book × Block=>z12 x.1 x.2) (k,b) trivial
theorem z8h (b:Block):z1u [I b.parent,I b.height,I b.work,I b.nonce,.l 3 (b.txs.map eTx)]=some [.s (z07 b).1,I (z07 b).2]:=zm5 b
theorem zmf (t:Tx):z6k [I t.height,.l 3 (t.ins.map eIn),.l 2 (t.outs.map z27)]=some [.s (z0p t).1,I (z0p t).2]:=zps t
def zxd:T :=
 .lets [.call 64 [.v 13,.v 14,.v 15] 0,.call 64 [.v 13,.v 14,.v 15] 1] [] (.lets [.mk 1 [[.v 16]]] [] (.lets [.app 1 (.v 10) (.v 18)] [] (.lets [.bin .add (.v 11) (.c (.i .i64
 1))] [] (.again 0 [.v 19,.v 20]))))
def zxe:T :=
 .lets [.len (.v 10)] [] (.lets [.sub 1 (.v 16) none (some (.v 21)),.sub 1 (.v 16) (some (.v 21)) (some (.v 22))] [] (.ret [.v 15,.v 20,.v 23,.c (.i .i64 0)]))
def zxf:T :=
 .ite (.v 18) (.ret [.c (.nil 1),.c (.i .i64 0),.c (.nil 1),.v 17]) (.lets [.len (.v 10)] [] (.lets [] [.inr 1 (.v 16) (.v 19)] (.lets [.idx (.v 16) (.v 19) 0] [] (.lets [.len (.v
 10)] [] zxe))))
def zxg:T :=
 .lets [.app 1 (.v 10) (.v 13)] [] (.lets [.call 71 [.v 0,.v 14] 0,.call 71 [.v 0,.v 14] 1,.call 71 [.v 0,.v 14] 2] [] (.lets [.bin .neq (.v 17) (.c (.i .i64 0))] []
 zxf))
def zxh:T :=
 .ite (.v 12) (.lets [] [.inr 3 (.v 5) (.v 11)] (.lets [.idx (.v 5) (.v 11) 0,.idx (.v 5) (.v 11) 1,.idx (.v 5) (.v 11) 2] [] zxd)) (.lets [.mk 1 [[.v 6]]] []
 zxg)
def zxi:T :=
 .ite (.v 8) (.ret [.c (.nil 1),.c (.i .i64 0),.c (.nil 1),.v 7]) (.lets [.len (.v 5)] [] (.loop [.c (.nil 1),.c (.i .i64 0)] (.lets [.bin .lss (.v 11) (.v 9)] [] zxh)))
def zej:T :=
 .lets [.call 65 [.v 1,.v 2,.v 3,.v 4,.v 5] 0,.call 65 [.v 1,.v 2,.v 3,.v 4,.v 5] 1] [] (.lets [.bin .neq (.v 7) (.c (.i .i64 0))] [] zxi)
attribute [local irreducible] z1u z8g z6k
theorem zko:Meets Tryz.prog z3n 58 ⟨[.agg 1,.agg 5],[(true,[.pure]),(false,[.scal]),(false,[.pure]),(false,[.scal])],false⟩:=by
 refine zn (sp:=(z0g [(64,z6k),(65,z1u),(71,z8g)])) (sigs:=z0k) (cut:=[]) (hints:=[⟨6,[.r 9 9 1,.t 27]⟩]) (fn:=Tryz.f58) (t:=zej) (by kernel_rfl) (by kernel_rfl) (by kernel_rfl) ?_ ?_
 ·exact (z04 (L:=[(64,z6k),(65,z1u),(71,z8g)]) ⟨z6 rfl z07v,z6 rfl ze7,z6 rfl z08e,trivial⟩)
 ·rintro ds rs hok h
  obtain ⟨⟨k,b⟩,-,rfl,rfl⟩:=zl h
  clear h
  refine ⟨⟨100,?_⟩,z7p ⟨rfl,rfl,trivial⟩⟩
  show den _ _ zej [.l 1 (k.texts.map z26),I b.parent,I b.height,I b.work,I b.nonce,.l 3 (b.txs.map eTx)] []=ret (z12 k b)
  have a1:=z8h b
  unfold zej z12
  have hpz:=fun h=>(z5h (zeu (b:=b) h)).len
  generalize z07 b=pb at *
  obtain ⟨s,e⟩:=pb
  simp only at *
  repeat' (first|refine dq1 ?_|refine dqK rfl (a1) ?_|exact z5 rfl rfl|refine tR (fun h=>?_) fun h=>?_|fail)
  have hlen:b.txs.length≤4:=hpz (by omega)
  (refine zy (fun (a:List (List UInt8)) k=>[.l 1 (a.map z26),I k]) (fun (a:List (List UInt8)) _ (r:List Tx)=>zei k s (a++r.map fun t=>(z0p t).1)) (fun a k=>a.length=k) [] b.txs ?_ ?_ ?_ ?_ ?_;rfl;exact rfl;omega)
  ·rintro a i x r hx hd hk ha again hag
   have a2:=zmf x
   have e:a++((x::r).map fun t=>(z0p t).1)=(a++[(z0p x).1])++r.map fun t=>(z0p t).1:=by simp
   rw [e]
   have hag':=hag (a++[(z0p x).1]) (by simp;omega)
   generalize z0p x=px at *
   obtain ⟨z,f⟩:=px
   simp only at *
   repeat' (first|refine dq1 ?_|refine dqc ?_|refine dqm ?_|refine dqK rfl (a2) ?_|refine z4 (z1h rfl rfl (by simp)) ?_|refine dqT ?_|fail)
   exact z9 rfl rfl hag'
  ·rintro a ha again
   simp only [List.map_nil,List.append_nil]
   have a3:=zq7 k (a++[s]) (by simp;omega)
   have hl:=fun h=>zhg (k:=k) (l:=a++[s]) h
   unfold zei
   generalize z0o k (a++[s])=q at *
   obtain ⟨tx,ns,e2⟩:=q
   simp only at *
   repeat' (first|refine dq1 ?_|refine dqK rfl (a3) ?_|refine z4 (z1h rfl rfl (by simp)) ?_|exact z5 rfl rfl|refine tR (fun h=>?_) fun h=>?_|refine dqF ?_|fail)
   have hl:=hl (by omega)
   simp only [List.length_append,List.length_cons,List.length_nil] at hl
   have hg:ns[((a.length:Int)).toNat]? = some (ns.getD a.length 0):=by
    rw [Int.toNat_natCast,List.getD_eq_getElem?_getD,List.getElem?_eq_getElem (by omega)]
    rfl
   generalize ns.getD a.length 0=y at *
   have ht:ns.take ((a.length:Int)).toNat=ns.take a.length:=by rw [Int.toNat_natCast]
   repeat' (first|refine dq1 ?_|refine dqc ?_|fail)
   refine z4c (zu (z02y rfl rfl (by omega) (by omega) ht) (zu (zs5 (m:=(a.length:Int)) (n:=(a.length:Int)) rfl rfl rfl (by omega) (by omega) (by omega)) z5w)) ?_ rfl
   exact z5 rfl rfl
end
section
open Go.RowKit
set_option maxRecDepth 100000
set_option maxHeartbeats 4000000
section
variable {sp:Nat→z7} {N:Nat} {E:Env} {ks:List (List Dt→Option (List Dt))}
end
noncomputable def z0e7:z7:=spD (fun l:List In=>l.length≤3518437208780) fun l=>l
noncomputable def z0bj:z7:=spD (fun l:List Out=>l.length≤4398046510976) fun l=>l
noncomputable def z0e8:z7:=spD (fun l:List Tx=>l.length≤2513169434843) fun l=>l
noncomputable def z0bk:z7:=spD (fun l:List Block=>l.length≤1000000) fun l=>l
attribute [local irreducible] z08 spD ze z9p
attribute [local irreducible] den denX z0r z14
def z0cc (t:Tx):Prop:=(t.ins.length≤3518437208780∧∀ x ∈ t.ins,x.key.length≤8796093021952)∧(t.outs.length≤4398046510976∧∀ x ∈ t.outs,x.lock.length≤8796093021952)
def z0gg (b:Block):Prop:=b.txs.length≤2513169434843∧∀ t ∈ b.txs,z0cc t
theorem TxSmall.fit {t:Tx} (h:TxSmall t):z0cc t:=⟨⟨by have:=h.ins;omega,fun x hx=>by have:=h.key x hx;omega⟩,by have:=h.outs;omega,fun x hx=>by have:=h.lock x hx;omega⟩
theorem BlockSmall.fit {b:Block} (h:BlockSmall b):z0gg b:=⟨by have:=h.txs;omega,fun x hx=>(h.each x hx).fit⟩
attribute [local irreducible] z0e7 z8w z0bj
attribute [local irreducible] z0e8
attribute [local irreducible] z0bk z0bi
attribute [local irreducible] z08f
def z08h (x:Tree × Block × Int):Prop:=0≤x.2.2∧x.2.2≤x.1.names.length∧x.1.names.length=x.1.blocks.length∧∀ b ∈ x.1.blocks.take x.2.2.toNat,0≤b.height∧b.height≤1000
noncomputable def z01v:z7:=spD z08h fun x=>zd8 x.1.names x.1.blocks x.2.1 x.2.2.toNat
attribute [local irreducible] z30 z01v
attribute [local irreducible] z08g
noncomputable def z08i:z7:=spD (fun x:Tree × List Int=>TreeOK x.1.names x.1.blocks∧x.2.length≤24∧∀ m ∈ x.2,0≤idx x.1.names m) fun x=>z0cb x.1.names x.1.blocks x.2
noncomputable def zhh:z7:=spD (fun _:Tree × Int=>True) fun x=>z0ca x.1 x.2
attribute [local irreducible] z08i zhh
noncomputable def zxj:z7:=spD (fun _:Tree × Int=>True) fun x=>(z08d x.1 x.2,z03b x.1 x.2)
end
section
open Go.RowKit
set_option maxRecDepth 100000
set_option maxHeartbeats 4000000
section
variable {ρ:Type}
def z39 (h:Int) (bad:Int→ρ) (K:List Coin→List Coin→ρ):List Coin→List Coin→List In→ρ
 | r,s,[]=>K r s
 | r,s,x::xs=>if z2g r x.p=true then
   if ((r[zm r x.p]?).getD z74).reward=true then
    if h<((r[zm r x.p]?).getD z74).height+2 then bad 10
    else if (z38 ((r[zm r x.p]?).getD z74).o.lock x.key h).1=true then z39 h bad K (r.take (zm r x.p)++r.drop (zm r x.p+1)) (s++[(r[zm r x.p]?).getD z74]) xs else bad 8
   else if (z38 ((r[zm r x.p]?).getD z74).o.lock x.key h).1=true then z39 h bad K (r.take (zm r x.p)++r.drop (zm r x.p+1)) (s++[(r[zm r x.p]?).getD z74]) xs else bad 8
  else bad 7
def z3i (nm h:Int) (rw:Bool) (bad:Int→ρ) (K:List Coin→ρ):List Coin→Nat→List Out→ρ
 | r,_,[]=>K r
 | r,i,o::os=>if z2g r ⟨nm,i⟩=true then bad 6 else z3i nm h rw bad K (r.take (zm r ⟨nm,i⟩)++[⟨⟨nm,i⟩,o,h,rw⟩]++r.drop (zm r ⟨nm,i⟩)) (i+1) os
end
def z3z (e:Int):List Coin × List Coin × Int:=([],[],e)
def z9z (s r:List Coin):List Coin × List Coin × Int:=if zw r≠0 then z3z (zw r) else (r,s,0)
def z0f (l:List Coin) (t:Tx) (nm h:Int):List Coin × List Coin × Int :=
 if zw l≠0 then z3z (zw l) else if zb t≠0 then z3z (zb t) else
 if nm<1∨120<nm∨h<1∨1000<h then z3z 3 else
 if (t.ins.length:Int)=0 then
  if t.height≠h then z3z 4 else z39 h z3z (fun r s=>z3i nm h (decide ((t.ins.length:Int)=0)) z3z (z9z s) r 0 t.outs) l [] t.ins
 else z39 h z3z (fun r s=>if z2z t s<0 then z3z 9 else z3i nm h (decide ((t.ins.length:Int)=0)) z3z (z9z s) r 0 t.outs) l [] t.ins
section
variable {ρ:Type}
def z0cd (nm:Int) (bad:Int→ρ) (K:List Coin→ρ):List Coin→Nat→List Out→ρ
 | r,_,[]=>K r
 | r,i,o::os=>if z2g r ⟨nm,i⟩=true then (if decide (((r[zm r ⟨nm,i⟩]?).getD z74).o=o)=true then z0cd nm bad K (r.take (zm r ⟨nm,i⟩)++r.drop (zm r ⟨nm,i⟩+1)) (i+1) os else bad 7) else bad 7
def z0ce (ins:List In) (bad:Int→ρ) (K:List Coin→ρ):List Coin→Nat→List Coin→ρ
 | r,_,[]=>K r
 | r,i,c::cs=>if z2g r c.p=true then bad 6 else if ((ins[i]?).getD ⟨⟨0,0⟩,[]⟩).p≠c.p then bad 6 else z0ce ins bad K (r.take (zm r c.p)++[c]++r.drop (zm r c.p)) (i+1) cs
end
def zmg (e:Int):List Coin × Int:=([],e)
def endR (r:List Coin):List Coin × Int:=if zw r≠0 then zmg (zw r) else (r,0)
def z7c (l:List Coin) (t:Tx) (nm:Int) (u:List Coin):List Coin × Int :=
 if zw l≠0 then zmg (zw l) else if zb t≠0 then zmg (zb t) else if (u.length:Int)≠t.ins.length then zmg 4 else
  z0cd nm zmg (fun r=>z0ce t.ins zmg endR r 0 u) l 0 t.outs
theorem zaf {r:List Coin} (h:z05 r) (k:Nat):z05 (r.take k++r.drop (k+1)):=by
 have:(r.take k++r.drop (k+1))=r.eraseIdx k:=(List.eraseIdx_eq_take_drop_succ r k).symm
 rw [this]
 exact h.sublist (List.eraseIdx_sublist r k)
theorem zag {r:List Coin} (h:z05 r) {c:Coin} (hc:z2g r c.p=false):z05 (r.take (zm r c.p)++[c]++r.drop (zm r c.p)):=by
 obtain ⟨i1,i2⟩:=zh0 h c.p
 have hle:=zi2 r c.p
 have hne:∀ t (ht:t<r.length),r[t].p≠c.p:=fun t ht he=>by
  have:z2g r c.p=true:=List.any_eq_true.2 ⟨_,List.getElem_mem ht,by simpa using he⟩
  rw [this] at hc;cases hc
 unfold z05
 rw [List.append_assoc,List.pairwise_append]
 refine ⟨List.Pairwise.sublist (List.take_sublist _ _) h,?_,?_⟩
 ·rw [List.singleton_append,List.pairwise_cons]
  refine ⟨fun d hd=>?_,List.Pairwise.sublist (List.drop_sublist _ _) h⟩
  obtain ⟨t,ht,rfl⟩:=List.getElem_of_mem hd
  rw [List.length_drop] at ht
  rw [List.getElem_drop]
  have:=i2 (zm r c.p+t) (by omega) (by omega)
  rcases z031 c.p r[zm r c.p+t].p with h|h|h
  ·exact h
  ·exact absurd h.symm (hne _ (by omega))
  ·exact absurd h this
 ·intro a ha b hb
  obtain ⟨t,ht,rfl⟩:=List.getElem_of_mem ha
  rw [List.length_take] at ht
  rw [List.getElem_take]
  have hat:=i1 t (by omega) (by omega)
  rw [List.singleton_append,List.mem_cons] at hb
  rcases hb with rfl|hb
  ·exact hat
  ·obtain ⟨u,hu,rfl⟩:=List.getElem_of_mem hb
   rw [List.length_drop] at hu
   rw [List.getElem_drop]
   have:=i2 (zm r c.p+u) (by omega) (by omega)
   rcases z031 r[t].p r[zm r c.p+u].p with h|h|h
   ·exact h
   ·exact absurd (h ▸ hat) this
   ·exact absurd (z7k h hat) this
structure SpI (l:List Coin) (st:List Coin × List Coin) (k:Nat):Prop where
 sorted:z05 st.1
 len:st.1.length≤l.length
 good:∀ c ∈ st.1,z4p c=0
 cnt:st.2.length=k
 spent:∀ c ∈ st.2,z4p c=0
theorem SpI.cut {l:List Coin} {r s:List Coin} {k:Nat} {c:Coin} {j:Nat} (h:SpI l (r,s) k) (hc:r[j]? = some c):SpI l (r.take j++r.drop (j+1),s++[c]) (k+1):=by
 refine ⟨zaf h.sorted j,?_,fun d hd=>?_,?_,fun d hd=>?_⟩
 ·have:=h.len
  simp only [List.length_append,List.length_take,List.length_drop] at this ⊢
  omega
 ·rcases List.mem_append.1 hd with hd|hd
  ·exact h.good d (List.mem_of_mem_take hd)
  ·exact h.good d (List.mem_of_mem_drop hd)
 ·have:=h.cnt
  simp only [List.length_append,List.length_singleton] at this ⊢
  omega
 ·rcases List.mem_append.1 hd with hd|hd
  ·exact h.spent d hd
  ·simp only [List.mem_singleton] at hd
   subst hd
   exact h.good d (List.mem_of_getElem? hc)
theorem SpI.fee {l:List Coin} {r s:List Coin} {t:Tx} (h:SpI l (r,s) t.ins.length) (ht:TxOK t):zd4 (t,s) :=
 ⟨by have:=h.cnt;have:=ht.ins;simp only at *;omega,fun c hc=>by have:=z48 (h.spent c hc);omega,by have:=ht.outs;simp only;omega,fun o ho=>by have:=ht.good o ho;omega⟩
end
section
open Go.RowKit
section
variable {P:Program} {W:World}
theorem zdc {g o t:Nat} {vs cs:List Value} (hg:W.heap[g]? = some (.cells vs.toArray t (0,0))) (hn:o+cs.length≤vs.length) (h1:∀ v ∈ cs,v.oneCell'=true):(storeCells ⟨g,o,none⟩ cs 0).run P W = .ok () (W.setCells g o cs):=by
 have h:=zey (fr:=(0,0)) hg (o:=o) (n:=cs.length) hn
 have:=run_storeCells_cells (P:=P) g o cs 0 W (fun j hj=>by rw [Nat.add_zero];exact (h j hj).1) (fun j hj=>by rw [Nat.add_zero];exact (h j hj).2) h1
 simpa using this
theorem z08j {t e ty sz:Nat} {z:Value} (ht:P.underlying t=some (.slice e)) (hv:∀ w,(zeroValue e).run P w = .ok z w) (hz:z.cells.size=sz) (h1:∀ v ∈ z.cells.toList,v.oneCell'=true) {g o n c tt:Nat} {vs:List Value} (hg:W.heap[g]? = some (.cells vs.toArray tt (0,0))) (hn:o+n * sz≤vs.length) :
  (Builtin.clear_ #[t] ty #[.slice (some ⟨g,o,none⟩) n c]).run P W = .ok (.tuple #[]) (W.setCells g o (Builtin.zeroCells z.cells n).toList):=by
 have hzl:(Builtin.zeroCells z.cells n).toList.length=n * sz:=by simp [Builtin.zeroCells,hz]
 cases n with
 | zero =>
  have:(Builtin.zeroCells z.cells 0).toList=[]:=List.eq_nil_of_length_eq_zero (by rw [hzl];simp)
  rw [this]
  simp [Builtin.clear_,run_underlying ht,World.setCells]
 | succ n =>
  have hs:=zdc (P:=P) (cs:=(Builtin.zeroCells z.cells (n+1)).toList) hg (by rw [hzl];exact hn) (fun v hv=>by
   rw [Array.mem_toList_iff] at hv
   simp only [Builtin.zeroCells,Array.mem_map] at hv
   obtain ⟨i,hi,rfl⟩:=hv
   have hpos:0<z.cells.size:=by
    rcases Nat.eq_zero_or_pos z.cells.size with h|h
    ·rw [h] at hi;simp at hi
    ·exact h
   have hlt:i % z.cells.size<z.cells.size:=Nat.mod_lt _ hpos
   rw [getElem!_pos z.cells _ hlt]
   exact h1 _ (by simp))
  simp [Builtin.clear_,run_underlying ht,hv,hs]
theorem zek {t t' e ty sz:Nat} (ht:P.underlying t=some (.slice e)) (hsz:(P.info? e).map (·.size)=some sz) {g o dLen dCap sLen sCap tt:Nat} {a:Addr} {vs cs:List Value} (hg:W.heap[g]? = some (.cells vs.toArray tt (0,0))) (hl:cs.length=Nat.min sLen dLen * sz) (hsrc:∀ j v,cs[j]? = some v→W.cell? (a.add j)=some v) (hn:o+cs.length≤vs.length) (h1:∀ v ∈ cs,v.oneCell'=true) :
  (Builtin.copy_ #[t,t'] ty #[.slice (some ⟨g,o,none⟩) dLen dCap,.slice (some a) sLen sCap]).run P W = .ok (goInt (Nat.min sLen dLen)) (W.setCells g o cs):=by
 have hs:=zdc (P:=P) hg hn h1
 have hlc:=run_loadCells_list (P:=P) W a cs hsrc
 cases hq:P.info? e with
 | none=>simp [hq] at hsz
 | some i =>
  have hi:i.size=sz:=by simpa [hq] using hsz
  simp [Builtin.copy_,run_underlying ht,Builtin.lenOf,Builtin.firstCells,sizeOf,typeInfo,hq,hi,← hl,hlc,hs]
end
theorem z0bl {pre mid post us:List Value} {o:Nat} (ho:o=pre.length) (h:us.length=mid.length):z1b (pre++mid++post) o us=pre++us++post:=by subst ho;exact zhs us pre mid post h
theorem z7q {vs us:List Value} {o:Nat} (h:o+us.length≤vs.length):z1b vs o us=vs.take o++us++vs.drop (o+us.length):=by
 have e:vs=vs.take o++(vs.drop o).take us.length++vs.drop (o+us.length):=by
  rw [List.append_assoc,← List.drop_drop,List.take_append_drop,List.take_append_drop]
 have h1:o=(vs.take o).length:=by rw [List.length_take];omega
 have h2:us.length=((vs.drop o).take us.length).length:=by rw [List.length_take,List.length_drop];omega
 conv=>lhs;rw [e]
 exact z0bl h1 h2
theorem zg4 {sz:Nat}:∀ {xs:List (List Dt)},(∀ x ∈ xs,x.length=sz)→xs.flatten.length=xs.length * sz
 | [],_=>by simp
 | x::xs,h=>by rw [List.flatten_cons,List.length_append,h x (List.mem_cons_self ..),zg4 fun y hy=>h y (List.mem_cons_of_mem _ hy),List.length_cons,Nat.succ_mul,Nat.add_comm]
theorem zel {sz:Nat}:∀ {xs:List (List Dt)} (i:Nat),(∀ x ∈ xs,x.length=sz)→(xs.take i).flatten=xs.flatten.take (i * sz)
 | [],i,_=>by simp
 | x::xs,0,_=>by simp
 | x::xs,i+1,h=>by
  have hx:=h x (List.mem_cons_self ..)
  rw [List.take_succ_cons,List.flatten_cons,List.flatten_cons,zel i fun y hy=>h y (List.mem_cons_of_mem _ hy),List.take_append,hx,List.take_of_length_le (show x.length≤(i+1) * sz by rw [hx,Nat.succ_mul];omega),Nat.succ_mul,Nat.add_sub_cancel]
theorem zkp {sz:Nat} {xs:List (List Dt)} (i:Nat) (h:∀ x ∈ xs,x.length=sz):(xs.drop i).flatten=xs.flatten.drop (i * sz):=by
 have e:xs.flatten=(xs.take i).flatten++(xs.drop i).flatten:=by rw [← List.flatten_append,List.take_append_drop]
 by_cases hi:i≤xs.length
 ·have h1:(xs.take i).flatten.length=i * sz:=by rw [zg4 fun y hy=>h y (List.mem_of_mem_take hy),List.length_take,Nat.min_eq_left hi]
  rw [e,← h1,List.drop_left]
 ·rw [List.drop_of_length_le (by omega),List.drop_of_length_le]
  ·rfl
  ·rw [zg4 h];exact Nat.mul_le_mul_right _ (by omega)
section
variable {P:Program}
theorem z08k {α:Type} [Enc α] {f e sz:Nat} (hn:Enc.n α=sz) (hpos:0<sz) (hen:En P f) (zc:Array Value) (hzc:zc.size=sz)
  (h0:∀ (W:World) (A:Option Addr) (n cap i:Nat),i≤n→n≤cap→cap≤maxLen→Calls P f #[.slice A n cap,.int .i64 i,.int .i64 i] W fun r W'=>r = .returned (.slice A n cap)∧W'=W)
  (hw:∀ (W:World) (g n cap i j:Nat) (vs:List Value),W.heap[g]? = some (.cells vs.toArray e (0,0))→n≤cap→cap≤maxLen→vs.length=cap * sz→(∀ u ∈ vs.take (n * sz),u.oneCell'=true)→i<j→j≤n →
   Calls P f #[.slice (some ⟨g,0,none⟩) n cap,.int .i64 i,.int .i64 j] W fun r W'=>r = .returned (.slice (some ⟨g,0,none⟩) (n - (j - i)) cap)∧W'=((W.drewN 1).setCells g (i * sz) ((vs.take (n * sz)).drop (j * sz))).setCells g ((i+(n - j)) * sz) (Builtin.zeroCells zc (j - i)).toList) :
  Meets P (spD (fun x:List α × Int × Int=>0≤x.2.1∧x.2.1≤x.2.2∧x.2.2≤x.1.length) fun x=>x.1.take x.2.1.toNat++x.1.drop x.2.2.toNat) f ⟨[.mine e sz,.one,.one],[(false,[.fresh e sz])],false⟩:=by
 refine ⟨fun h=>(by cases h),?_⟩
 intro e' sz' ps hps
 injection hps with h1 h2
 injection h1 with h1 h1'
 subst h1;subst h1';subst h2
 intro W F base v xs cells ds args rs hF hbase hvF hxs hown hreps hargs hsp
 obtain ⟨⟨l,i,j⟩,⟨hi0,hij,hjl⟩,he,rfl⟩:=zl hsp
 have he':Dt.l sz xs::ds=Dt.l (Enc.n α) (l.map Enc.e)::[I i,I j]:=he
 injection he' with g1 g2
 injection g1 with g3 g1
 subst g2;subst g1
 simp only at hi0 hij hjl
 obtain ⟨va,vas,rfl,ha,hargs⟩:=zo hargs
 obtain ⟨vb,vbs,rfl,hb,hargs⟩:=zo hargs
 obtain rfl:=z0n hargs
 obtain ⟨rfl,_⟩:=z2a ha
 obtain ⟨rfl,_⟩:=z2a hb
 obtain ⟨a,rfl⟩:∃ a:Nat,i=a:=⟨i.toNat,by omega⟩
 obtain ⟨b,rfl⟩:∃ b:Nat,j=b:=⟨j.toNat,by omega⟩
 have hlen:(l.map Enc.e).length=l.length:=List.length_map _
 rw [hlen] at hown
 refine ⟨(l.take a++l.drop b).map Enc.e,?_,fun x hx=>hxs x ?_,?_⟩
 ·show [Dt.l (Enc.n α) _]=_
  rw [hn];rfl
 ·rw [List.map_append,List.map_take,List.map_drop] at hx
  rcases List.mem_append.1 hx with hx|hx
  ·exact List.mem_of_mem_take hx
  ·exact List.mem_of_mem_drop hx
 by_cases hab:a=b
 ·subst hab
  have hsame:l.take a++l.drop a=l:=List.take_append_drop ..
  simp only [Int.toNat_natCast,hsame]
  have hv:∃ A cap,v = .slice A l.length cap∧l.length≤cap∧cap≤maxLen:=by
   rcases hown.2 with ⟨rfl,h0⟩|⟨g,cap,cur,rfl,_,_,h1,h2,_⟩
   ·exact ⟨none,0,by rw [h0],by omega,by unfold maxLen;omega⟩
   ·exact ⟨_,cap,rfl,h1,h2⟩
  obtain ⟨A,cap,rfl,h1,h2⟩:=hv
  refine .inl ⟨hen.run _ _,(h0 W A l.length cap a (by omega) h1 h2).mono ?_⟩
  rintro r W' ⟨rfl,rfl⟩
  exact ⟨_,rfl,_,cells,⟨fun h=>(by cases h),fun _=>rfl⟩,World.grownBy.refl _ _,by rw [hlen];exact hown,hreps,fun _ h=>.inl h⟩
 ·rcases hown.2 with ⟨rfl,h0⟩|⟨g,cap,cur,rfl,hbg,hg,h1,h2,hcs,htk⟩
  ·omega
  ·have hkeep:=hown
   have hml:cells.length=l.length * sz:=hown.1
   have hcs':cur.toList.length=cap * sz:=by simpa using hcs
   have hones:∀ u ∈ cur.toList.take (l.length * sz),u.oneCell'=true:=by rw [htk];exact hreps.one
   refine .inl ⟨hen.run _ _,(hw W g l.length cap a b cur.toList (by simpa using hg) h1 h2 hcs' hones (by omega) (by omega)).mono ?_⟩
   rintro r W' ⟨rfl,rfl⟩
   have hgF:¬ F g:=hvF g rfl
   generalize hW1:(W.drewN 1).setCells g (a * sz) ((cur.toList.take (l.length * sz)).drop (b * sz))=W1
   have hg0:(W.drewN 1).heap[g]? = some (.cells cur.toList.toArray e (0,0)):=by simpa using hg
   have hnl:((cur.toList.take (l.length * sz)).drop (b * sz)).length=(l.length - b) * sz:=by
    rw [htk,List.length_drop,hml,Nat.sub_mul]
   have hzl:(Builtin.zeroCells zc (b - a)).toList.length=(b - a) * sz:=by simp [Builtin.zeroCells,hzc]
   have hg1:=z1i ((cur.toList.take (l.length * sz)).drop (b * sz)) (a * sz) (W.drewN 1) cur.toList hg0
   rw [hW1] at hg1
   have hg2:=z1i (Builtin.zeroCells zc (b - a)).toList ((a+(l.length - b)) * sz) W1 _ hg1
   have hmul1:a * sz+(l.length - b) * sz=(a+(l.length - b)) * sz:=(Nat.add_mul ..).symm
   have hle1:(a+(l.length - b)) * sz≤cap * sz:=Nat.mul_le_mul_right _ (by omega)
   have hle2:(a+(l.length - b)) * sz+(b - a) * sz≤cap * sz:=by rw [← Nat.add_mul];exact Nat.mul_le_mul_right _ (by omega)
   have hle3:a * sz≤l.length * sz:=Nat.mul_le_mul_right _ (by omega)
   have hle4:l.length * sz≤cap * sz:=Nat.mul_le_mul_right _ h1
   have hfar:∀ k,k≠g→(W1.setCells g ((a+(l.length - b)) * sz) (Builtin.zeroCells zc (b - a)).toList).heap[k]? = W.heap[k]?:=by
    intro k hk
    rw [z1w g _ _ _ k hk,← hW1,z1w g _ _ _ k hk]
    rfl
   refine ⟨_,rfl,_,cells.take (a * sz)++cells.drop (b * sz),⟨fun h=>(by cases h),fun _=>rfl⟩,?_,?_,?_,fun _ h=>.inl h⟩
   ·obtain ⟨k1,k2,k3,k4⟩:=z33 g (Builtin.zeroCells zc (b - a)).toList ((a+(l.length - b)) * sz) W1
    obtain ⟨q1,q2,q3,q4⟩:=z33 g ((cur.toList.take (l.length * sz)).drop (b * sz)) (a * sz) (W.drewN 1)
    rw [hW1] at q1 q2 q3 q4
    refine ⟨k1.trans q1,k2.trans q2,k3.trans q3,?_,fun k hk hne=>hfar k fun h=>hne (by rw [h];rfl)⟩
    rw [k4,q4]
    exact Nat.le_refl _
   ·have hl2:((l.take a++l.drop b).map (Enc.e (α:=α))).length=a+(l.length - b):=by
     rw [List.length_map,List.length_append,List.length_take,List.length_drop];omega
    rw [hl2]
    refine ⟨?_,.inr ⟨g,cap,_,by rw [show l.length - (b - a)=a+(l.length - b) by omega],hbg,hg2,by omega,h2,?_,?_⟩⟩
    ·rw [List.length_append,List.length_take,List.length_drop,hml,Nat.min_eq_left hle3,← Nat.sub_mul,hmul1]
    ·rw [List.size_toArray,z1f,z1f];exact hcs'
    ·rw [List.toList_toArray,z7q (by rw [z1f,hzl];omega),List.append_assoc,List.take_append_of_le_length (by rw [List.length_take,z1f];omega),List.take_take,Nat.min_self,z7q (by rw [hnl];omega),List.take_append_of_le_length (by rw [List.length_append,List.length_take,hnl];omega),List.take_of_length_le (by rw [List.length_append,List.length_take,hnl];omega),htk]
     congr 1
     rw [← htk,List.take_take,Nat.min_eq_left hle3]
   ·rw [List.map_append,List.map_take,List.map_drop,List.flatten_append,zel a hxs,zkp b hxs]
    have hag:Agree F W (W1.setCells g ((a+(l.length - b)) * sz) (Builtin.zeroCells zc (b - a)).toList):=fun k hk=>hfar k fun h=>hgF (h ▸ hk)
    exact ((hreps.take (a * sz)).append (hreps.drop (b * sz))).mono hag (fun _ h=>h)
theorem zxk {tS tR e sz:Nat} {W:World} (ht:P.underlying tS=some (.slice e)) (hz:∀ w,(sizeOf e).run P w = .ok sz w) {g o b off la ca lb cb t:Nat} {vs:List Value} (hg:W.heap[g]? = some (.cells vs.toArray t (0,0))) (hvs:0<vs.length) (hne:b≠g) {u:Value} (hb:W.cell? ⟨b,off,none⟩=some u) :
  (Extern.SlicesOverlaps.overlaps #[tS,tS] #[tR] #[.slice (some ⟨b,off,none⟩) la ca,.slice (some ⟨g,o,none⟩) lb cb]).run P W = .ok (.bool false) W:=by
 have hnb:(b != g)=true:=by simpa using hne
 have hnb':(b == g)=false:=by simpa using hne
 obtain ⟨arr,tb,fr,hbh,hsz⟩:∃ arr tb fr,W.heap[b]? = some (.cells arr tb fr)∧0<arr.size:=by
  unfold World.cell? at hb
  split at hb
  ·rename_i arr tb fr h
   simp at hb
   obtain ⟨hlt,_⟩:=Array.getElem?_eq_some_iff.1 hb
   exact ⟨arr,tb,fr,h,by omega⟩
  ·cases hb
 have hsa:W.shape? b=some (tb,arr.size):=by simp [World.shape?,hbh]
 have hsb:W.shape? g=some (t,vs.length):=by simp [World.shape?,hg]
 have hfg:∀ k,W.frozen? ⟨g,k,none⟩=false:=fun k=>by simp [World.frozen?,hg]
 obtain ⟨n1,hn1⟩:∃ n,arr.size=n+1:=⟨arr.size - 1,by omega⟩
 obtain ⟨n2,hn2⟩:∃ n,vs.length=n+1:=⟨vs.length - 1,by omega⟩
 rw [hn1] at hsa
 rw [hn2] at hsb
 change Sem.run P (α:=Value) (do
  let some t:=(#[tS,tS]:Array TypeId)[0]? | stuck "slices.overlaps: no parameter types"
  let .slice elem ← underlying t|stuck "slices.overlaps: slice type expected"
  let size ← sizeOf elem
  match (some ⟨b,off,none⟩:Option Addr),(some ⟨g,o,none⟩:Option Addr) with
  | some a,some b =>
   if la=0∨lb=0∨size=0 then pure (Value.bool false)
   else if a.block != b.block && (← frozen a) && (← frozen b) then unsupported .addressObserved
   else do
    if a.block != b.block then do
     noView a;noView b
     if ← mayBeOne a b then return Value.bool ((← choose (.extern "sameAddr.stringBytes" 2)) == 1)
    pure (Value.bool (a.block == b.block && a.off<b.off+lb * size && b.off<a.off+la * size))
  | _,_=>pure (Value.bool false)) W=_
 by_cases h0:la=0∨lb=0∨sz=0
 ·simp [run_underlying ht,hz,h0]
 ·cases hf1:W.frozen? ⟨b,off,none⟩ <;> cases hf2:W.frozen? ⟨b,n1+1,none⟩ <;>
   simp [run_underlying ht,hz,h0,hnb,hnb',frozen,noView,viewAt,mayBeOne,stringish,shape,Sem.run,hsa,hsb,hfg,hf1,hf2]
theorem zhi {W:World} {b k:Nat} {v:Value} (o:Obj) (h:W.cell? ⟨b,k,none⟩=some v):(W.alloc o).cell? ⟨b,k,none⟩=some v:=by
 have hlt:b<W.heap.size:=by
  rcases Nat.lt_or_ge b W.heap.size with h'|h'
  ·exact h'
  ·simp [World.cell?,Array.getElem?_eq_none h'] at h
 rw [← h]
 simp only [World.cell?,World.alloc,Array.getElem?_push,Nat.ne_of_lt hlt,if_false]
theorem z08l {W:World} {g o b k:Nat} {us:List Value} (h:b≠g):(W.setCells g o us).cell? ⟨b,k,none⟩=W.cell? ⟨b,k,none⟩:=by
 simp only [World.cell?,z1w g us o W b h]
theorem z08m {W:World} {o:Oper} {a:Act} {K:Act→World→Prop} {Q:Exit→Act→World→Prop} (d s:Operand) (t t':TypeId)
  (ho:o.op = .call { callee:=.builtin .copy,args:=#[d,s],argTypes:=#[t,t'] }) (v u:Value) (hd:a.eval d=v) (hs:a.eval s=u) {v':Value} {w':World}
  (hr:(Builtin.copy_ #[t,t'] o.type #[v,u]).run P W = .ok v' w') (h:K (a.put o.dst v') w'):o.wp P a W K Q:=by
 unfold Oper.wp execOp
 simp only [ho,resolve,invoke,builtin,Sem.run_bind,Sem.run_pure,Result.andThen_ok,List.map_toArray,List.map_cons,List.map_nil,hd,hs,hr]
 exact h
theorem zq8 {W:World} {ops:Array Oper} {rest:List Oper} {o:Oper} {a:Act} {Q:Exit→Act→World→Prop} (hgd:o.guard=none) (d s:Operand) (t t':TypeId)
  (ho:o.op = .call { callee:=.builtin .copy,args:=#[d,s],argTypes:=#[t,t'] }) (v u:Value) (hd:a.eval d=v) (hs:a.eval s=u) {v':Value} {w':World}
  (hr:(Builtin.copy_ #[t,t'] o.type #[v,u]).run P W = .ok v' w') (h:wpList P ops Q rest (a.put o.dst v') w'):wpList P ops Q (o::rest) a W :=
 wpList_plain hgd fun _ hK=>z08m d s t t' ho v u hd hs hr (hK _ _ h)
theorem zhj {ops:Array Oper} {o:Oper} {a:Act} {W:World} {K:Act→World→Prop} {Q:Exit→Act→World→Prop} {E:Prop}
  (hg:o.guard=none) (d x:Operand) (dT sT:TypeId) (hop:o.op=Op.call { callee:=Callee.builtin Builtin.copy,args:=#[d,x],argTypes:=#[dT,sT] })
  (v u:Value) (hd:a.eval d=v) (hx:a.eval x=u) {v':Value} {w':World} (hr:(Builtin.copy_ #[dT,sT] o.type #[v,u]).run P W = .ok v' w') (hK:K (a.put o.dst v') w') :
  if Region.wanted o (yielded ops a.tmps)=true then Oper.wp P o a W K Q else E:=by
 have hw:Region.wanted o (yielded ops a.tmps)=true:=by simp [Region.wanted,hg]
 rw [if_pos hw]
 unfold Oper.wp
 simp [execOp,hop,resolve,invoke,builtin,hd,hx,hr,Result.andThen]
 exact hK
theorem z08n {α:Type} [Enc α] {f e sz:Nat} (hn:Enc.n α=sz) (hpos:0<sz) (hen:En P f)
  (hroom:∀ (W:World) (g n cap i b off c:Nat) (vs cs:List Value),W.heap[g]? = some (.cells vs.toArray e (0,0))→n<cap→cap≤maxLen→vs.length=cap * sz→(∀ u ∈ vs.take (n * sz),u.oneCell'=true)→i<n→b≠g→cs.length=sz→(∀ j v,cs[j]? = some v→W.cell? ⟨b,off+j,none⟩=some v)→(∀ v ∈ cs,v.oneCell'=true) →
   Calls P f #[.slice (some ⟨g,0,none⟩) n cap,.int .i64 i,.slice (some ⟨b,off,none⟩) 1 c] W fun r W'=>r = .returned (.slice (some ⟨g,0,none⟩) (n+1) cap)∧W'=((W.drewN 1).setCells g ((i+1) * sz) ((vs.take (n * sz)).drop (i * sz))).setCells g (i * sz) cs)
  (hend:∀ (W:World) (base:Nat) (v:Value) (n b off c:Nat) (olds cs:List Value),W.ownsRow base e sz v n olds→base≤W.heap.size→n≤1000000→cs.length=sz→(∀ j v,cs[j]? = some v→W.cell? ⟨b,off+j,none⟩=some v)→(∀ v ∈ cs,v.oneCell'=true) →
   Calls P f #[v,.int .i64 n,.slice (some ⟨b,off,none⟩) 1 c] W fun r W'=>∃ v',r = .returned v'∧W'.ownsRow base e sz v' (n+1) (olds++cs)∧W.grownBy W' v.ownBlock∧(v'.ownBlock=v.ownBlock∨v'.ownBlock=some W.heap.size))
  (hgrow:∀ (W:World) (g n cap i b off c:Nat) (vs cs:List Value),W.heap[g]? = some (.cells vs.toArray e (0,0))→n=cap→n≤1000000→vs.length=cap * sz→(∀ u ∈ vs.take (n * sz),u.oneCell'=true)→i<n→cs.length=sz→(∀ j v,cs[j]? = some v→W.cell? ⟨b,off+j,none⟩=some v)→(∀ v ∈ cs,v.oneCell'=true) →
   Calls P f #[.slice (some ⟨g,0,none⟩) n cap,.int .i64 i,.slice (some ⟨b,off,none⟩) 1 c] W fun r W'=>∃ G,∃ row:List Value,n+1≤G∧G≤maxLen∧row.length=G * sz∧r = .returned (.slice (some ⟨W.heap.size,0,none⟩) (n+1) G)∧(∀ u ∈ row.take (i * sz),u.oneCell'=true)∧row.take (i * sz)=vs.take (i * sz) ∧
    W'=(((W.alloc (.cells row.toArray e)).drew.setCells W.heap.size (i * sz) cs).drew).setCells W.heap.size ((i+1) * sz) ((vs.take (n * sz)).drop (i * sz))) :
  Meets P (spD (fun x:List α × Int × List α=>0≤x.2.1∧x.2.1≤x.1.length∧x.1.length≤1000000∧x.2.2.length=1) fun x=>x.1.take x.2.1.toNat++x.2.2++x.1.drop x.2.1.toNat) f ⟨[.mine e sz,.one,.one],[(false,[.fresh e sz])],false⟩:=by
 refine ⟨fun h=>(by cases h),?_⟩
 intro e' sz' ps hps
 injection hps with h1 h2
 injection h1 with h1 h1'
 subst h1;subst h1';subst h2
 intro W F base v xs cells ds args rs hF hbase hvF hxs hown hreps hargs hsp
 obtain ⟨⟨l,i,ys⟩,⟨hi0,hil,hlm,hy1⟩,he,rfl⟩:=zl hsp
 have he':Dt.l sz xs::ds=Dt.l (Enc.n α) (l.map Enc.e)::[I i,.l (Enc.n α) (ys.map Enc.e)]:=he
 injection he' with g1 g2
 injection g1 with g3 g1
 subst g2;subst g1
 simp only at hi0 hil hlm hy1
 obtain ⟨y,rfl⟩:=List.length_eq_one_iff.1 hy1
 obtain ⟨va,vas,rfl,ha,hargs⟩:=zo hargs
 obtain ⟨vb,vbs,rfl,hb,hargs⟩:=zo hargs
 obtain rfl:=z0n hargs
 obtain ⟨rfl,_⟩:=z2a ha
 obtain ⟨a,rfl⟩:∃ a:Nat,i=a:=⟨i.toNat,by omega⟩
 have hlen:(l.map Enc.e).length=l.length:=List.length_map _
 have hyl:(Enc.e y).length=sz:=by rw [Enc.len,hn]
 rw [hlen] at hown
 have hml:cells.length=l.length * sz:=hown.1
 obtain ⟨b,off,c,cs,rfl,hFb,hcl,hcell,hcr⟩:∃ b off c,∃ cs:List Value,vb = .slice (some ⟨b,off,none⟩) 1 c∧F b∧cs.length=sz∧(∀ j v,cs[j]? = some v→W.cell? ⟨b,off+j,none⟩=some v)∧Reps W F (Enc.e y) cs:=by
  generalize hd:Dt.l (Enc.n α) ([y].map Enc.e)=d at hb
  cases hb with
  | l sz0 zs A n c b o vs k0 k1 k2 k3 k4 k5 k6 =>
   injection hd with e1 e2
   subst e2
   obtain ⟨rfl,hFb⟩:=k4 (by simp)
   refine ⟨b,o,c,(List.range sz).map (vs 0),by rw [k0];rfl,hFb,by simp,fun j v hv=>?_,Reps.of (by simp [hyl]) fun j d v hd hv=>?_⟩
   ·obtain ⟨hj,rfl⟩:=z25 hv
    have h:=k5 0 j (Enc.e y) _ rfl (List.getElem?_eq_getElem (by omega))
    rwa [Nat.zero_mul,Nat.add_zero] at h
   ·obtain ⟨hj,rfl⟩:=z25 hv
    exact k6 0 j (Enc.e y) d rfl hd
  | _=>cases hd
 have hc1:∀ v ∈ cs,v.oneCell'=true:=hcr.one
 refine ⟨(l.take a++[y]++l.drop a).map Enc.e,?_,fun x hx=>?_,?_⟩
 ·show [Dt.l (Enc.n α) _]=_
  rw [hn];rfl
 ·obtain ⟨z,_,rfl⟩:=List.mem_map.1 hx
  rw [Enc.len,hn]
 have hl2:((l.take a++[y]++l.drop a).map (Enc.e (α:=α))).length=l.length+1:=by
  rw [List.length_map,List.length_append,List.length_append,List.length_take,List.length_drop,List.length_singleton];omega
 have hflat:((l.take a++[y]++l.drop a).map (Enc.e (α:=α))).flatten=(l.map Enc.e).flatten.take (a * sz)++Enc.e y++(l.map Enc.e).flatten.drop (a * sz):=by
  rw [List.map_append,List.map_append,List.map_take,List.map_drop,List.flatten_append,List.flatten_append,zel a hxs,zkp a hxs]
  simp
 rw [hl2,hflat]
 have hle3:a * sz≤l.length * sz:=Nat.mul_le_mul_right _ (by omega)
 have hnew:∀ {W':World},Agree F W W'→Reps W' F ((l.map Enc.e).flatten.take (a * sz)++Enc.e y++(l.map Enc.e).flatten.drop (a * sz)) (cells.take (a * sz)++cs++cells.drop (a * sz)):=fun hag=>(((hreps.take (a * sz)).append hcr).append (hreps.drop (a * sz))).mono hag (fun _ h=>h)
 have hnl:(cells.take (a * sz)++cs++cells.drop (a * sz)).length=(l.length+1) * sz:=by
  rw [List.length_append,List.length_append,List.length_take,List.length_drop,hcl,hml,Nat.min_eq_left hle3,Nat.succ_mul];omega
 by_cases hend':a=l.length
 ·subst hend'
  refine .inl ⟨hen.run _ _,(hend W base v l.length b off c cells cs hown hbase (by omega) hcl hcell hc1).mono ?_⟩
  rintro r W' ⟨v',rfl,q1,q2,q3⟩
  have hag:Agree F W W':=fun k hk=>q2.block k (hF.1 k hk) fun h=>hvF k h.symm hk
  refine ⟨_,rfl,v',_,⟨fun h=>(by cases h),fun _=>rfl⟩,q2,?_,hnew hag,fun k hk=>?_⟩
  ·rw [List.take_of_length_le (by omega),List.drop_of_length_le (by omega),List.append_nil];exact q1
  ·rcases q3 with q3|q3
   ·exact .inl (q3 ▸ hk)
   ·rw [q3] at hk;injection hk with hk;exact .inr (Nat.le_of_eq hk)
 ·rcases hown.2 with ⟨rfl,h0⟩|⟨g,cap,cur,rfl,hbg,hg,h1,h2,hcs,htk⟩
  ·omega
  ·have hcs':cur.toList.length=cap * sz:=by simpa using hcs
   have hones:∀ u ∈ cur.toList.take (l.length * sz),u.oneCell'=true:=by rw [htk];exact hreps.one
   have hgF:¬ F g:=hvF g rfl
   have hbg':b≠g:=fun h=>hgF (h ▸ hFb)
   have hg':W.heap[g]? = some (.cells cur.toList.toArray e (0,0)):=by simpa using hg
   have hal:a<l.length:=by omega
   have hmvl:((cur.toList.take (l.length * sz)).drop (a * sz)).length=(l.length - a) * sz:=by rw [htk,List.length_drop,hml,Nat.sub_mul]
   have e1:(a+1) * sz=a * sz+sz:=Nat.succ_mul ..
   have e2:(a+1) * sz+(l.length - a) * sz=(l.length+1) * sz:=by rw [← Nat.add_mul];congr 1;omega
   have hsplit:∀ vs':List Value,(l.length+1) * sz≤vs'.length→vs'.take (a * sz)=cells.take (a * sz)→(z1b (z1b vs' ((a+1) * sz) ((cur.toList.take (l.length * sz)).drop (a * sz))) (a * sz) cs).take ((l.length+1) * sz)=cells.take (a * sz)++cs++cells.drop (a * sz):=by
    intro vs' hl' ht'
    have k1:a * sz+cs.length≤(z1b vs' ((a+1) * sz) ((cur.toList.take (l.length * sz)).drop (a * sz))).length:=by rw [z1f];omega
    rw [z7q k1,z7q (by rw [hmvl];omega),hcl,hmvl,e2,htk]
    have k2:(vs'.take ((a+1) * sz)++cells.drop (a * sz)++vs'.drop ((l.length+1) * sz)).take (a * sz)=cells.take (a * sz):=by
     rw [List.append_assoc,List.take_append_of_le_length (by rw [List.length_take];omega),List.take_take,Nat.min_eq_left (by omega),ht']
    have k3:(vs'.take ((a+1) * sz)++cells.drop (a * sz)++vs'.drop ((l.length+1) * sz)).drop (a * sz+sz)=cells.drop (a * sz)++vs'.drop ((l.length+1) * sz):=by
     rw [List.append_assoc,List.drop_append,List.drop_of_length_le (by rw [List.length_take];omega),List.length_take,Nat.min_eq_left (by omega),e1,Nat.sub_self,List.nil_append,List.drop_zero]
    rw [k2,k3,← List.append_assoc,List.take_append_of_le_length (by rw [hnl];omega),List.take_of_length_le (by rw [hnl];omega)]
   rcases Nat.lt_or_ge l.length cap with hr|hr
   ·have hcapm:(l.length+1) * sz≤cap * sz:=Nat.mul_le_mul_right _ hr
    refine .inl ⟨hen.run _ _,(hroom W g l.length cap a b off c cur.toList cs hg' hr h2 hcs' hones hal hbg' hcl hcell hc1).mono ?_⟩
    rintro r W' ⟨rfl,rfl⟩
    have hfar:∀ k,k≠g→(((W.drewN 1).setCells g ((a+1) * sz) ((cur.toList.take (l.length * sz)).drop (a * sz))).setCells g (a * sz) cs).heap[k]? = W.heap[k]?:=by
     intro k hk
     rw [z1w g _ _ _ k hk,z1w g _ _ _ k hk]
     rfl
    have hag:Agree F W (((W.drewN 1).setCells g ((a+1) * sz) ((cur.toList.take (l.length * sz)).drop (a * sz))).setCells g (a * sz) cs):=fun k hk=>hfar k fun h=>hgF (h ▸ hk)
    refine ⟨_,rfl,_,_,⟨fun h=>(by cases h),fun _=>rfl⟩,?_,⟨hnl,.inr ⟨g,cap,_,rfl,hbg,z1i cs (a * sz) _ _ (z1i _ ((a+1) * sz) (W.drewN 1) _ hg'),hr,h2,by rw [List.size_toArray,z1f,z1f];exact hcs',?_⟩⟩,hnew hag,fun _ h=>.inl h⟩
    ·obtain ⟨k1,k2,k3,k4⟩:=z33 g cs (a * sz) ((W.drewN 1).setCells g ((a+1) * sz) ((cur.toList.take (l.length * sz)).drop (a * sz)))
     obtain ⟨q1,q2,q3,q4⟩:=z33 g ((cur.toList.take (l.length * sz)).drop (a * sz)) ((a+1) * sz) (W.drewN 1)
     exact ⟨k1.trans q1,k2.trans q2,k3.trans q3,by rw [k4,q4];exact Nat.le_refl _,fun k hk hne=>hfar k fun h=>hne (by rw [h];rfl)⟩
    ·rw [List.toList_toArray]
     refine hsplit _ (by omega) ?_
     rw [← htk,List.take_take,Nat.min_eq_left hle3]
   ·have hcap:l.length=cap:=by omega
    refine .inl ⟨hen.run _ _,(hgrow W g l.length cap a b off c cur.toList cs hg' hcap (by omega) hcs' hones hal hcl hcell hc1).mono ?_⟩
    rintro r W' ⟨G,row,r1,r2,r3,rfl,r4,r5,rfl⟩
    have hGm:(l.length+1) * sz≤G * sz:=Nat.mul_le_mul_right _ r1
    generalize hW0:(W.alloc (.cells row.toArray e)).drew=W0
    have hs0:W0.heap.size=W.heap.size+1:=by rw [← hW0];show (W.heap.push _).size=_;simp
    have hn0:W0.heap[W.heap.size]? = some (.cells row.toArray e (0,0)):=by rw [← hW0];exact heap_alloc_new W _
    have ho0:∀ k,k<W.heap.size→W0.heap[k]? = W.heap[k]?:=fun k hk=>by
     rw [← hW0]
     show (W.alloc (.cells row.toArray e)).heap[k]? = _
     simp only [World.alloc,Array.getElem?_push,Nat.ne_of_lt hk,if_false]
    have hfar:∀ k,k<W.heap.size→(((W0.setCells W.heap.size (a * sz) cs).drew).setCells W.heap.size ((a+1) * sz) ((cur.toList.take (l.length * sz)).drop (a * sz))).heap[k]? = W.heap[k]?:=by
     intro k hk
     rw [z1w _ _ _ _ k (by omega)]
     show (W0.setCells W.heap.size (a * sz) cs).heap[k]? = _
     rw [z1w _ _ _ _ k (by omega),ho0 k hk]
    obtain ⟨z1,z2,z3⟩:W0.os=W.os∧W0.tape=W.tape∧W0.output=W.output:=by rw [← hW0];exact ⟨rfl,rfl,rfl⟩
    have hag:Agree F W (((W0.setCells W.heap.size (a * sz) cs).drew).setCells W.heap.size ((a+1) * sz) ((cur.toList.take (l.length * sz)).drop (a * sz))):=fun k hk=>hfar k (hF.1 k hk)
    have hheap:=z1i ((cur.toList.take (l.length * sz)).drop (a * sz)) ((a+1) * sz) ((W0.setCells W.heap.size (a * sz) cs).drew) _ (z1i cs (a * sz) W0 _ hn0)
    refine ⟨_,rfl,_,_,⟨fun h=>(by cases h),fun _=>rfl⟩,?_,⟨hnl,.inr ⟨W.heap.size,G,_,rfl,hbase,hheap,r1,r2,by rw [List.size_toArray,z1f,z1f];exact r3,?_⟩⟩,hnew hag,fun k hk=>?_⟩
    ·obtain ⟨k1,k2,k3,k4⟩:=z33 W.heap.size ((cur.toList.take (l.length * sz)).drop (a * sz)) ((a+1) * sz) ((W0.setCells W.heap.size (a * sz) cs).drew)
     obtain ⟨q1,q2,q3,q4⟩:=z33 W.heap.size cs (a * sz) W0
     refine ⟨k1.trans (q1.trans z1),k2.trans (q2.trans z2),k3.trans (q3.trans z3),?_,fun k hk hne=>hfar k hk⟩
     rw [k4]
     show W.heap.size≤(W0.setCells W.heap.size (a * sz) cs).heap.size
     rw [q4,hs0];omega
    ·rw [List.toList_toArray]
     have hswap:z1b (z1b row (a * sz) cs) ((a+1) * sz) ((cur.toList.take (l.length * sz)).drop (a * sz))=z1b (z1b row ((a+1) * sz) ((cur.toList.take (l.length * sz)).drop (a * sz))) (a * sz) cs:=by
      have hL:a * sz+cs.length≤row.length:=by omega
      have hR:(a+1) * sz+((cur.toList.take (l.length * sz)).drop (a * sz)).length≤row.length:=by rw [hmvl];omega
      rw [z7q (vs:=z1b row (a * sz) cs) (by rw [z1f];exact hR),z7q hL,z7q (vs:=z1b row ((a+1) * sz) _) (by rw [z1f];exact hL),z7q hR]
      have t1:(row.take (a * sz)++cs++row.drop (a * sz+cs.length)).take ((a+1) * sz)=row.take (a * sz)++cs:=by
       rw [List.take_append_of_le_length (by rw [List.length_append,List.length_take];omega),List.take_of_length_le (by rw [List.length_append,List.length_take];omega)]
      have t2:(row.take (a * sz)++cs++row.drop (a * sz+cs.length)).drop ((a+1) * sz+((cur.toList.take (l.length * sz)).drop (a * sz)).length)=row.drop ((a+1) * sz+((cur.toList.take (l.length * sz)).drop (a * sz)).length):=by
       rw [List.drop_append,List.drop_of_length_le (by rw [List.length_append,List.length_take];omega),List.nil_append,List.drop_drop]
       congr 1
       rw [List.length_append,List.length_take];omega
      have t3:(row.take ((a+1) * sz)++((cur.toList.take (l.length * sz)).drop (a * sz))++row.drop ((a+1) * sz+((cur.toList.take (l.length * sz)).drop (a * sz)).length)).take (a * sz)=row.take (a * sz):=by
       rw [List.append_assoc,List.take_append_of_le_length (by rw [List.length_take];omega),List.take_take,Nat.min_eq_left (by omega)]
      have t4:(row.take ((a+1) * sz)++((cur.toList.take (l.length * sz)).drop (a * sz))++row.drop ((a+1) * sz+((cur.toList.take (l.length * sz)).drop (a * sz)).length)).drop (a * sz+cs.length)=((cur.toList.take (l.length * sz)).drop (a * sz))++row.drop ((a+1) * sz+((cur.toList.take (l.length * sz)).drop (a * sz)).length):=by
       rw [List.append_assoc,List.drop_append,List.drop_of_length_le (by rw [List.length_take];omega),List.nil_append,List.length_take,Nat.min_eq_left (by omega),hcl,e1,Nat.sub_self,List.drop_zero]
      rw [t1,t2,t3,t4,List.append_assoc,List.append_assoc]
     rw [hswap]
     refine hsplit _ (by omega) ?_
     rw [r5,← htk,List.take_take,Nat.min_eq_left hle3]
    ·simp only [Value.ownBlock,Option.some.injEq] at hk
     exact .inr (Nat.le_of_eq hk)
end
end
section
open Go.RowKit
set_option maxRecDepth 100000
set_option maxHeartbeats 4000000
theorem z0bm {W:World} {g n cap i j:Nat} {vs:List Value} (hg:W.heap[g]? = some (.cells vs.toArray 102 (0,0))) (hn:n≤cap) (hm:cap≤maxLen) (hcs:vs.length=cap * 6) (h1:∀ u ∈ vs.take (n * 6),u.oneCell'=true) (hij:i<j) (hj:j≤n) :
  Calls Tryz.prog 252 #[.slice (some ⟨g,0,none⟩) n cap,.int .i64 i,.int .i64 j] W fun e w'=>e = .returned (.slice (some ⟨g,0,none⟩) (n - (j - i)) cap) ∧
   w'=((W.drewN 1).setCells g (i * 6) ((vs.take (n * 6)).drop (j * 6))).setCells g ((i+(n - j)) * 6) (Builtin.zeroCells #[.int .i64 0,.int .i64 0,.int .i64 0,.slice none 0 0,.int .i64 0,.bool false] (j - i)).toList:=by
 have hm':cap≤9223372036854775807:=hm
 obtain ⟨news,hnews⟩:∃ news,news=(vs.take (n * 6)).drop (j * 6):=⟨_,rfl⟩
 have hlen:news.length=(n - j) * 6:=by rw [hnews,List.length_drop,List.length_take];omega
 have hg1:W.drew.heap[g]? = some (.cells vs.toArray 102 (0,0)):=hg
 obtain ⟨A,hA,hsrc⟩:∃ A:Addr,(if cap=j then some (⟨g,0,none⟩:Addr) else some ⟨g,j * 6,none⟩)=some A∧Hid (∀ t u,news[t]? = some u→W.drew.cell? (A.add t)=some u):=by
  by_cases h:cap=j
  ·refine ⟨⟨g,0,none⟩,by simp [h],fun t u hu=>?_⟩
   have:=(List.getElem?_eq_some_iff.1 hu).1
   omega
  ·refine ⟨⟨g,j * 6,none⟩,by simp [h],fun t u hu=>?_⟩
   have ht:=(List.getElem?_eq_some_iff.1 hu).1
   rw [hnews,List.getElem?_drop,List.getElem?_take,if_pos (by omega)] at hu
   rw [z6r,cell_of_row _ g _ _ 102 (0,0) hg1]
   simpa using hu
 have s1:Hid (news.length=(n - j) * 6):=hlen
 have s2:Hid (∀ u ∈ news,u.oneCell'=true):=by
  intro u hu
  rw [hnews] at hu
  exact h1 u (List.mem_of_mem_drop hu)
 have s3:Hid (∀ t,t<news.length→(W.drew.cell? ⟨g,0+i * 6+t,none⟩).isSome=true∧W.drew.frozen? ⟨g,0+i * 6+t,none⟩=false):=by
  intro t ht
  have:=zey (fr:=(0,0)) hg1 (o:=0+i * 6) (n:=news.length) (by omega)
  exact this t ht
 obtain ⟨W1,hW1⟩:∃ W1,W1=W.drew.setCells g (0+i * 6) news:=⟨_,rfl⟩
 have hg2:W1.heap[g]? = some (.cells (z1b vs (0+i * 6) news).toArray 102 (0,0)):=by rw [hW1];exact z1i _ _ _ _ hg1
 have hcl:∀ ty,(Builtin.clear_ #[64] ty #[.slice (some ⟨g,(i+(n - j)) * 6,none⟩) (n - (i+(n - j))) (cap - (i+(n - j)))]).run Tryz.prog W1 = .ok (.tuple #[]) (W1.setCells g ((i+(n - j)) * 6) (Builtin.zeroCells #[.int .i64 0,.int .i64 0,.int .i64 0,.slice none 0 0,.int .i64 0,.bool false] (n - (i+(n - j)))).toList) :=
  fun ty=>z08j (sz:=6) Tryz.underlying64 Tryz.zeroValue102 rfl (by simp [Value.cells,Value.oneCell']) hg2 (by rw [z1f];omega)
 have hW:Hid (W1=W.drew.setCells g (0+i * 6) news):=hW1
 have hic:i≤cap:=by omega
 have hjc:j≤cap:=by omega
 have hnews:=Lib.hid hnews
 clear hW1 hg2 hg hg1 hlen
 go_enter Tryz.func252,Tryz.ntmps252
 go_wp2_with fail
 obtain ⟨ht,ie,zv,he,hz0,hsz,hbz,hzs⟩:=zm2
 go_region_law (refine step_append_room rfl (.tmp 22) (.tmp 25) 64 rfl 102 ie 6 ht he hsz g 0 i cap (by simp [Act.eval,Act.put]) A (n - j) (cap - j) news (by simp [Act.eval,Act.put,hA]) s1.out hsrc.out s2.out (by omega) s3.out ?_;rw [← hW.out])
 go_wp2
 go_ret
 refine ⟨by rw [show n - (j - i)=i+(n - j) by omega];rfl,?_⟩
 rw [hW.out,Nat.zero_add,hnews.out,show n - (i+(n - j))=j - i by omega]
 rfl
theorem z0bn {W:World} {A:Option Addr} {n cap i:Nat} (hi:i≤n) (hn:n≤cap) (hm:cap≤maxLen):Calls Tryz.prog 252 #[.slice A n cap,.int .i64 i,.int .i64 i] W fun r W'=>r = .returned (.slice A n cap)∧W'=W:=by
 have hm':cap≤9223372036854775807:=hm
 have hic:i≤cap:=by omega
 go_enter Tryz.func252,Tryz.ntmps252
 go_wp2_with fail
 all_goals (go_ret;exact ⟨rfl,rfl⟩)
noncomputable def zah:z7:=spD (fun x:List Coin × Int × Int=>0≤x.2.1∧x.2.1≤x.2.2∧x.2.2≤x.1.length) fun x=>x.1.take x.2.1.toNat++x.1.drop x.2.2.toNat
theorem z08o:Meets Tryz.prog zah 252 ⟨[.mine 102 6,.one,.one],[(false,[.fresh 102 6])],false⟩ :=
 z08k rfl (by decide) (z0v (fn:=Tryz.f252) (by kernel_rfl) (by kernel_rfl) (by kernel_rfl)) #[.int .i64 0,.int .i64 0,.int .i64 0,.slice none 0 0,.int .i64 0,.bool false] rfl (fun W A n cap i h1 h2 h3=>z0bn h1 h2 h3) (fun W g n cap i j vs h1 h2 h3 h4 h5 h6 h7=>z0bm h1 h2 h3 h4 h5 h6 h7)
end
section
open Go.RowKit
set_option maxRecDepth 100000
set_option maxHeartbeats 4000000
theorem z0bo {W:World} {g o b off la ca lb cb:Nat} {vs:List Value} (hg:W.heap[g]? = some (.cells vs.toArray 102 (0,0))) (hvs:0<vs.length) (hne:b≠g) {u:Value} (hb:W.cell? ⟨b,off,none⟩=some u) :
  (callFunc 255 #[.slice (some ⟨b,off,none⟩) la ca,.slice (some ⟨g,o,none⟩) lb cb]).run Tryz.prog W = .ok (.value (.bool false)) W:=by
 rw [run_callFunc_extern Tryz.func255 (by kernel_rfl) (by kernel_rfl) (by kernel_rfl) (e:=Extern.SlicesOverlaps.overlaps #[64,64] #[4]) (by kernel_rfl),
  zxk (e:=102) (sz:=6) Tryz.underlying64 Tryz.sizeOf102 hg hvs hne hb]
 rfl
theorem z0bp {W:World} {g n cap i b off c:Nat} {vs cs:List Value} (hg:W.heap[g]? = some (.cells vs.toArray 102 (0,0))) (hn:n<cap) (hm:cap≤maxLen) (hcs:vs.length=cap * 6) (h1:∀ u ∈ vs.take (n * 6),u.oneCell'=true) (hi:i<n) (hne:b≠g) (hcl:cs.length=6) (hb:∀ j v,cs[j]? = some v→W.cell? ⟨b,off+j,none⟩=some v) (h1c:∀ v ∈ cs,v.oneCell'=true) :
  Calls Tryz.prog 205 #[.slice (some ⟨g,0,none⟩) n cap,.int .i64 i,.slice (some ⟨b,off,none⟩) 1 c] W fun r W'=>r = .returned (.slice (some ⟨g,0,none⟩) (n+1) cap)∧W'=((W.drewN 1).setCells g ((i+1) * 6) ((vs.take (n * 6)).drop (i * 6))).setCells g (i * 6) cs:=by
 have hm':cap≤9223372036854775807:=hm
 obtain ⟨mv,hmv⟩:∃ mv,mv=(vs.take (n * 6)).drop (i * 6):=⟨_,rfl⟩
 have hlen:mv.length=(n - i) * 6:=by rw [hmv,List.length_drop,List.length_take];omega
 have hg1:W.drew.heap[g]? = some (.cells vs.toArray 102 (0,0)):=hg
 obtain ⟨u0,hu0⟩:∃ u,W.cell? ⟨b,off,none⟩=some u:=by
  have h:=hb 0 (cs[0]'(by omega)) (List.getElem?_eq_getElem (by omega))
  exact ⟨_,h⟩
 have hov:∀ lb cb,(callFunc 255 #[.slice (some ⟨b,off,none⟩) 1 c,.slice (some ⟨g,(i+1) * 6,none⟩) lb cb]).run Tryz.prog W = .ok (.value (.bool false)) W:=fun lb cb=>z0bo hg (by omega) hne hu0
 have hsz:(Tryz.prog.info? 102).map (·.size)=some 6:=by kernel_rfl
 have hcp1:∀ ty dc sc,(Builtin.copy_ #[64,64] ty #[.slice (some ⟨g,(i+1) * 6,none⟩) (n - i) dc,.slice (some ⟨g,i * 6,none⟩) (n+1 - i) sc]).run Tryz.prog W.drew = .ok (goInt (Nat.min (n+1 - i) (n - i):Nat)) (W.drew.setCells g ((i+1) * 6) mv):=fun ty dc sc =>
  zek Tryz.underlying64 hsz hg1 (by rw [hlen];show _=min _ _ * 6;rw [Nat.min_def];split <;> omega) (fun j v hj=>by
   rw [z6r,cell_of_row _ g _ _ 102 (0,0) hg1]
   have hlt:=(List.getElem?_eq_some_iff.1 hj).1
   rw [hmv,List.getElem?_drop,List.getElem?_take,if_pos (by omega)] at hj
   simpa using hj) (by omega) (fun v hv=>h1 v (by rw [hmv] at hv;exact List.mem_of_mem_drop hv))
 obtain ⟨W1,hW1⟩:∃ W1,W1=W.drew.setCells g ((i+1) * 6) mv:=⟨_,rfl⟩
 have hg2:W1.heap[g]? = some (.cells (z1b vs ((i+1) * 6) mv).toArray 102 (0,0)):=by rw [hW1];exact z1i _ _ _ _ hg1
 have hcp2:∀ ty dc,(Builtin.copy_ #[64,64] ty #[.slice (some ⟨g,i * 6,none⟩) (n+1 - i) dc,.slice (some ⟨b,off,none⟩) 1 c]).run Tryz.prog W1 = .ok (goInt (Nat.min 1 (n+1 - i):Nat)) (W1.setCells g (i * 6) cs):=fun ty dc =>
  zek Tryz.underlying64 hsz hg2 (by rw [hcl];show _=min _ _ * 6;rw [Nat.min_def];split <;> omega) (fun j v hj=>by
   rw [z6r,hW1,z08l hne]
   exact hb j v hj) (by rw [z1f];omega) h1c
 rw [← hW1] at hcp1
 have hw1:IntKind.i64.wrap ((i:Int)+1)=(i:Int)+1:=by rw [IntKind.wrap_i64];omega
 have hw2:IntKind.i64.wrap ((n:Int)+1)=(n:Int)+1:=by rw [IntKind.wrap_i64];omega
 have hz2:¬ ((i:Int)=(n:Int)):=by omega
 have hp1:(i:Int)≤(n:Int)+1:=by omega
 have hp0:(0:Int)≤(i:Int)+1:=by omega
 have hb1:¬ (cap=i+1):=by omega
 have hb4:¬ (cap=i):=by omega
 have hin:i≤n:=by omega
 have hic:i≤cap:=by omega
 have hW:=Lib.hid hW1
 have hmv':=Lib.hid hmv
 clear hmv hlen hg hg1 hg2 hW1 hcs h1 hb h1c hcl hu0
 go_enter Tryz.func205,Tryz.ntmps205
 go_wp2_with (simp only [hov])
 go_region_law (refine zhj rfl _ _ 64 64 rfl _ _ (by simp [Act.eval,Act.put]) (by simp [Act.eval,Act.put]) (hcp1 _ _ _) ?_)
 go_wp2_with (at_builtin;refine zq8 rfl _ _ 64 64 rfl _ _ rfl rfl (hcp2 _ _) ?_)
 go_ret
 refine ⟨rfl,?_⟩
 rw [hW.out,hmv'.out]
 rfl
theorem z0e9 {W:World} {base:Nat} {v:Value} {n b off c:Nat} {olds cs:List Value} (hown:W.ownsRow base 102 6 v n olds) (hbase:base≤W.heap.size) (hn:n≤1000000) (hcl:cs.length=6) (hb:∀ j v,cs[j]? = some v→W.cell? ⟨b,off+j,none⟩=some v) (h1c:∀ v ∈ cs,v.oneCell'=true) :
  Calls Tryz.prog 205 #[v,.int .i64 n,.slice (some ⟨b,off,none⟩) 1 c] W fun r W'=>∃ v',r = .returned v'∧W'.ownsRow base 102 6 v' (n+1) (olds++cs)∧W.grownBy W' v.ownBlock∧(v'.ownBlock=v.ownBlock∨v'.ownBlock=some W.heap.size):=by
 obtain ⟨ht,ie,zv,he,hz0,hsz,hbz,hzs⟩:=zm2
 have hrun:∀ ty,∃ v' W',(Builtin.append_ #[64,64] ty #[v,.slice (some ⟨b,off,none⟩) 1 c]).run Tryz.prog W = .ok v' W'∧W'.ownsRow base 102 6 v' (n+1) (olds++cs)∧W.grownBy W' v.ownBlock∧(v'.ownBlock=v.ownBlock∨v'.ownBlock=some W.heap.size):=fun ty=>by
  obtain ⟨v',W',hr,h2,h3,_,h5⟩:=run_append_own_at (P:=Tryz.prog) W base 64 ty 102 ie zv 6 64 ht he hz0 hsz hbz hzs (by decide) v n olds hown ⟨b,off,none⟩ 1 c cs (by omega) (fun j u hj=>by rw [z6r];exact hb j u hj) h1c (by unfold maxLen;omega) (by omega) hbase
  exact ⟨v',W',hr,h2,h3,h5⟩
 obtain ⟨v',W',hr,h2,h3,h4⟩:=hrun 64
 have hv:∃ A cap,v = .slice A n cap∧n≤cap∧cap≤maxLen:=by
  rcases hown.2 with ⟨rfl,h0⟩|⟨g,cap,cur,rfl,_,_,h1,h2,_⟩
  ·exact ⟨none,0,by rw [h0],by omega,by unfold maxLen;omega⟩
  ·exact ⟨_,cap,rfl,h1,h2⟩
 obtain ⟨A,cap,rfl,hc1,hc2⟩:=hv
 have hc3:cap≤9223372036854775807:=hc2
 have R:=Lib.hid (And.intro h2 (And.intro h3 h4))
 clear h2 h3 h4 hown hrun hb h1c hcl hbase
 go_enter Tryz.func205,Tryz.ntmps205
 go_wp2_with (at_builtin;refine Lib.wpList_append_run _ rfl _ _ _ _ rfl _ _ rfl rfl _ _ hr ?_)
 all_goals (go_ret;have R':=R.out;first|exact ⟨v',rfl,R'⟩|(subst_vars;exact ⟨v',rfl,R'⟩))
theorem z0bq {W:World} {g n cap i b off c:Nat} {vs cs:List Value} (hg:W.heap[g]? = some (.cells vs.toArray 102 (0,0))) (hn:n=cap) (hm:n≤1000000) (hcs:vs.length=cap * 6) (h1:∀ u ∈ vs.take (n * 6),u.oneCell'=true) (hi:i<n) (hcl:cs.length=6) (hb:∀ j v,cs[j]? = some v→W.cell? ⟨b,off+j,none⟩=some v) (h1c:∀ v ∈ cs,v.oneCell'=true) :
  Calls Tryz.prog 205 #[.slice (some ⟨g,0,none⟩) n cap,.int .i64 i,.slice (some ⟨b,off,none⟩) 1 c] W fun r W'=>∃ G,∃ row:List Value,n+1≤G∧G≤maxLen∧row.length=G * 6∧r = .returned (.slice (some ⟨W.heap.size,0,none⟩) (n+1) G)∧(∀ u ∈ row.take (i * 6),u.oneCell'=true)∧row.take (i * 6)=vs.take (i * 6) ∧
   W'=(((W.alloc (.cells row.toArray 102)).drew.setCells W.heap.size (i * 6) cs).drew).setCells W.heap.size ((i+1) * 6) ((vs.take (n * 6)).drop (i * 6)):=by
 obtain ⟨ht,ie,zv,he,hz0,hszI,hbz,hzs⟩:=zm2
 have hz1:¬ ((1:Int)=0):=by decide
 have hz2:¬ ((i:Int)=(n:Int)):=by omega
 have hz3:(cap:Int)<(n:Int)+1:=by omega
 have hsz:(Tryz.prog.info? 102).map (·.size)=some 6:=by kernel_rfl
 have hgl:g<W.heap.size:=by
  rcases Nat.lt_or_ge g W.heap.size with h|h
  ·exact h
  ·rw [Array.getElem?_eq_none h] at hg;cases hg
 have hbl:b<W.heap.size:=block_lt_of_cell (hb 0 _ (List.getElem?_eq_getElem (by omega)))
 have hkk:(n:Int)+1 - (i:Int)=((n+1 - i:Nat):Int):=by omega
 have hik:i+(n+1 - i)=n+1:=by omega
 have hg1:W.drew.heap[g]? = some (.cells vs.toArray 102 (0,0)):=hg
 have hold:(Builtin.firstCells ie.size i (.slice (some ⟨g,0,none⟩) i cap)).run Tryz.prog W.drew = .ok (vs.take (i * 6)).toArray W.drew:=by
  rw [hszI]
  exact run_firstCells_some W.drew 6 i ⟨g,0,none⟩ i cap (vs.take (i * 6)) (by rw [List.length_take];omega) (fun j v hj=>by
   rw [z6r,cell_of_row _ g _ _ 102 (0,0) hg1]
   rw [List.getElem?_take] at hj
   split at hj
   ·simpa using hj
   ·cases hj)
 have hrz:∀ ty,(Builtin.append_ #[64,3] ty #[.slice (some ⟨g,0,none⟩) i cap,.int .i64 ((n:Int)+1 - (i:Int))]).run Tryz.prog W =
   .ok (.slice (some ⟨W.heap.size,0,none⟩) (n+1) (grownCap W (n+1) cap 102)) (W.drew.alloc (.cells ((vs.take (i * 6)).toArray++Builtin.zeroCells zv.cells (n+1 - i)++Builtin.zeroCells zv.cells (grownCap W (n+1) cap 102 - (n+1))) 102)):=fun ty=>by
  have h:=Lib.run_append_grow_zeros W 64 3 ty 102 ie zv .i64 .i64 ht Tryz.underlying3 he hz0 (some ⟨g,0,none⟩) i cap (vs.take (i * 6)) hold (n+1 - i) (by omega) (by omega) (by omega) (by omega) (by rw [hbz];omega) (by rw [hbz,hik];exact growslice_fits (by omega) (by omega))
  rw [hik] at h
  rw [hkk]
  exact h
 obtain ⟨G,hG⟩:∃ G,G=grownCap W (n+1) cap 102:=⟨_,rfl⟩
 obtain ⟨row,hrow⟩:∃ row:List Value,row=vs.take (i * 6)++(Builtin.zeroCells zv.cells (n+1 - i)).toList++(Builtin.zeroCells zv.cells (G - (n+1))).toList:=⟨_,rfl⟩
 have hrowA:row.toArray=(vs.take (i * 6)).toArray++Builtin.zeroCells zv.cells (n+1 - i)++Builtin.zeroCells zv.cells (G - (n+1)):=by rw [hrow];simp
 rw [← hG,← hrowA] at hrz
 have hGn:n+1≤G:=by rw [hG];exact grownCap_ge W _ _ _
 have hGm:G≤maxLen:=by rw [hG];exact grownCap_le_maxLen W (n+1) cap 102 (by unfold maxLen;omega)
 have hG63:G≤9223372036854775807:=hGm
 have hrl:row.length=G * 6:=by
  rw [hrow]
  simp only [List.length_append,List.length_take,Array.length_toList,Builtin.zeroCells,Array.size_map,Array.size_range,hzs]
  omega
 have hrt:row.take (i * 6)=vs.take (i * 6):=by
  rw [hrow,List.append_assoc,List.take_append_of_le_length (by rw [List.length_take];omega),List.take_take,Nat.min_self]
 obtain ⟨mv,hmv⟩:∃ mv,mv=(vs.take (n * 6)).drop (i * 6):=⟨_,rfl⟩
 have hlen:mv.length=(n - i) * 6:=by rw [hmv,List.length_drop,List.length_take];omega
 have hcpA:∀ (W':World),W'.heap[W.heap.size]? = some (.cells row.toArray 102 (0,0))→(∀ k v,W.cell? ⟨b,k,none⟩=some v→W'.cell? ⟨b,k,none⟩=some v)→∀ ty dc,(Builtin.copy_ #[64,64] ty #[.slice (some ⟨W.heap.size,i * 6,none⟩) (n+1 - i) dc,.slice (some ⟨b,off,none⟩) 1 c]).run Tryz.prog W' = .ok (goInt (Nat.min 1 (n+1 - i):Nat)) (W'.setCells W.heap.size (i * 6) cs):=fun W' h1' h2' ty dc =>
  zek ht hsz h1' (by rw [hcl];show _=min _ _ * 6;rw [Nat.min_def];split <;> omega) (fun j v hj=>by rw [z6r];exact h2' _ v (hb j v hj)) (by omega) h1c
 have hcpB:∀ (W':World) (vs':List Value),vs'.length=G * 6→W'.heap[W.heap.size]? = some (.cells vs'.toArray 102 (0,0))→W'.heap[g]? = some (.cells vs.toArray 102 (0,0))→∀ ty dc sc,(Builtin.copy_ #[64,64] ty #[.slice (some ⟨W.heap.size,(i+1) * 6,none⟩) (n - i) dc,.slice (some ⟨g,i * 6,none⟩) (n - i) sc]).run Tryz.prog W' = .ok (goInt (Nat.min (n - i) (n - i):Nat)) (W'.setCells W.heap.size ((i+1) * 6) mv):=fun W' vs' hl' h1' h2' ty dc sc =>
  zek ht hsz h1' (by rw [hlen];show _=min _ _ * 6;rw [Nat.min_def];split <;> omega) (fun j v hj=>by
   rw [z6r,cell_of_row _ g _ _ 102 (0,0) h2']
   have hlt:=(List.getElem?_eq_some_iff.1 hj).1
   rw [hmv,List.getElem?_drop,List.getElem?_take,if_pos (by omega)] at hj
   simpa using hj) (by omega) (fun v hv=>h1 v (by rw [hmv] at hv;exact List.mem_of_mem_drop hv))
 have hA:=hcpA ((W.alloc (.cells row.toArray 102)).drew) (heap_alloc_new W _) (fun k v h=>zhi _ h)
 have hA':=hcpA (W.drew.alloc (.cells row.toArray 102)) (heap_alloc_new W.drew _) (fun k v h=>zhi (W:=W.drew) _ h)
 have hgold:(W.alloc (.cells row.toArray 102)).heap[g]? = some (.cells vs.toArray 102 (0,0)):=by
  have:(W.alloc (.cells row.toArray 102)).heap[g]? = W.heap[g]?:=by simp only [World.alloc,Array.getElem?_push,Nat.ne_of_lt hgl,if_false]
  rw [this];exact hg
 have hB:=hcpB (((W.alloc (.cells row.toArray 102)).drew.setCells W.heap.size (i * 6) cs).drew) (z1b row (i * 6) cs) (by rw [z1f,hrl]) (z1i _ _ (W.alloc (.cells row.toArray 102)).drew _ (heap_alloc_new W _)) (by
  show ((W.alloc (.cells row.toArray 102)).drew.setCells W.heap.size (i * 6) cs).heap[g]? = _
  rw [z1w _ _ _ _ _ (by omega)];exact hgold)
 have hw1:IntKind.i64.wrap ((i:Int)+1)=(i:Int)+1:=by rw [IntKind.wrap_i64];omega
 have hw2:IntKind.i64.wrap ((n:Int)+1)=(n:Int)+1:=by rw [IntKind.wrap_i64];omega
 have hp1:(i:Int)≤(n:Int)+1:=by omega
 have hp0:(0:Int)≤(i:Int)+1:=by omega
 have hGi:¬ (G=i):=by omega
 have hGi1:¬ (G=i+1):=by omega
 have hci:¬ (cap=i):=by omega
 have hin:i≤n:=by omega
 have R:Hid (n+1≤G∧G≤maxLen∧row.length=G * 6∧(∀ u ∈ row.take (i * 6),u.oneCell'=true)∧row.take (i * 6)=vs.take (i * 6)∧mv=(vs.take (n * 6)).drop (i * 6)):=Lib.hid ⟨hGn,hGm,hrl,fun u hu=>h1 u (by rw [hrt] at hu;exact (List.take_sublist_take_left (by omega)).subset hu),hrt,hmv⟩
 have hic:i≤cap:=by omega
 have hn':=Lib.hid hn
 clear hn hmv hlen hg hg1 hgold hcs h1 hb h1c hcl hcpA hcpB hrt hrl hrow hrowA hG hGm hold hkk hik
 go_enter Tryz.func205,Tryz.ntmps205
 go_wp2_with ((at_builtin;refine Lib.wpList_append_run _ rfl _ _ _ _ rfl _ _ rfl rfl _ _ (hrz _) ?_))
 go_region_law (refine zhj rfl _ _ 64 64 rfl _ _ (by simp [Act.eval,Act.put]) (by simp [Act.eval,Act.put]) (hB _ _ _) ?_)
 go_wp2
 go_ret
 obtain ⟨r1,r2,r3,r4,r5,r6⟩:=R.out
 exact ⟨G,row,r1,r2,r3,rfl,r4,r5,by rw [r6]⟩
noncomputable def zai:z7:=spD (fun x:List Coin × Int × List Coin=>0≤x.2.1∧x.2.1≤x.1.length∧x.1.length≤1000000∧x.2.2.length=1) fun x=>x.1.take x.2.1.toNat++x.2.2++x.1.drop x.2.1.toNat
theorem z08p:Meets Tryz.prog zai 205 ⟨[.mine 102 6,.one,.one],[(false,[.fresh 102 6])],false⟩ :=
 z08n rfl (by decide) (z0v (fn:=Tryz.f205) (by kernel_rfl) (by kernel_rfl) (by kernel_rfl)) (fun W g n cap i b off c vs cs h1 h2 h3 h4 h5 h6 h7 h8 h9 h10=>z0bp h1 h2 h3 h4 h5 h6 h7 h8 h9 h10) (fun W base v n b off c olds cs h1 h2 h3 h4 h5 h6=>z0e9 h1 h2 h3 h4 h5 h6) (fun W g n cap i b off c vs cs h1 h2 h3 h4 h5 h6 h7 h8 h9=>z0bq h1 h2 h3 h4 h5 h6 h7 h8 h9)
end
section
open Go.RowKit
set_option maxRecDepth 100000
set_option maxHeartbeats 4000000
theorem zq9 (l:List Coin) (i j:Int) (h:0≤i∧i≤j∧j≤l.length):zah [.l 6 (l.map z00),I i,I j]=some [.l 6 ((l.take i.toNat++l.drop j.toNat).map z00)]:=zd (p:=fun x:List Coin × Int × Int=>0≤x.2.1∧x.2.1≤x.2.2∧x.2.2≤x.1.length) (f:=fun x:List Coin × Int × Int=>x.1.take x.2.1.toNat++x.1.drop x.2.2.toNat) (l,i,j) h
theorem zev (l:List Coin) (i:Int) (c:Coin) (h:0≤i∧i≤l.length∧l.length≤1000000):zai [.l 6 (l.map z00),I i,.l 6 ([c].map z00)]=some [.l 6 ((l.take i.toNat++[c]++l.drop i.toNat).map z00)]:=zd (p:=fun x:List Coin × Int × List Coin=>0≤x.2.1∧x.2.1≤x.1.length∧x.1.length≤1000000∧x.2.2.length=1) (f:=fun x:List Coin × Int × List Coin=>x.1.take x.2.1.toNat++x.2.2++x.1.drop x.2.1.toNat) (l,i,[c]) ⟨h.1,h.2.1,h.2.2,rfl⟩
noncomputable def z8i:z7:=spD (fun _:List Coin × Tx × Int × Int=>True) fun x=>z0f x.1 x.2.1 x.2.2.1 x.2.2.2
theorem zew (l:List Coin) (t:Tx) (nm h:Int):z8i [.l 6 (l.map z00),I t.height,.l 3 (t.ins.map eIn),.l 2 (t.outs.map z27),I nm,I h]=some [.l 6 ((z0f l t nm h).1.map z00),.l 6 ((z0f l t nm h).2.1.map z00),I (z0f l t nm h).2.2]:=zd (f:=fun x:List Coin × Tx × Int × Int=>z0f x.1 x.2.1 x.2.2.1 x.2.2.2) (l,t,nm,h) trivial
theorem z05j {a b:Dt} {n:Int} {pk:List PK} {l:Bool} {g:Bool}:z5t ⟨pk,[(false,[.pure]),(g,[.pure]),(false,[.scal])],l⟩ [a,b,I n]:=by
 intro i d hi hd
 match i,hi,hd with
 | 0,hi,_=>simp [zh] at hi
 | 1,hi,_=>simp [zh] at hi
 | 2,_,hd=>simp only [List.getElem?_cons_succ,List.getElem?_cons_zero,Option.some.injEq] at hd;subst hd;rfl
 | i+3,hi,_=>simp [zh] at hi
attribute [local irreducible] z08 spD z1n zw zb z38 z2z z49 z8
theorem zqa (t:Tx):z46 [I t.height,.l 3 (t.ins.map eIn),.l 2 (t.outs.map z27)]=some [I (zb t)]:=zd (f:=fun t:Tx=>zb t) t trivial
def z01w:T :=
 .lets [.bin .add (.v 28) (.c (.i .i64 1))] [] (.lets [.call 14 [.v 22,.v 28,.v 44] 0] [] (.lets [.bin .add (.v 23) (.c (.i .i64 1))] [] (.again 0 [.v 19,.v 20,.v 43,.v 45,.v
 46])))
def z01x:T :=
 .ite (.v 41) (.ret [.c (.nil 6),.c (.nil 6),.c (.i .i64 8)]) (.lets [.mk 6 [[.v 31,.v 32,.v 33,.v 34,.v 35,.v 36]]] [] (.lets [.app 6 (.v 21) (.v 42)] [] z01w))
def z01y:T :=
 .ite (.v 38) (.ret [.c (.nil 6),.c (.nil 6),.c (.i .i64 10)]) (.lets [.call 16 [.v 34,.v 27,.v 5] 0,.call 16 [.v 34,.v 27,.v 5] 1] [] (.lets [.not (.v 39)] [] z01x))
def z01z:T :=
 .lets [.bin .add (.v 28) (.c (.i .i64 1))] [] (.lets [.call 14 [.v 22,.v 28,.v 42] 0] [] (.lets [.bin .add (.v 23) (.c (.i .i64 1))] [] (.again 0 [.v 19,.v 20,.v 41,.v 43,.v
 44])))
def z020:T :=
 .ite (.v 39) (.ret [.c (.nil 6),.c (.nil 6),.c (.i .i64 8)]) (.lets [.mk 6 [[.v 31,.v 32,.v 33,.v 34,.v 35,.v 36]]] [] (.lets [.app 6 (.v 21) (.v 40)] [] z01z))
def z021:T :=
 .ite (.v 36) (.lets [.bin .add (.v 35) (.c (.i .i64 2))] [] (.lets [.bin .lss (.v 5) (.v 37)] [] z01y)) (.lets [.call 16 [.v 34,.v 27,.v 5] 0,.call 16 [.v 34,.v 27,.v 5]
 1] [] (.lets [.not (.v 37)] [] z020))
def z022:T :=
 .lets [.idx (.v 22) (.v 28) 0,.idx (.v 22) (.v 28) 1,.idx (.v 22) (.v 28) 2,.idx (.v 22) (.v 28) 3,.idx (.v 22) (.v 28) 4,.idx (.v 22) (.v 28) 5] [] z021
def z023:T :=
 .lets [.call 6 [.v 22,.v 25,.v 26] 0,.call 6 [.v 22,.v 25,.v 26] 1] [] (.lets [.not (.v 29)] [] (.ite (.v 30) (.ret [.c (.nil 6),.c (.nil 6),.c (.i .i64 7)]) (.lets [] [.inr
 6 (.v 22) (.v 28)] z022)))
def z024:T :=
 .lets [.mk 6 [[.v 4,.v 29,.v 31,.v 35,.v 5,.v 15]]] [] (.lets [.call 15 [.v 28,.v 33,.v 36] 0] [] (.lets [.bin .add (.v 29) (.c (.i .i64 1))] [] (.again 1 [.v 26,.v 27,.v
 37,.v 38])))
def z025:T :=
 .lets [.call 6 [.v 28,.v 4,.v 29] 0,.call 6 [.v 28,.v 4,.v 29] 1] [] (.ite (.v 34) (.ret [.c (.nil 6),.c (.nil 6),.c (.i .i64 6)]) (.lets [.call 10 [.v 32] 0] []
 z024))
def zxl:T :=
 .lets [.call 8 [.v 28] 0] [] (.lets [.bin .neq (.v 31) (.c (.i .i64 0))] [] (.ite (.v 32) (.ret [.c (.nil 6),.c (.nil 6),.v 31]) (.ret [.v 28,.v 21,.c (.i .i64 0)])))
def zxm:T :=
 .lets [.bin .lss (.v 29) (.v 25)] [] (.ite (.v 30) (.lets [] [.inr 2 (.v 3) (.v 29)] (.lets [.idx (.v 3) (.v 29) 0,.idx (.v 3) (.v 29) 1] [] z025)) zxl)
def zxn:T :=
 .ite (.v 24) (.lets [] [.inr 3 (.v 2) (.v 23)] (.lets [.idx (.v 2) (.v 23) 0,.idx (.v 2) (.v 23) 1,.idx (.v 2) (.v 23) 2] [] z023)) (.lets [.len (.v 3)] [] (.loop [.c (.nil
 6),.c (.i .i64 0),.v 22,.c (.i .i64 0)] zxm))
def zxo:T :=
 .lets [.call 11 [.v 0] 0] [] (.lets [.len (.v 2)] [] (.loop [.c (.nil 6),.c (.i .i64 0),.c (.nil 6),.v 17,.c (.i .i64 0)] (.lets [.bin .lss (.v 23) (.v 18)] [] zxn)))
def zxp:T :=
 .lets [.bin .add (.v 27) (.c (.i .i64 1))] [] (.lets [.call 14 [.v 21,.v 27,.v 43] 0] [] (.lets [.bin .add (.v 22) (.c (.i .i64 1))] [] (.again 0 [.v 18,.v 19,.v 42,.v 44,.v
 45])))
def zxq:T :=
 .ite (.v 40) (.ret [.c (.nil 6),.c (.nil 6),.c (.i .i64 8)]) (.lets [.mk 6 [[.v 30,.v 31,.v 32,.v 33,.v 34,.v 35]]] [] (.lets [.app 6 (.v 20) (.v 41)] [] zxp))
def zxr:T :=
 .ite (.v 37) (.ret [.c (.nil 6),.c (.nil 6),.c (.i .i64 10)]) (.lets [.call 16 [.v 33,.v 26,.v 5] 0,.call 16 [.v 33,.v 26,.v 5] 1] [] (.lets [.not (.v 38)] [] zxq))
def zxs:T :=
 .lets [.bin .add (.v 27) (.c (.i .i64 1))] [] (.lets [.call 14 [.v 21,.v 27,.v 41] 0] [] (.lets [.bin .add (.v 22) (.c (.i .i64 1))] [] (.again 0 [.v 18,.v 19,.v 40,.v 42,.v
 43])))
def zxt:T :=
 .ite (.v 38) (.ret [.c (.nil 6),.c (.nil 6),.c (.i .i64 8)]) (.lets [.mk 6 [[.v 30,.v 31,.v 32,.v 33,.v 34,.v 35]]] [] (.lets [.app 6 (.v 20) (.v 39)] [] zxs))
def zxu:T :=
 .ite (.v 35) (.lets [.bin .add (.v 34) (.c (.i .i64 2))] [] (.lets [.bin .lss (.v 5) (.v 36)] [] zxr)) (.lets [.call 16 [.v 33,.v 26,.v 5] 0,.call 16 [.v 33,.v 26,.v
 5] 1] [] (.lets [.not (.v 36)] [] zxt))
def zxv:T :=
 .lets [.idx (.v 21) (.v 27) 0,.idx (.v 21) (.v 27) 1,.idx (.v 21) (.v 27) 2,.idx (.v 21) (.v 27) 3,.idx (.v 21) (.v 27) 4,.idx (.v 21) (.v 27) 5] [] zxu
def zxw:T :=
 .lets [.call 6 [.v 21,.v 24,.v 25] 0,.call 6 [.v 21,.v 24,.v 25] 1] [] (.lets [.not (.v 28)] [] (.ite (.v 29) (.ret [.c (.nil 6),.c (.nil 6),.c (.i .i64 7)]) (.lets [] [.inr
 6 (.v 21) (.v 27)] zxv)))
def zxx:T :=
 .lets [.mk 6 [[.v 4,.v 30,.v 32,.v 36,.v 5,.v 15]]] [] (.lets [.call 15 [.v 29,.v 34,.v 37] 0] [] (.lets [.bin .add (.v 30) (.c (.i .i64 1))] [] (.again 1 [.v 27,.v 28,.v
 38,.v 39])))
def zxy:T :=
 .lets [.call 6 [.v 29,.v 4,.v 30] 0,.call 6 [.v 29,.v 4,.v 30] 1] [] (.ite (.v 35) (.ret [.c (.nil 6),.c (.nil 6),.c (.i .i64 6)]) (.lets [.call 10 [.v 33] 0] []
 zxx))
def zxz:T :=
 .lets [.call 8 [.v 29] 0] [] (.lets [.bin .neq (.v 32) (.c (.i .i64 0))] [] (.ite (.v 33) (.ret [.c (.nil 6),.c (.nil 6),.v 32]) (.ret [.v 29,.v 20,.c (.i .i64 0)])))
def zy0:T :=
 .lets [.bin .lss (.v 30) (.v 26)] [] (.ite (.v 31) (.lets [] [.inr 2 (.v 3) (.v 30)] (.lets [.idx (.v 3) (.v 30) 0,.idx (.v 3) (.v 30) 1] [] zxy)) zxz)
def zy1:T :=
 .ite (.v 25) (.ret [.c (.nil 6),.c (.nil 6),.c (.i .i64 9)]) (.lets [.len (.v 3)] [] (.loop [.c (.nil 6),.c (.i .i64 0),.v 21,.c (.i .i64 0)] zy0))
def zy2:T :=
 .ite (.v 23) (.lets [] [.inr 3 (.v 2) (.v 22)] (.lets [.idx (.v 2) (.v 22) 0,.idx (.v 2) (.v 22) 1,.idx (.v 2) (.v 22) 2] [] zxw)) (.lets [.call 13 [.v 1,.v 2,.v 3,.v
 20] 0] [] (.lets [.bin .lss (.v 24) (.c (.i .i64 0))] [] zy1))
def zy3:T :=
 .lets [.call 11 [.v 0] 0] [] (.lets [.len (.v 2)] [] (.loop [.c (.nil 6),.c (.i .i64 0),.c (.nil 6),.v 16,.c (.i .i64 0)] (.lets [.bin .lss (.v 22) (.v 17)] [] zy2)))
def zy4:T :=
 .lets [.bin .eql (.v 14) (.c (.i .i64 0))] [] (.ite (.v 15) (.lets [.bin .neq (.v 1) (.v 5)] [] (.ite (.v 16) (.ret [.c (.nil 6),.c (.nil 6),.c (.i .i64 4)]) zxo))
 zy3)
def zy5:T :=
 .ite (.v 12) (.ret [.c (.nil 6),.c (.nil 6),.c (.i .i64 3)]) (.lets [.bin .gtr (.v 5) (.c (.i .i64 1000))] [] (.ite (.v 13) (.ret [.c (.nil 6),.c (.nil 6),.c (.i .i64 3)])
 (.lets [.len (.v 2)] [] zy4)))
def zy6:T :=
 .lets [.bin .gtr (.v 4) (.c (.i .i64 120))] [] (.ite (.v 11) (.ret [.c (.nil 6),.c (.nil 6),.c (.i .i64 3)]) (.lets [.bin .lss (.v 5) (.c (.i .i64 1))] [] zy5))
def zy7:T :=
 .ite (.v 9) (.ret [.c (.nil 6),.c (.nil 6),.v 8]) (.lets [.bin .lss (.v 4) (.c (.i .i64 1))] [] (.ite (.v 10) (.ret [.c (.nil 6),.c (.nil 6),.c (.i .i64 3)]) zy6))
def zy8:T :=
 .lets [.bin .neq (.v 6) (.c (.i .i64 0))] [] (.ite (.v 7) (.ret [.c (.nil 6),.c (.nil 6),.v 6]) (.lets [.call 17 [.v 1,.v 2,.v 3] 0] [] (.lets [.bin .neq (.v 8) (.c (.i .i64
 0))] [] zy7)))
def zg5:T :=
 .lets [.call 8 [.v 0] 0] [] zy8
theorem z08q:Meets Tryz.prog z8i 129 ⟨[.one,.agg 3,.one,.one],[(false,[.pure]),(true,[.pure]),(false,[.scal])],false⟩:=by
 refine z7i (sp:=(z0g [(6,za8),(8,z57),(10,z8w),(11,zc3),(13,z7b),(14,zah),(15,zai),(16,z89),(17,z46)])) (sigs:=z0k) (cut:=[]) (hints:=[⟨19,[.r 8 102 6,.t 10,.r 0 102 6,.t 111,.z 84,.z 83,.z 78]⟩]) (fns:=[z9t 203 Tryz.f203 [⟨2,[.r 6 102 6,.t 8,.r 7 102 6,.r 0 102 6,.t 19]⟩] [],z9t 202 Tryz.f202 [] []]) (dep:=2) (pool:=240) (fn:=Tryz.f129) (t:=zg5) (by kernel_rfl) (by kernel_rfl) (by kernel_rfl) ?_ ?_ ?_
 ·exact (z2k (fn:=Tryz.f203) (by kernel_rfl) (by kernel_rfl) (by kernel_rfl) (by kernel_rfl) (by kernel_rfl) (z2k (fn:=Tryz.f202) (by kernel_rfl) (by kernel_rfl) (by kernel_rfl) (by kernel_rfl) (by kernel_rfl) z8t))
 ·exact (z04 (L:=[(6,za8),(8,z57),(10,z8w),(11,zc3),(13,z7b),(14,zah),(15,zai),(16,z89),(17,z46)]) ⟨z6 rfl z07g,z6 rfl zo4,z6 rfl z07e,z6 rfl z0b6,z6 rfl z039,z6 rfl z08o,z6 rfl z08p,z6 rfl z00g,z6 rfl zo3,trivial⟩)
 ·rintro ds rs - h
  obtain ⟨⟨l,t,nm,ht⟩,-,rfl,rfl⟩:=zl h
  clear h
  refine ⟨⟨t.ins.length+t.outs.length+1,?_⟩,z05j⟩
  show den _ _ zg5 [.l 6 (l.map z00),I t.height,.l 3 (t.ins.map eIn),.l 2 (t.outs.map z27),I nm,I ht] []=ret (z0f l t nm ht)
  unfold zg5 z0f
  repeat' (first|refine dq1 ?_|refine dqk rfl (z72 _) ?_|refine dqk rfl (zqa _) ?_|exact z5 rfl rfl|((first|refine tR ?_ ?_|refine tO ?_ ?_) <;> intro h)|fail)
  all_goals
   have ok:CoinsOK l:=(z2r l).1 (Decidable.not_not.1 (by assumption))
   have okt:TxOK t:=z58 (Decidable.not_not.1 (by assumption))
   have hl:=ok.len
   have hti:=okt.ins
   have hto:=okt.outs
   repeat' (first|refine dq1 ?_|refine dqk rfl (zwa _ ok.short) ?_|fail)
  ·(refine zy (fun (st:List Coin × List Coin) k=>[.l 6 (([]:List Coin).map z00),I 0,.l 6 (st.2.map z00),.l 6 (st.1.map z00),I k]) (fun (st:List Coin × List Coin) _ (xs:List In)=>z39 ht z3z (fun r s=>z3i nm ht (decide ((t.ins.length:Int)=0)) z3z (z9z s) r 0 t.outs) st.1 st.2 xs) (fun st k=>SpI l st k) (l,[]) t.ins ?_ ?_ ?_ ?_ ?_;rfl;exact ⟨ok.sorted,Nat.le_refl _,ok.good,rfl,fun c hc=>by cases hc⟩;omega)
   ·rintro ⟨r,s⟩ k x xs hx hd hk hI again hag
    rename_i h0 _
    omega
   ·rintro ⟨r,s⟩ hI again
    rw [z39]
    repeat' (first|refine dq1 ?_|refine dqF ?_|fail)
    (refine zy (fun (r:List Coin) k=>[.l 6 (([]:List Coin).map z00),I 0,.l 6 (r.map z00),I k]) (fun (r:List Coin) k (os:List Out)=>z3i nm ht (decide ((t.ins.length:Int)=0)) z3z (z9z s) r k os) (fun r k=>z05 r∧r.length≤l.length+k) r t.outs ?_ ?_ ?_ ?_ ?_;rfl;exact ⟨hI.sorted,hI.len⟩;omega)
    ·rintro r k o os hx hd hk ⟨hs,hrl⟩ again' hag
     rw [z3i]
     have hol:=z84 (okt.good o (List.mem_of_getElem? hx)).2.2
     have hpl:=zi2 r ⟨nm,k⟩
     have e1:((zm r ⟨nm,k⟩:Int)).toNat=zm r ⟨nm,k⟩:=by omega
     repeat' (first|refine dq1 ?_|refine dqc ?_|refine dqm ?_|refine dqK rfl (z9w r ⟨nm,k⟩ hs (by omega)) ?_|refine dqk rfl (zdv _ (by omega)) ?_|exact z5 rfl rfl|refine tB (fun h=>?_) fun h=>?_|refine dqT ?_|fail)
     have hno:=h
     refine z4 (z1h (r:=[(⟨⟨nm,k⟩,o,ht,decide ((t.ins.length:Int)=0)⟩:Coin)].map z00) rfl rfl (by simp)) ?_
     refine z4 (z2o rfl (zev _ _ _ ⟨by omega,by omega,by omega⟩) rfl) ?_
     refine z4 (z8u rfl rfl (by omega)) ?_
     rw [e1]
     exact z9 rfl rfl (hag _ ⟨zag hs (c:=⟨⟨nm,k⟩,o,ht,decide ((t.ins.length:Int)=0)⟩) hno,by simp only [List.length_append,List.length_take,List.length_drop,List.length_singleton];omega⟩)
    ·rintro r hr again'
     rw [z3i]
     unfold z9z
     repeat' (first|refine dq1 ?_|refine dqk rfl (z72 _) ?_|exact z5 rfl rfl|refine tR (fun h=>?_) fun h=>?_|refine dqF ?_|fail)
  ·(refine zy (fun (st:List Coin × List Coin) k=>[.l 6 (([]:List Coin).map z00),I 0,.l 6 (st.2.map z00),.l 6 (st.1.map z00),I k]) (fun (st:List Coin × List Coin) _ (xs:List In)=>z39 ht z3z (fun r s=>if z2z t s<0 then z3z 9 else z3i nm ht (decide ((t.ins.length:Int)=0)) z3z (z9z s) r 0 t.outs) st.1 st.2 xs) (fun st k=>SpI l st k) (l,[]) t.ins ?_ ?_ ?_ ?_ ?_;rfl;exact ⟨ok.sorted,Nat.le_refl _,ok.good,rfl,fun c hc=>by cases hc⟩;omega)
   ·rintro ⟨r,s⟩ k x xs hx hd hk hI again hag
    rw [z39]
    simp only
    have hs:=hI.sorted
    have hrl:=hI.len
    simp only at hs hrl
    repeat' (first|refine dq1 ?_|refine dqc ?_|refine dqm ?_|refine dqK rfl (z9w _ _ hs (by omega)) ?_|exact z5 rfl rfl|refine tN (fun h=>?_) fun h=>?_|refine dqT ?_|fail)
    obtain ⟨hlt,hp⟩:=(zi3 hs x.p).1 h
    have hc:r[zm r x.p]? = some r[zm r x.p]:=List.getElem?_eq_getElem hlt
    rw [hc]
    generalize r[zm r x.p]=c at *
    have hcb:=z48 (hI.good c (List.mem_of_getElem? hc))
    have e1:((zm r x.p:Int)).toNat=zm r x.p:=by omega
    have e2:((zm r x.p:Int)+1).toNat=zm r x.p+1:=by omega
    simp only [Option.getD_some]
    have hxo:=hx
    have hx:=hc
    repeat' (first|refine dq1 ?_|refine dqc ?_|refine dqm ?_|refine dqK rfl (zkd _ _ _) ?_|exact z5 rfl rfl|((first|refine tR ?_ ?_|refine tB ?_ ?_|refine tN ?_ ?_) <;> intro h)|fail)
    all_goals (refine z4 (z1h (r:=[c].map z00) rfl rfl (by simp)) ?_;refine z4 (zs4 (l:=s) (l':=[c]) rfl rfl (by have:=hI.cnt;simp only at this ⊢;simp only [List.length_singleton];omega)) ?_;refine z4 (z8u rfl rfl (by omega)) ?_;refine z4 (z2o rfl (zq9 _ _ _ ⟨by omega,by omega,by omega⟩) rfl) ?_;refine z4 (z8u rfl rfl (by omega)) ?_;rw [e1,e2];exact z9 rfl rfl (hag (r.take (zm r x.p)++r.drop (zm r x.p+1),s++[c]) (hI.cut hc)))
   ·rintro ⟨r,s⟩ hI again
    rw [z39]
    repeat' (first|refine dq1 ?_|refine dqk rfl (zci t s (hI.fee okt)) ?_|exact z5 rfl rfl|refine tR (fun h=>?_) fun h=>?_|refine dqF ?_|fail)
    (refine zy (fun (r:List Coin) k=>[.l 6 (([]:List Coin).map z00),I 0,.l 6 (r.map z00),I k]) (fun (r:List Coin) k (os:List Out)=>z3i nm ht (decide ((t.ins.length:Int)=0)) z3z (z9z s) r k os) (fun r k=>z05 r∧r.length≤l.length+k) r t.outs ?_ ?_ ?_ ?_ ?_;rfl;exact ⟨hI.sorted,hI.len⟩;omega)
    ·rintro r k o os hx hd hk ⟨hs,hrl⟩ again' hag
     rw [z3i]
     have hol:=z84 (okt.good o (List.mem_of_getElem? hx)).2.2
     have hpl:=zi2 r ⟨nm,k⟩
     have e1:((zm r ⟨nm,k⟩:Int)).toNat=zm r ⟨nm,k⟩:=by omega
     repeat' (first|refine dq1 ?_|refine dqc ?_|refine dqm ?_|refine dqK rfl (z9w r ⟨nm,k⟩ hs (by omega)) ?_|refine dqk rfl (zdv _ (by omega)) ?_|exact z5 rfl rfl|refine tB (fun h=>?_) fun h=>?_|refine dqT ?_|fail)
     have hno:=h
     refine z4 (z1h (r:=[(⟨⟨nm,k⟩,o,ht,decide ((t.ins.length:Int)=0)⟩:Coin)].map z00) rfl rfl (by simp)) ?_
     refine z4 (z2o rfl (zev _ _ _ ⟨by omega,by omega,by omega⟩) rfl) ?_
     refine z4 (z8u rfl rfl (by omega)) ?_
     rw [e1]
     exact z9 rfl rfl (hag _ ⟨zag hs (c:=⟨⟨nm,k⟩,o,ht,decide ((t.ins.length:Int)=0)⟩) hno,by simp only [List.length_append,List.length_take,List.length_drop,List.length_singleton];omega⟩)
    ·rintro r hr again'
     rw [z3i]
     unfold z9z
     repeat' (first|refine dq1 ?_|refine dqk rfl (z72 _) ?_|exact z5 rfl rfl|refine tR (fun h=>?_) fun h=>?_|refine dqF ?_|fail)
end
section
open Go.RowKit
set_option maxRecDepth 100000
set_option maxHeartbeats 4000000
attribute [local irreducible] z08 spD z1n zw zb z8
end
end Go.Proofs.YtgkfhlnklienoaaGreatDoor
