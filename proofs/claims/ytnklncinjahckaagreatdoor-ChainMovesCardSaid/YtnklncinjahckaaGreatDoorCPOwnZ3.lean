/- Own texts, put together by wip/bundle.py: VW12, VC8, VC9, VC10, VT4, VR1, VR4, VR5, VW14. -/
import Derived.Test.YtnklncinjahckaaGreatDoorCPOwnB
import Derived.Test.YtnklncinjahckaaGreatDoorCPOwnC
import Derived.Test.YtnklncinjahckaaGreatDoorCPOwnR
import Derived.Test.YtnklncinjahckaaGreatDoorCPOwnS
import Derived.Test.YtnklncinjahckaaGreatDoorCPOwnV2
import Derived.Test.YtnklncinjahckaaGreatDoorCPOwnZ2
set_option linter.unusedVariables false
set_option linter.unusedSimpArgs false
namespace Go.Proofs.YtnklncinjahckaaGreatDoor
section
open Go.RowKit
open Go.Lib (itoa)
set_option maxRecDepth 100000
set_option maxHeartbeats 8000000
theorem z023 {k:Book} {t:Tree} {n:Int} {l:List Coin} (h:zx k t n=(l,0)) (hn:n=0→l=[]):z1a l:=by
 by_cases h0:n=0
 ·rw [hn h0];exact ⟨by simp,fun c hc=>by cases hc⟩
 obtain ⟨h1,h2,h3,h4,h5⟩:=z7l h
 obtain ⟨q,us,q1,q2⟩:=zm3 h (by omega)
 exact (zq0 q2).2.2.1.short
theorem z05q {k:Book} {t:Tree} {l:List Coin} (h:zx k t 0=(l,0)):l=[]:=by
 have:=(z7l h).2.2.2.2
 rw [z5u,z0l] at this
 exact (congrArg (fun x=>x.1) this).symm
theorem z7w {k:Book} {t:Tree} {n:Int} {l:List Coin} (h:zx k t n=(l,0)):z1a l:=z023 h fun e=>by subst e;exact z05q h
attribute [local irreducible] z0y spD zx zcf z27 z14 zb z1g z13
attribute [local irreducible] den denX z1b z1m
noncomputable def zny:za:=spD (fun _:Book × Tree × Int × Int=>True) fun _=>true
def zm4:T :=
 .ite (.v 18) (.lets [.call 23 [.v 13,.v 7] 0] [] (.ite (.v 19) (.lets [.call 23 [.v 15,.v 5] 0] [] (.ret [.v 20])) (.ret [.c (.b false)]))) (.ret [.c (.b false)])
def zm5:T :=
 .lets [.call 99 [.v 0,.v 1,.v 2,.v 7,.v 4,.v 3] 0,.call 99 [.v 0,.v 1,.v 2,.v 7,.v 4,.v 3] 1] [] (.lets [.bin .eql (.v 14) (.c (.i .i64 0))] [] (.ite (.v 17) (.lets [.bin
 .eql (.v 16) (.c (.i .i64 0))] [] zm4) (.ret [.c (.b false)])))
def zm6:T :=
 .ite (.v 12) (.lets [.call 106 [] 0] [] (.ret [.v 13])) (.lets [.call 99 [.v 0,.v 1,.v 2,.v 5,.v 3,.v 4] 0,.call 99 [.v 0,.v 1,.v 2,.v 5,.v 3,.v 4] 1] [] zm5)
def zm7:T :=
 .lets [.bin .neq (.v 6) (.c (.i .i64 0))] [] (.ite (.v 11) (.lets [.call 106 [] 0] [] (.ret [.v 12])) (.lets [.bin .neq (.v 8) (.c (.i .i64 0))] [] zm6))
def zm8:T :=
 .lets [.call 97 [.v 0,.v 1,.v 2,.v 4] 0,.call 97 [.v 0,.v 1,.v 2,.v 4] 1] [] (.lets [.call 106 [] 0] [] (.lets [.not (.v 9)] [] (.ite (.v 10) (.lets [.call 106 [] 0] [] (.ret
 [.v 11])) zm7)))
def zax:T :=
 .lets [.call 97 [.v 0,.v 1,.v 2,.v 3] 0,.call 97 [.v 0,.v 1,.v 2,.v 3] 1] [] zm8
attribute [local irreducible] z1q z3e z3q z3c
theorem zrh:Meets Tryz.prog zny 5 ⟨[.agg 1,.agg 2,.one,.one],[(false,[.scal])],true⟩:=by
 refine zi (sp:=(z0m [(23,z3c),(97,z1q),(99,z3e),(106,z3q)])) (sigs:=z0t) (cut:=[]) (hints:=[]) (fn:=Tryz.f5) (t:=zax) (by kernel_rfl) (by kernel_rfl) (by kernel_rfl) ?_ ?_
 ·exact (z0c (L:=[(23,z3c),(97,z1q),(99,z3e),(106,z3q)]) ⟨z7 rfl zf6,z7 rfl zaj,z7 rfl zyb,z7 rfl zfi,trivial⟩)
 ·rintro ds rs - h
  obtain ⟨⟨k,t,a,b⟩,-,rfl,rfl⟩:=zq h
  clear h
  refine ⟨⟨1,?_⟩,z0o rfl⟩
  show den _ _ zax [.l 1 (k.texts.map z0f),.l 1 (t.names.map z04),.l 5 (t.blocks.map z0x),I a,I b] []=ret true
  have a1:=z47 k t a
  have a2:=z47 k t b
  have a3:=z9t
  have main:∀ A B:List Coin,zx k t a=(A,0)→zx k t b=(B,0)→z3e [.l 1 (k.texts.map z0f),.l 1 (t.names.map z04),.l 5 (t.blocks.map z0x),.l 6 (A.map z9),I a,I b]=some [.l 6 (B.map z9),I 0]∧z3e [.l 1 (k.texts.map z0f),.l 1 (t.names.map z04),.l 5 (t.blocks.map z0x),.l 6 (B.map z9),I b,I a]=some [.l 6 (A.map z9),I 0]:=by
   intro A B h1 h2
   have m1:=z6w k t A a b (z7w h1)
   have m2:=z6w k t B b a (z7w h2)
   rw [zbf h1,h2] at m1
   rw [zbf h2,h1] at m2
   exact ⟨m1,m2⟩
  unfold zax
  generalize zx k t a=q at *
  obtain ⟨A,e⟩:=q
  generalize zx k t b=q at *
  obtain ⟨B,f⟩:=q
  simp only at *
  by_cases he:e=0
  ·by_cases hf:f=0
   ·subst he hf
    obtain ⟨m1,m2⟩:=main A B rfl rfl
    have a4:=z6u B B
    have a5:=z6u A A
    rw [decide_eq_true rfl] at a4 a5
    repeat' (first|refine dq1 ?_|refine dqK rfl (a1) ?_|refine dqK rfl (a2) ?_|refine dqk rfl (a3) ?_|refine dqK rfl (m1) ?_|refine dqK rfl (m2) ?_|refine dqk rfl (a4) ?_|refine dqk rfl (a5) ?_|exact z6 rfl rfl|refine dqF ?_|refine z4c rfl ?_|refine z2k rfl ?_|fail)
   ·clear main
    repeat' (first|refine dq1 ?_|refine dqK rfl (a1) ?_|refine dqK rfl (a2) ?_|refine dqk rfl (a3) ?_|exact z6 rfl rfl|refine dqT ?_|refine dqF ?_|refine z2k rfl ?_|fail)
  ·clear main
   repeat' (first|refine dq1 ?_|refine dqK rfl (a1) ?_|refine dqK rfl (a2) ?_|refine dqk rfl (a3) ?_|exact z6 rfl rfl|refine dqT ?_|refine z2k rfl ?_|fail)
theorem chainMoves_walk (k:Book) (c_k:List Value) (t:Tree) (c_t:List Value) (a:Int) (b:Int) (w:World) (h_k:shBook.rep w (Lt w.heap.size) k c_k) (h_t:shTree.rep w (Lt w.heap.size) t c_t) (a_0 : -9223372036854775808≤a) (a_1:a≤9223372036854775807) (b_0 : -9223372036854775808≤b) (b_1:b≤9223372036854775807) (hG:Glob w) :
  Calls Tryz.prog 5 #[.agg c_k.toArray,.agg c_t.toArray,.int .i64 a,.int .i64 b] w fun e w'=>e = .returned (.bool true)∧Below w.heap.size w w' :=
 za0 (F:=Lt w.heap.size) (us:=[.agg c_k.toArray,.agg c_t.toArray,.int .i64 a,.int .i64 b]) rfl (z1x (fn:=Tryz.f5) (by kernel_rfl) (by kernel_rfl) (by kernel_rfl)) zrh ⟨fun _ h=>h,hG⟩ (zl (f:=fun _=>true) (k,t,a,b) trivial)
  (z5p (d1:=z70 k) (she_book.to h_k) rfl (z5p (d1:=z71 t) (she_tree.to h_t) rfl (z2j (.i _ _ (wrap_i64 ⟨a_0,a_1⟩)) (z2j (.i _ _ (wrap_i64 ⟨b_0,b_1⟩)) z8y))))
noncomputable def zri:za:=spD (fun _:Book × Tree × Int × Int × Int=>True) fun _=>true
def znz:T :=
 .lets [.call 99 [.v 0,.v 1,.v 2,.v 13,.v 5,.v 4] 0,.call 99 [.v 0,.v 1,.v 2,.v 13,.v 5,.v 4] 1] [] (.lets [.bin .eql (.v 18) (.c (.i .i64 0))] [] (.ite (.v 19) (.lets
 [.call 23 [.v 11,.v 17] 0] [] (.ret [.v 20])) (.ret [.c (.b false)])))
def zo0:T :=
 .lets [.bin .neq (.v 12) (.c (.i .i64 0))] [] (.ite (.v 15) (.ret [.c (.b true)]) (.lets [.bin .neq (.v 14) (.c (.i .i64 0))] [] (.ite (.v 16) (.ret [.c (.b true)])
 znz)))
def zo1:T :=
 .lets [.call 99 [.v 0,.v 1,.v 2,.v 6,.v 3,.v 4] 0,.call 99 [.v 0,.v 1,.v 2,.v 6,.v 3,.v 4] 1] [] (.lets [.call 99 [.v 0,.v 1,.v 2,.v 6,.v 3,.v 5] 0,.call 99 [.v 0,
 .v 1,.v 2,.v 6,.v 3,.v 5] 1] [] zo0)
def zo2:T :=
 .ite (.v 9) (.lets [.call 106 [] 0] [] (.ret [.v 10])) (.lets [.bin .neq (.v 7) (.c (.i .i64 0))] [] (.ite (.v 10) (.lets [.call 106 [] 0] [] (.ret [.v 11])) zo1))
def zch:T :=
 .lets [.call 97 [.v 0,.v 1,.v 2,.v 3] 0,.call 97 [.v 0,.v 1,.v 2,.v 3] 1] [] (.lets [.call 106 [] 0] [] (.lets [.not (.v 8)] [] zo2))
theorem zyn:Meets Tryz.prog zri 6 ⟨[.agg 1,.agg 2,.one,.one,.one],[(false,[.scal])],true⟩:=by
 refine zi (sp:=(z0m [(23,z3c),(97,z1q),(99,z3e),(106,z3q)])) (sigs:=z0t) (cut:=[]) (hints:=[]) (fn:=Tryz.f6) (t:=zch) (by kernel_rfl) (by kernel_rfl) (by kernel_rfl) ?_ ?_
 ·exact (z0c (L:=[(23,z3c),(97,z1q),(99,z3e),(106,z3q)]) ⟨z7 rfl zf6,z7 rfl zaj,z7 rfl zyb,z7 rfl zfi,trivial⟩)
 ·rintro ds rs - h
  obtain ⟨⟨k,t,a,b,c⟩,-,rfl,rfl⟩:=zq h
  clear h
  refine ⟨⟨1,?_⟩,z0o rfl⟩
  show den _ _ zch [.l 1 (k.texts.map z0f),.l 1 (t.names.map z04),.l 5 (t.blocks.map z0x),I a,I b,I c] []=ret true
  have a1:=z47 k t a
  have a3:=z9t
  have main:∀ A:List Coin,zx k t a=(A,0)→z3e [.l 1 (k.texts.map z0f),.l 1 (t.names.map z04),.l 5 (t.blocks.map z0x),.l 6 (A.map z9),I a,I b]=some [.l 6 ((zx k t b).1.map z9),I (zx k t b).2]∧z3e [.l 1 (k.texts.map z0f),.l 1 (t.names.map z04),.l 5 (t.blocks.map z0x),.l 6 (A.map z9),I a,I c]=some [.l 6 ((zx k t c).1.map z9),I (zx k t c).2]:=by
   intro A h1
   have m1:=z6w k t A a b (z7w h1)
   have m2:=z6w k t A a c (z7w h1)
   rw [zbf h1] at m1 m2
   exact ⟨m1,m2⟩
  have next:(zx k t c).2=0→z3e [.l 1 (k.texts.map z0f),.l 1 (t.names.map z04),.l 5 (t.blocks.map z0x),.l 6 ((zx k t c).1.map z9),I c,I b]=some [.l 6 ((zx k t b).1.map z9),I (zx k t b).2]:=by
   intro h1
   have h2:zx k t c=((zx k t c).1,0):=by rw [← h1]
   have m1:=z6w k t _ c b (z7w h2)
   rw [zbf h2] at m1
   exact m1
  unfold zch
  generalize zx k t a=q at *
  obtain ⟨A,e⟩:=q
  generalize zx k t b=q at *
  obtain ⟨B,f⟩:=q
  generalize zx k t c=q at *
  obtain ⟨C,g⟩:=q
  simp only at *
  by_cases he:e=0
  ·subst he
   obtain ⟨m1,m2⟩:=main A rfl
   clear main
   by_cases hf:f=0
   ·by_cases hg:g=0
    ·subst hf hg
     have m3:=next rfl
     clear next
     have a4:=z6u B B
     rw [decide_eq_true rfl] at a4
     repeat' (first|refine dq1 ?_|refine dqK rfl (a1) ?_|refine dqk rfl (a3) ?_|refine dqK rfl (m1) ?_|refine dqK rfl (m2) ?_|refine dqK rfl (m3) ?_|refine dqk rfl (a4) ?_|exact z6 rfl rfl|refine dqF ?_|refine z4c rfl ?_|refine z2k rfl ?_|fail)
    ·clear next
     repeat' (first|refine dq1 ?_|refine dqK rfl (a1) ?_|refine dqk rfl (a3) ?_|refine dqK rfl (m1) ?_|refine dqK rfl (m2) ?_|exact z6 rfl rfl|refine dqT ?_|refine dqF ?_|refine z2k rfl ?_|fail)
   ·clear next
    repeat' (first|refine dq1 ?_|refine dqK rfl (a1) ?_|refine dqk rfl (a3) ?_|refine dqK rfl (m1) ?_|refine dqK rfl (m2) ?_|exact z6 rfl rfl|refine dqT ?_|refine dqF ?_|refine z2k rfl ?_|fail)
  ·clear main next
   repeat' (first|refine dq1 ?_|refine dqK rfl (a1) ?_|refine dqk rfl (a3) ?_|exact z6 rfl rfl|refine dqT ?_|refine z2k rfl ?_|fail)
theorem chainWays_walk (k:Book) (c_k:List Value) (t:Tree) (c_t:List Value) (a:Int) (b:Int) (c:Int) (w:World) (h_k:shBook.rep w (Lt w.heap.size) k c_k) (h_t:shTree.rep w (Lt w.heap.size) t c_t) (a_0 : -9223372036854775808≤a) (a_1:a≤9223372036854775807) (b_0 : -9223372036854775808≤b) (b_1:b≤9223372036854775807) (c_0 : -9223372036854775808≤c) (c_1:c≤9223372036854775807) (hG:Glob w) :
  Calls Tryz.prog 6 #[.agg c_k.toArray,.agg c_t.toArray,.int .i64 a,.int .i64 b,.int .i64 c] w fun e w'=>e = .returned (.bool true)∧Below w.heap.size w w' :=
 za0 (F:=Lt w.heap.size) (us:=[.agg c_k.toArray,.agg c_t.toArray,.int .i64 a,.int .i64 b,.int .i64 c]) rfl (z1x (fn:=Tryz.f6) (by kernel_rfl) (by kernel_rfl) (by kernel_rfl)) zyn ⟨fun _ h=>h,hG⟩ (zl (f:=fun _=>true) (k,t,a,b,c) trivial)
  (z5p (d1:=z70 k) (she_book.to h_k) rfl (z5p (d1:=z71 t) (she_tree.to h_t) rfl (z2j (.i _ _ (wrap_i64 ⟨a_0,a_1⟩)) (z2j (.i _ _ (wrap_i64 ⟨b_0,b_1⟩)) (z2j (.i _ _ (wrap_i64 ⟨c_0,c_1⟩)) z8y)))))
noncomputable def zm9:za:=spD (fun _:Book × Tree × Int × Int=>True) fun _=>true
def zk9:T :=
 .lets [.bin .eql (.v 33) (.c (.i .i64 0))] [] (.ite (.v 36) (.lets [.bin .sub (.v 8) (.v 29)] [] (.lets [.bin .eql (.v 26) (.v 37)] [] (.ret [.v 38]))) (.ret [.c (.b false)]))
def zka:T :=
 .lets [.bin .eql (.v 27) (.c (.i .i64 5))] [] (.ite (.v 34) (.ret [.c (.b true)]) (.lets [.bin .eql (.v 27) (.c (.i .i64 0))] [] (.ite (.v 35) zk9 (.ret [.c (.b
 false)]))))
def zkb:T :=
 .lets [.call 89 [.v 1,.v 2,.v 3] 0,.call 89 [.v 1,.v 2,.v 3] 1,.call 89 [.v 1,.v 2,.v 3] 2,.call 89 [.v 1,.v 2,.v 3] 3,.call 89 [.v 1,.v 2,.v 3] 4,.call 89 [.v 1,.v
 2,.v 3] 5] [] zka
def zkc:T :=
 .lets [.not (.v 24)] [] (.ite (.v 25) (.ret [.c (.b false)]) (.lets [.call 100 [.v 1,.v 2,.v 3,.v 4] 0,.call 100 [.v 1,.v 2,.v 3,.v 4] 1] [] zkb))
def zkd:T :=
 .ite (.v 22) (.ret [.c (.b false)]) (.lets [.bin .neq (.v 21) (.c (.i .i64 0))] [] (.ite (.v 23) (.ret [.c (.b false)]) (.lets [.call 23 [.v 5,.v 19] 0] [] zkc)))
def zke:T :=
 .lets [.call 74 [.v 0,.v 17,.v 7,.v 8,.v 9,.v 10,.v 11] 0,.call 74 [.v 0,.v 17,.v 7,.v 8,.v 9,.v 10,.v 11] 1,.call 74 [.v 0,.v 17,.v 7,.v 8,.v 9,.v 10,.v 11] 2]
 [] (.lets [.bin .neq (.v 18) (.c (.i .i64 0))] [] zkd)
def zkf:T :=
 .lets [.bin .neq (.v 12) (.c (.i .i64 0))] [] (.ite (.v 16) (.lets [.call 106 [] 0] [] (.ret [.v 17])) (.lets [.call 97 [.v 0,.v 1,.v 2,.v 7] 0,.call 97 [.v 0,.v 1,.v 2,.v 7]
 1] [] zke))
def zkg:T :=
 .ite (.v 14) (.lets [.call 106 [] 0] [] (.ret [.v 15])) (.lets [.bin .neq (.v 6) (.c (.i .i64 0))] [] (.ite (.v 15) (.lets [.call 106 [] 0] [] (.ret [.v 16])) zkf))
def zkh:T :=
 .lets [.call 89 [.v 1,.v 2,.v 4] 0,.call 89 [.v 1,.v 2,.v 4] 1,.call 89 [.v 1,.v 2,.v 4] 2,.call 89 [.v 1,.v 2,.v 4] 3,.call 89 [.v 1,.v 2,.v 4] 4,.call 89 [.v 1,.v
 2,.v 4] 5] [] (.lets [.call 106 [] 0] [] (.lets [.not (.v 13)] [] zkg))
def z9u:T :=
 .lets [.call 97 [.v 0,.v 1,.v 2,.v 4] 0,.call 97 [.v 0,.v 1,.v 2,.v 4] 1] [] zkh
attribute [local irreducible] z19 z52 z2h
theorem zo3:Meets Tryz.prog zm9 4 ⟨[.agg 1,.agg 2,.one,.one],[(false,[.scal])],true⟩:=by
 refine zi (sp:=(z0m [(23,z3c),(74,z19),(89,z2h),(97,z1q),(100,z52),(106,z3q)])) (sigs:=z0t) (cut:=[]) (hints:=[]) (fn:=Tryz.f4) (t:=z9u) (by kernel_rfl) (by kernel_rfl) (by kernel_rfl) ?_ ?_
 ·exact (z0c (L:=[(23,z3c),(74,z19),(89,z2h),(97,z1q),(100,z52),(106,z3q)]) ⟨z7 rfl zf6,z7 rfl z9f,z7 rfl zdg,z7 rfl zaj,z7 rfl zpz,z7 rfl zfi,trivial⟩)
 ·rintro ds rs - h
  obtain ⟨⟨k,t,n,m⟩,-,rfl,rfl⟩:=zq h
  clear h
  refine ⟨⟨1,?_⟩,z0o rfl⟩
  show den _ _ z9u [.l 1 (k.texts.map z0f),.l 1 (t.names.map z04),.l 5 (t.blocks.map z0x),I n,I m] []=ret true
  have a1:=z47 k t m
  have a2:=z37 t m
  have a3:=z9t
  have main:∀ A:List Coin,zx k t m=(A,0)→z1g t m=0→∃ (q:List Coin) (us:List Undo),zx k t (zb t m).parent=(q,0)∧z14 k q (zb t m)=(A,us,0)∧((z27 t n m).2=5∨(z27 t n m).2=0∧z1g t n=0∧(z27 t n m).1=(zb t m).height - (zb t n).height∧(0≤(zb t m).height∧(zb t m).height≤24)∧0≤(zb t n).height∧(zb t n).height≤24):=by
   intro A h1 h2
   have ok:=(z7l h1).2.1
   have hm:0≤idx t.names m:=by
    unfold z1g at h2
    rw [if_neg (fun k=>k ((z1s _ _).2 ok))] at h2
    by_cases h:idx t.names m<0
    ·rw [if_pos h] at h2;exact absurd h2 (by decide)
    ·omega
   obtain ⟨q,us,q1,q2⟩:=zm3 h1 hm
   refine ⟨q,us,q1,q2,?_⟩
   have hc:=(zfj (show (z0v k t m).2=0 by rw [(z7l h1).2.2.2.1])).2.2.2.2
   rcases z08n (n:=n) (show (z13 t m).2=0 by rw [hc]) with h|h
   ·exact .inl h
   ·have:=zym (t:=t) (n:=n) (m:=m) (d:=(z27 t n m).1) hm (by rw [← h])
    exact .inr ⟨h,this⟩
  have a4:=zfw t n m
  have a5:=z37 t n
  have a6:=z47 k t (zb t m).parent
  unfold z9u
  generalize zx k t m=q at *
  obtain ⟨A,e⟩:=q
  simp only at *
  by_cases he:e=0
  ·by_cases hf:z1g t m=0
   ·subst he
    obtain ⟨q,us,q1,q2,q3⟩:=main A rfl hf
    clear main
    have a7:=z5v k q (zb t m)
    have a8:=z6u A A
    rw [decide_eq_true rfl] at a8
    rw [q1] at a6
    rw [q2] at a7
    rw [hf] at a2
    generalize z27 t n m=d at *
    obtain ⟨d,f⟩:=d
    generalize zb t m=b at *
    simp only at *
    rcases q3 with q3|⟨q3,q4,q5,⟨q6,q7⟩,q8,q9⟩
    ·subst q3
     generalize zb t n=c at *
     repeat' (first|refine dq1 ?_|refine dqK rfl (a1) ?_|refine dqK rfl (a2) ?_|refine dqk rfl (a3) ?_|refine dqK rfl (a4) ?_|refine dqK rfl (a5) ?_|refine dqK rfl (a6) ?_|refine dqK rfl (a7) ?_|refine dqk rfl (a8) ?_|exact z6 rfl rfl|refine dqF ?_|refine z4c rfl ?_|refine z2k rfl ?_|fail)
    ·subst q3 q5
     rw [q4] at a5
     generalize zb t n=c at *
     repeat' (first|refine dq1 ?_|refine dqK rfl (a1) ?_|refine dqK rfl (a2) ?_|refine dqk rfl (a3) ?_|refine dqK rfl (a4) ?_|refine dqK rfl (a5) ?_|refine dqK rfl (a6) ?_|refine dqK rfl (a7) ?_|refine dqk rfl (a8) ?_|exact z6 rfl rfl|refine dqF ?_|refine z4c rfl ?_|refine z2k rfl ?_|fail)
   ·clear main
    generalize z1g t m=f at *
    generalize zb t m=b at *
    repeat' (first|refine dq1 ?_|refine dqK rfl (a1) ?_|refine dqK rfl (a2) ?_|refine dqk rfl (a3) ?_|exact z6 rfl rfl|refine dqT ?_|refine dqF ?_|refine z2k rfl ?_|fail)
  ·clear main
   generalize z1g t m=f at *
   generalize zb t m=b at *
   repeat' (first|refine dq1 ?_|refine dqK rfl (a1) ?_|refine dqK rfl (a2) ?_|refine dqk rfl (a3) ?_|exact z6 rfl rfl|refine dqT ?_|refine z2k rfl ?_|fail)
theorem chainDepths_walk (k:Book) (c_k:List Value) (t:Tree) (c_t:List Value) (n:Int) (m:Int) (w:World) (h_k:shBook.rep w (Lt w.heap.size) k c_k) (h_t:shTree.rep w (Lt w.heap.size) t c_t) (n_0 : -9223372036854775808≤n) (n_1:n≤9223372036854775807) (m_0 : -9223372036854775808≤m) (m_1:m≤9223372036854775807) (hG:Glob w) :
  Calls Tryz.prog 4 #[.agg c_k.toArray,.agg c_t.toArray,.int .i64 n,.int .i64 m] w fun e w'=>e = .returned (.bool true)∧Below w.heap.size w w' :=
 za0 (F:=Lt w.heap.size) (us:=[.agg c_k.toArray,.agg c_t.toArray,.int .i64 n,.int .i64 m]) rfl (z1x (fn:=Tryz.f4) (by kernel_rfl) (by kernel_rfl) (by kernel_rfl)) zo3 ⟨fun _ h=>h,hG⟩ (zl (f:=fun _=>true) (k,t,n,m) trivial)
  (z5p (d1:=z70 k) (she_book.to h_k) rfl (z5p (d1:=z71 t) (she_tree.to h_t) rfl (z2j (.i _ _ (wrap_i64 ⟨n_0,n_1⟩)) (z2j (.i _ _ (wrap_i64 ⟨m_0,m_1⟩)) z8y))))
end
section
open Go.RowKit
open Go.Lib (itoa)
set_option maxRecDepth 100000
set_option maxHeartbeats 4000000
def z12 (x:List (List UInt8)) (l:List Coin) (t:Tx) (h:Int):List (List UInt8) × List Coin × Int × Int :=
 if (z02 t).2≠0 then (x,[],0,(z02 t).2) else if (t.ins.length:Int)=0 then (x,[],0,4) else
 if z1n ⟨x⟩ (z02 t).1≠0 then (x,[],0,z1n ⟨x⟩ (z02 t).1) else
 if (zk l t (z10 ⟨x⟩ (z02 t).1) h).2.2≠0 then (x,[],0,(zk l t (z10 ⟨x⟩ (z02 t).1) h).2.2) else
 (z1z ⟨x⟩ (z02 t).1,(zk l t (z10 ⟨x⟩ (z02 t).1) h).1,z15 t (zk l t (z10 ⟨x⟩ (z02 t).1) h).2.1,0)
abbrev z0bf:=List (List UInt8) × List Tx × List Coin × Int × Int
structure Sw where
 x:List (List UInt8)
 s:List Tx
 m:List Coin
 f:Int
def z2y (h:Int):Sw→List Tx→z0bf
 | a,[]=>(a.x,a.s,a.m,a.f,0)
 | a,t::r=>if (z12 a.x a.m t h).2.2.2≠0 then z2y h a r else
  z2y h ⟨(z12 a.x a.m t h).1,a.s++[t],(z12 a.x a.m t h).2.1,a.f+(z12 a.x a.m t h).2.2.1⟩ r
def z05 (k:Book) (l:List Coin) (p:List Tx) (h:Int):z0bf :=
 if zt k≠0 then ([],[],[],0,zt k) else if zj l≠0 then ([],[],[],0,zj l) else
 if h<1 then ([],[],[],0,3) else if h > 1000 then ([],[],[],0,3) else if (p.length:Int) > 8 then ([],[],[],0,2) else
 z2y h ⟨k.texts,[],l,0⟩ p
def zhq (x:List (List UInt8)) (s:List Tx) (m:List Coin) (t:Tx) (h:Int):List (List UInt8) × List Tx × Int :=
 if (z12 x m t h).2.2.2≠0 then ([],[],(z12 x m t h).2.2.2) else if (s.length:Int)=8 then ([],[],12) else ((z12 x m t h).1,s++[t],0)
def z2p (k:Book) (l:List Coin) (p:List Tx) (t:Tx) (h:Int):List (List UInt8) × List Tx × Int :=
 if (z05 k l p h).2.2.2.2≠0 then ([],[],(z05 k l p h).2.2.2.2) else if t ∈ (z05 k l p h).2.1 then ([],[],6) else
 zhq (z05 k l p h).1 (z05 k l p h).2.1 (z05 k l p h).2.2.1 t h
def zo4 (parent height work nonce:Int) (lk:List Op) (s:List Tx) (f:Int):Block × Int :=
 if z38 height≠0 then (zae,z38 height) else if z07 height+f=0 then (zae,9) else
 if zg ⟨parent,height,work,nonce,⟨height,[],[⟨z07 height+f,lk⟩]⟩::s⟩≠0 then (zae,zg ⟨parent,height,work,nonce,⟨height,[],[⟨z07 height+f,lk⟩]⟩::s⟩) else
 (⟨parent,height,work,nonce,⟨height,[],[⟨z07 height+f,lk⟩]⟩::s⟩,0)
def z2i (k:Book) (l:List Coin) (p:List Tx) (parent height work nonce:Int) (lk:List Op):Block × Int :=
 if (z05 k l p (height+1)).2.2.2.2≠0 then (zae,(z05 k l p (height+1)).2.2.2.2) else
 if (z05 k l ((z05 k l p (height+1)).2.1.take 3) (height+1)).2.2.2.2≠0 then (zae,(z05 k l ((z05 k l p (height+1)).2.1.take 3) (height+1)).2.2.2.2) else
 zo4 parent (height+1) work nonce lk (z05 k l ((z05 k l p (height+1)).2.1.take 3) (height+1)).2.1 (z05 k l ((z05 k l p (height+1)).2.1.take 3) (height+1)).2.2.2.1
theorem zma {x:List (List UInt8)} {l:List Coin} {t:Tx} {h:Int} (h0:(z12 x l t h).2.2.2=0) :
  zo t=0∧t.ins.length≠0∧z1n ⟨x⟩ (z18 t)=0∧(zk l t (z10 ⟨x⟩ (z18 t)) h).2.2=0∧z12 x l t h=(z1z ⟨x⟩ (z18 t),(zk l t (z10 ⟨x⟩ (z18 t)) h).1,z15 t (zk l t (z10 ⟨x⟩ (z18 t)) h).2.1,0):=by
 by_cases hc:zo t=0
 rotate_left
 ·have e:z02 t=([],zo t):=by unfold z02;exact if_pos hc
  unfold z12 at h0
  rw [e,if_pos hc] at h0
  exact absurd h0 hc
 unfold z12 at h0 ⊢
 rw [zb8 hc,if_neg (fun k=>k rfl)] at h0 ⊢
 by_cases hi:(t.ins.length:Int)=0
 ·rw [if_pos hi] at h0
  exact absurd h0 (by show ¬ (4:Int)=0;decide)
 rw [if_neg hi] at h0 ⊢
 by_cases hn:z1n ⟨x⟩ (z18 t)=0
 rotate_left
 ·rw [if_pos hn] at h0
  exact absurd h0 hn
 rw [if_neg (fun k=>k hn)] at h0 ⊢
 by_cases ha:(zk l t (z10 ⟨x⟩ (z18 t)) h).2.2=0
 rotate_left
 ·rw [if_pos ha] at h0
  exact absurd h0 ha
 rw [if_neg (fun k=>k ha)]
 exact ⟨hc,by omega,hn,ha,rfl⟩
theorem z03i {x:List (List UInt8)} {l:List Coin} {t:Tx} {h:Int} (h0:(z12 x l t h).2.2.2=0) : -10000000000≤(z12 x l t h).2.2.1∧(z12 x l t h).2.2.1≤10000000000:=by
 obtain ⟨-,-,-,h4,h5⟩:=zma h0
 rw [h5]
 exact (zhg h4).2
theorem zfk (h:Int):∀ (r:List Tx) (a:Sw) (n:Nat),a.s.length≤n → -10000000000 * (n:Int)≤a.f→a.f≤10000000000 * (n:Int)→(z2y h a r).2.1.length≤n+r.length ∧ -10000000000 * ((n:Int)+r.length)≤(z2y h a r).2.2.2.1∧(z2y h a r).2.2.2.1≤10000000000 * ((n:Int)+r.length)
 | [],a,n,h1,h2,h3=>by
  rw [z2y]
  simp only [List.length_nil]
  omega
 | t::r,a,n,h1,h2,h3=>by
  rw [z2y]
  by_cases he:(z12 a.x a.m t h).2.2.2=0
  ·rw [if_neg (fun k=>k he)]
   have hf:=z03i he
   have:=zfk h r ⟨(z12 a.x a.m t h).1,a.s++[t],(z12 a.x a.m t h).2.1,a.f+(z12 a.x a.m t h).2.2.1⟩ (n+1) (by simp;omega) (by simp only;omega) (by simp only;omega)
   simp only [List.length_cons]
   omega
  ·rw [if_pos he]
   have:=zfk h r a n h1 h2 h3
   simp only [List.length_cons]
   omega
theorem zfl (k:Book) (l:List Coin) (p:List Tx) (h:Int):(z05 k l p h).2.1.length≤8 ∧ -80000000000≤(z05 k l p h).2.2.2.1∧(z05 k l p h).2.2.2.1≤80000000000:=by
 unfold z05
 split
 ·exact ⟨by simp,by simp,by simp⟩
 split
 ·exact ⟨by simp,by simp,by simp⟩
 split
 ·exact ⟨by simp,by simp,by simp⟩
 split
 ·exact ⟨by simp,by simp,by simp⟩
 split
 ·exact ⟨by simp,by simp,by simp⟩
 ·rename_i h5
  have:=zfk h p ⟨k.texts,[],l,0⟩ 0 (by simp) (by simp) (by simp)
  omega
attribute [local irreducible] z0y spD z02 zk z15 z1n z1z z10 zt zj zg z07 z38
attribute [local irreducible] den denX z1b z1m
noncomputable def z5w:za:=spD (fun _:List (List UInt8) × List Coin × Tx × Int=>True) fun x=>z12 x.1 x.2.1 x.2.2.1 x.2.2.2
theorem zfz (x:List (List UInt8)) (l:List Coin) (t:Tx) (h:Int):z5w [.l 1 (x.map z0f),.l 6 (l.map z9),I t.height,.l 3 (t.ins.map eIn),.l 2 (t.outs.map z2f),I h]=some [.l 1 ((z12 x l t h).1.map z0f),.l 6 ((z12 x l t h).2.1.map z9),I (z12 x l t h).2.2.1,I (z12 x l t h).2.2.2]:=zl (f:=fun x:List (List UInt8) × List Coin × Tx × Int=>z12 x.1 x.2.1 x.2.2.1 x.2.2.2) (x,l,t,h) trivial
theorem zmb (x:List (List UInt8)) (s:List UInt8):z69 [.l 1 (x.map z0f),.s s]=some [.l 1 ((z1z ⟨x⟩ s).map z0f),I (z10 ⟨x⟩ s),I (z1n ⟨x⟩ s)]:=znj ⟨x⟩ s
theorem zki (x:List (List UInt8)):z36 [.l 1 (x.map z0f)]=some [I (zt ⟨x⟩)]:=zd0 ⟨x⟩
def z024:T :=
 .lets [.bin .neq (.v 17) (.c (.i .i64 0))] [] (.ite (.v 18) (.ret [.v 0,.c (.nil 6),.c (.i .i64 0),.v 17]) (.lets [.call 13 [.v 2,.v 3,.v 4,.v 16] 0] [] (.ret [.v 11,.v 15,
 .v 19,.c (.i .i64 0)])))
def z025:T :=
 .lets [.call 18 [.v 1,.v 2,.v 3,.v 4,.v 12,.v 5] 0,.call 18 [.v 1,.v 2,.v 3,.v 4,.v 12,.v 5] 1,.call 18 [.v 1,.v 2,.v 3,.v 4,.v 12,.v 5] 2] [] z024
def z026:T :=
 .lets [.call 84 [.v 0,.v 6] 0,.call 84 [.v 0,.v 6] 1,.call 84 [.v 0,.v 6] 2] [] (.lets [.bin .neq (.v 13) (.c (.i .i64 0))] [] (.ite (.v 14) (.ret [.v 0,.c (.nil 6),.c (.i
 .i64 0),.v 13]) z025))
def z027:T :=
 .ite (.v 8) (.ret [.v 0,.c (.nil 6),.c (.i .i64 0),.v 7]) (.lets [.len (.v 3)] [] (.lets [.bin .eql (.v 9) (.c (.i .i64 0))] [] (.ite (.v 10) (.ret [.v 0,.c (.nil 6),.c (.i
 .i64 0),.c (.i .i64 4)]) z026)))
def zhr:T :=
 .lets [.call 62 [.v 2,.v 3,.v 4] 0,.call 62 [.v 2,.v 3,.v 4] 1] [] (.lets [.bin .neq (.v 7) (.c (.i .i64 0))] [] z027)
attribute [local irreducible] z69 z3p z51 z58
theorem zq2:Meets Tryz.prog z5w 41 ⟨[.agg 1,.one,.agg 3,.one],[(true,[.pure]),(false,[.pure]),(false,[.scal]),(false,[.scal])],false⟩:=by
 refine zi (sp:=(z0m [(13,z58),(18,z51),(62,z3p),(84,z69)])) (sigs:=z0t) (cut:=[]) (hints:=[]) (fn:=Tryz.f41) (t:=zhr) (by kernel_rfl) (by kernel_rfl) (by kernel_rfl) ?_ ?_
 ·exact (z0c (L:=[(13,z58),(18,z51),(62,z3p),(84,z69)]) ⟨z7 rfl zne,z7 rfl zpt,z7 rfl zpj,z7 rfl z05b,trivial⟩)
 ·rintro ds rs - h
  obtain ⟨⟨x,l,t,hh⟩,-,rfl,rfl⟩:=zq h
  clear h
  refine ⟨⟨1,?_⟩,z2v ⟨rfl,rfl,trivial⟩⟩
  show den _ _ zhr [.l 1 (x.map z0f),.l 6 (l.map z9),I t.height,.l 3 (t.ins.map eIn),.l 2 (t.outs.map z2f),I hh] []=ret (z12 x l t hh)
  have a1:=ze9 t
  have a2:=zmb x (z02 t).1
  have a3:=zaw l t (z10 ⟨x⟩ (z02 t).1) hh
  have a4:=fun h0=>za5 t _ (zhg (l:=l) (t:=t) (nm:=z10 ⟨x⟩ (z02 t).1) (h:=hh) h0).1
  unfold zhr z12
  generalize z02 t=pt at *
  obtain ⟨s,e⟩:=pt
  simp only at *
  generalize z1n ⟨x⟩ s=en at *
  generalize z1z ⟨x⟩ s=xn at *
  generalize z10 ⟨x⟩ s=nm at *
  generalize zk l t nm hh=q at *
  obtain ⟨m,us,ea⟩:=q
  simp only at *
  by_cases hea:ea=0
  ·have a4:=a4 hea
   repeat' (first|refine dq1 ?_|refine dqK rfl (a1) ?_|refine dqK rfl (a2) ?_|refine dqK rfl (a3) ?_|refine dqk rfl (a4) ?_|exact z6 rfl rfl|refine tR (fun h=>?_) fun h=>?_|fail)
  ·clear a4
   repeat' (first|refine dq1 ?_|refine dqK rfl (a1) ?_|refine dqK rfl (a2) ?_|refine dqK rfl (a3) ?_|exact z6 rfl rfl|refine tR (fun h=>?_) fun h=>?_|fail)
   all_goals omega
noncomputable def z23:za:=spD (fun _:List (List UInt8) × List Coin × List Tx × Int=>True) fun x=>z05 ⟨x.1⟩ x.2.1 x.2.2.1 x.2.2.2
theorem z53 (x:List (List UInt8)) (l:List Coin) (p:List Tx) (h:Int):z23 [.l 1 (x.map z0f),.l 6 (l.map z9),.l 3 (p.map eTx),I h]=some [.l 1 ((z05 ⟨x⟩ l p h).1.map z0f),.l 3 ((z05 ⟨x⟩ l p h).2.1.map eTx),.l 6 ((z05 ⟨x⟩ l p h).2.2.1.map z9),I (z05 ⟨x⟩ l p h).2.2.2.1,I (z05 ⟨x⟩ l p h).2.2.2.2]:=zl (f:=fun x:List (List UInt8) × List Coin × List Tx × Int=>z05 ⟨x.1⟩ x.2.1 x.2.2.1 x.2.2.2) (x,l,p,h) trivial
def zrj:T :=
 .lets [.mk 3 [[.v 30,.v 31,.v 32]]] [] (.lets [.app 3 (.v 17) (.v 33)] [] (.lets [.bin .add (.v 18) (.c (.i .i64 1))] [] (.again 0 [.v 25,.v 29,.v 34,.v 35,.v 24])))
def zrk:T :=
 .lets [.bin .add (.v 16) (.v 26)] [] (.lets [.call 91 [.v 21,.v 22,.v 23] 0,.call 91 [.v 21,.v 22,.v 23] 1,.call 91 [.v 21,.v 22,.v 23] 2] [] zrj)
def zrl:T :=
 .lets [.bin .neq (.v 27) (.c (.i .i64 0))] [] (.ite (.v 28) (.lets [.bin .add (.v 18) (.c (.i .i64 1))] [] (.again 0 [.v 15,.v 16,.v 17,.v 29,.v 19])) zrk)
def zrm:T :=
 .lets [.call 101 [.v 19,.v 15,.v 21,.v 22,.v 23,.v 3] 0,.call 101 [.v 19,.v 15,.v 21,.v 22,.v 23,.v 3] 1,.call 101 [.v 19,.v 15,.v 21,.v 22,.v 23,.v 3] 2,.call 101
 [.v 19,.v 15,.v 21,.v 22,.v 23,.v 3] 3] [] zrl
def zrn:T :=
 .ite (.v 20) (.lets [] [.inr 3 (.v 2) (.v 18)] (.lets [.idx (.v 2) (.v 18) 0,.idx (.v 2) (.v 18) 1,.idx (.v 2) (.v 18) 2] [] zrm)) (.ret [.v 19,.v 17,.v 15,.v 16,.c
 (.i .i64 0)])
def zro:T :=
 .lets [.call 83 [.v 0] 0] [] (.lets [.len (.v 2)] [] (.loop [.v 12,.c (.i .i64 0),.c (.nil 3),.c (.i .i64 0),.v 13] (.lets [.bin .lss (.v 18) (.v 14)] [] zrn)))
def zrp:T :=
 .lets [.bin .gtr (.v 10) (.c (.i .i64 8))] [] (.ite (.v 11) (.ret [.c (.nil 1),.c (.nil 3),.c (.nil 6),.c (.i .i64 0),.c (.i .i64 2)]) (.lets [.call 11 [.v 1] 0] []
 zro))
def zrq:T :=
 .lets [.bin .gtr (.v 3) (.c (.i .i64 1000))] [] (.ite (.v 9) (.ret [.c (.nil 1),.c (.nil 3),.c (.nil 6),.c (.i .i64 0),.c (.i .i64 3)]) (.lets [.len (.v 2)] [] zrp))
def zrr:T :=
 .ite (.v 7) (.ret [.c (.nil 1),.c (.nil 3),.c (.nil 6),.c (.i .i64 0),.v 6]) (.lets [.bin .lss (.v 3) (.c (.i .i64 1))] [] (.ite (.v 8) (.ret [.c (.nil 1),.c (.nil 3),.c (.nil
 6),.c (.i .i64 0),.c (.i .i64 3)]) zrq))
def zrs:T :=
 .ite (.v 5) (.ret [.c (.nil 1),.c (.nil 3),.c (.nil 6),.c (.i .i64 0),.v 4]) (.lets [.call 8 [.v 1] 0] [] (.lets [.bin .neq (.v 6) (.c (.i .i64 0))] [] zrr))
def zdj:T :=
 .lets [.call 69 [.v 0] 0] [] (.lets [.bin .neq (.v 4) (.c (.i .i64 0))] [] zrs)
attribute [local irreducible] z36 zcc z5n z1i z3b
theorem zdk:Meets Tryz.prog z23 10 ⟨[.agg 1,.one,.one,.one],[(true,[.pure]),(false,[.fresh 59 3]),(false,[.pure]),(false,[.scal]),(false,[.scal])],false⟩:=by
 refine zi (sp:=(z0m [(8,z1i),(11,z3b),(69,z36),(83,zcc),(91,z5n),(101,z5w)])) (sigs:=z0bd) (cut:=[]) (hints:=[⟨14,[.t 10,.t 11,.r 9 59 3,.t 52,.o 8]⟩]) (fn:=Tryz.f10) (t:=zdj) (by kernel_rfl) (by kernel_rfl) (by kernel_rfl) ?_ ?_
 ·exact (z0c (L:=[(8,z1i),(11,z3b),(69,z36),(83,zcc),(91,z5n),(101,z5w)]) ⟨z7 rfl z8j,z7 rfl (zgj rfl zf5),z7 rfl zj9,z7 rfl (zgj rfl z0d7),z7 rfl zwy,z7 rfl zq2,trivial⟩)
 ·rintro ds rs - h
  obtain ⟨⟨x,l,p,hh⟩,-,rfl,rfl⟩:=zq h
  clear h
  refine ⟨⟨10,?_⟩,z2v ⟨rfl,rfl,trivial⟩⟩
  show den _ _ zdj [.l 1 (x.map z0f),.l 6 (l.map z9),.l 3 (p.map eTx),I hh] []=ret (z05 ⟨x⟩ l p hh)
  have a1:=zki x
  have a2:=z2l l
  have a3:=fun h0=>z6t l ((z0d l).1 h0).short
  have a4:=fun h0=>z00t x (by have:=z7y (bk:=⟨x⟩) h0;simp only at this;omega)
  unfold zdj z05
  generalize zt ⟨x⟩=eb at *
  generalize zj l=ec at *
  by_cases hb:eb=0
  ·by_cases hc:ec=0
   ·have a3:=a3 hc
    have a4:=a4 hb
    repeat' (first|refine dq1 ?_|refine dqk rfl (a1) ?_|refine dqk rfl (a2) ?_|refine dqk rfl (a3) ?_|refine dqk rfl (a4) ?_|exact z6 rfl rfl|refine tR (fun h=>?_) fun h=>?_|fail)
    have hp8:p.length≤8:=by omega
    (refine z0k (fun (a:Sw) k=>[.l 6 (a.m.map z9),I a.f,.l 3 (a.s.map eTx),I k,.l 1 (a.x.map z0f)]) (fun (a:Sw) _ (r:List Tx)=>z2y hh a r) (fun a k=>a.s.length≤k ∧ -10000000000 * (k:Int)≤a.f∧a.f≤10000000000 * (k:Int)) ⟨x,[],l,0⟩ p ?_ ?_ ?_ ?_ ?_;rfl;exact ⟨by simp,by simp,by simp⟩;omega)
    ·rintro ⟨ax,as_,am,af⟩ i t r hx hd hk ⟨h1,h2,h3⟩ again hag
     simp only at h1 h2 h3
     have b1:=zfz ax am t hh
     have b2:=fun h0=>zhd t (zas (zma (x:=ax) (l:=am) (t:=t) (h:=hh) h0).1)
     have b3:=fun h0=>z03i (x:=ax) (l:=am) (t:=t) (h:=hh) h0
     rw [z2y]
     simp only
     have hag0:=hag ⟨ax,as_,am,af⟩ ⟨by simp only;omega,by simp only;omega,by simp only;omega⟩
     have hag1:=fun (g0:(z12 ax am t hh).2.2.2=0)=>hag ⟨(z12 ax am t hh).1,as_++[t],(z12 ax am t hh).2.1,af+(z12 ax am t hh).2.2.1⟩ ⟨by simp;omega,by have:=b3 g0;simp only;omega,by have:=b3 g0;simp only;omega⟩
     generalize z12 ax am t hh=q at *
     obtain ⟨qx,qm,qf,qe⟩:=q
     simp only at *
     by_cases hq:qe=0
     ·have b2:=b2 hq
      have b3:=b3 hq
      have hag':=hag1 hq
      clear hag0 hag1
      repeat' (first|refine dq1 ?_|refine dqc ?_|refine dqm ?_|refine dqK rfl (b1) ?_|refine dqK rfl (b2) ?_|refine z8 (z48 rfl rfl (by simp)) ?_|refine tR (fun h=>?_) fun h=>?_|refine dqT ?_|fail)
      all_goals first|exact zw rfl rfl hag'|omega
     ·clear b2 b3 hag1
      have hag':=hag0
      repeat' (first|refine dq1 ?_|refine dqc ?_|refine dqm ?_|refine dqK rfl (b1) ?_|refine tR (fun h=>?_) fun h=>?_|refine dqT ?_|fail)
      all_goals first|exact zw rfl rfl hag'|omega
    ·rintro ⟨ax,as_,am,af⟩ - again
     rw [z2y]
     repeat' (first|refine dq1 ?_|exact z6 rfl rfl|refine dqF ?_|fail)
   ·clear a3 a4
    repeat' (first|refine dq1 ?_|refine dqk rfl (a1) ?_|refine dqk rfl (a2) ?_|exact z6 rfl rfl|refine tR (fun h=>?_) fun h=>?_|fail)
    all_goals omega
  ·clear a3 a4
   repeat' (first|refine dq1 ?_|refine dqk rfl (a1) ?_|refine dqk rfl (a2) ?_|exact z6 rfl rfl|refine tR (fun h=>?_) fun h=>?_|fail)
   all_goals omega
end
section
open Go.RowKit
open Go.Lib (itoa)
set_option maxRecDepth 100000
set_option maxHeartbeats 4000000
theorem z05r {t y:Tx} {r:List Tx} {a b:List (List UInt8) × List Tx × Int}:(if t ∈ y::r then a else b)=if decide (y=t)=true then a else if t ∈ r then a else b:=by
 by_cases h:y=t
 ·subst h;simp
 ·have h':¬ t=y:=fun e=>h e.symm
  simp [h,h']
attribute [local irreducible] z0y spD z05 z12 z02 zk z15 zt zj zg z07 z38
attribute [local irreducible] den denX z1b z1m
noncomputable def z64:za:=spD (fun _:List (List UInt8) × List Coin × List Tx × Tx × Int=>True) fun x=>z2p ⟨x.1⟩ x.2.1 x.2.2.1 x.2.2.2.1 x.2.2.2.2
theorem zci (x:List (List UInt8)) (l:List Coin) (p:List Tx) (t:Tx) (h:Int):z64 [.l 1 (x.map z0f),.l 6 (l.map z9),.l 3 (p.map eTx),I t.height,.l 3 (t.ins.map eIn),.l 2 (t.outs.map z2f),I h]=some [.l 1 ((z2p ⟨x⟩ l p t h).1.map z0f),.l 3 ((z2p ⟨x⟩ l p t h).2.1.map eTx),I (z2p ⟨x⟩ l p t h).2.2]:=zl (f:=fun x:List (List UInt8) × List Coin × List Tx × Tx × Int=>z2p ⟨x.1⟩ x.2.1 x.2.2.1 x.2.2.2.1 x.2.2.2.2) (x,l,p,t,h) trivial
theorem zrt (x y:Tx):z6v [I x.height,.l 3 (x.ins.map eIn),.l 2 (x.outs.map z2f),I y.height,.l 3 (y.ins.map eIn),.l 2 (y.outs.map z2f)]=some [.b (decide (x=y))]:=zwl x y
def zo5:T :=
 .lets [.call 91 [.v 3,.v 4,.v 5] 0,.call 91 [.v 3,.v 4,.v 5] 1,.call 91 [.v 3,.v 4,.v 5] 2] [] (.lets [.mk 3 [[.v 29,.v 30,.v 31]]] [] (.lets [.app 3 (.v 8) (.v 32)] []
 (.ret [.v 22,.v 33,.c (.i .i64 0)])))
def zo6:T :=
 .ite (.v 26) (.ret [.c (.nil 1),.c (.nil 3),.v 25]) (.lets [.len (.v 8)] [] (.lets [.bin .eql (.v 27) (.c (.i .i64 8))] [] (.ite (.v 28) (.ret [.c (.nil 1),.c (.nil 3),.c (.i
 .i64 12)]) zo5)))
def zo7:T :=
 .lets [.call 101 [.v 7,.v 9,.v 3,.v 4,.v 5,.v 6] 0,.call 101 [.v 7,.v 9,.v 3,.v 4,.v 5,.v 6] 1,.call 101 [.v 7,.v 9,.v 3,.v 4,.v 5,.v 6] 2,.call 101 [.v 7,.v 9,
 .v 3,.v 4,.v 5,.v 6] 3] [] (.lets [.bin .neq (.v 25) (.c (.i .i64 0))] [] zo6)
def zo8:T :=
 .ite (.v 20) (.lets [.bin .geq (.v 15) (.c (.i .i64 0))] [] (.ite (.v 21) (.ret [.c (.nil 1),.c (.nil 3),.c (.i .i64 6)]) zo7)) (.lets [.bin .add (.v 15) (.c (.i .i64
 1))] [] (.again 0 [.v 14,.v 21]))
def zo9:T :=
 .lets [] [.inr 3 (.v 8) (.v 15)] (.lets [.idx (.v 8) (.v 15) 0,.idx (.v 8) (.v 15) 1,.idx (.v 8) (.v 15) 2] [] (.lets [.call 68 [.v 17,.v 18,.v 19,.v 3,.v 4,.v 5] 0] []
 zo8))
def zoa:T :=
 .lets [.call 91 [.v 3,.v 4,.v 5] 0,.call 91 [.v 3,.v 4,.v 5] 1,.call 91 [.v 3,.v 4,.v 5] 2] [] (.lets [.mk 3 [[.v 25,.v 26,.v 27]]] [] (.lets [.app 3 (.v 8) (.v 28)] []
 (.ret [.v 18,.v 29,.c (.i .i64 0)])))
def zob:T :=
 .ite (.v 22) (.ret [.c (.nil 1),.c (.nil 3),.v 21]) (.lets [.len (.v 8)] [] (.lets [.bin .eql (.v 23) (.c (.i .i64 8))] [] (.ite (.v 24) (.ret [.c (.nil 1),.c (.nil 3),.c (.i
 .i64 12)]) zoa)))
def zoc:T :=
 .lets [.call 101 [.v 7,.v 9,.v 3,.v 4,.v 5,.v 6] 0,.call 101 [.v 7,.v 9,.v 3,.v 4,.v 5,.v 6] 1,.call 101 [.v 7,.v 9,.v 3,.v 4,.v 5,.v 6] 2,.call 101 [.v 7,.v 9,
 .v 3,.v 4,.v 5,.v 6] 3] [] (.lets [.bin .neq (.v 21) (.c (.i .i64 0))] [] zob)
def zod:T :=
 .ite (.v 16) zo9 (.lets [.bin .geq (.c (.i .i64 (-1))) (.c (.i .i64 0))] [] (.ite (.v 17) (.ret [.c (.nil 1),.c (.nil 3),.c (.i .i64 6)]) zoc))
def zoe:T :=
 .ite (.v 12) (.ret [.c (.nil 1),.c (.nil 3),.v 11]) (.lets [.len (.v 8)] [] (.loop [.c (.i .i64 0),.c (.i .i64 0)] (.lets [.bin .lss (.v 15) (.v 13)] [] zod)))
def zcj:T :=
 .lets [.call 102 [.v 0,.v 1,.v 2,.v 6] 0,.call 102 [.v 0,.v 1,.v 2,.v 6] 1,.call 102 [.v 0,.v 1,.v 2,.v 6] 2,.call 102 [.v 0,.v 1,.v 2,.v 6] 3,.call 102 [.v 0,.v 1,
 .v 2,.v 6] 4] [] (.lets [.bin .neq (.v 11) (.c (.i .i64 0))] [] zoe)
attribute [local irreducible] z5w z23 z5n z6v
theorem zyo:Meets Tryz.prog z64 43 ⟨[.agg 1,.one,.one,.agg 3,.one],[(true,[.pure]),(false,[.pure]),(false,[.scal])],false⟩:=by
 refine zgt (sp:=(z0m [(68,z6v),(91,z5n),(101,z5w),(102,z23)])) (sigs:=z0t) (cut:=[]) (hints:=[]) (fns:=[zc2 101 Tryz.f101 [] [],zc2 138 Tryz.f138 [⟨2,[.t 4,.t 8]⟩] [],zc2 102 Tryz.f102 [] []]) (dep:=4) (pool:=400) (fn:=Tryz.f43) (t:=zcj) (by kernel_rfl) (by kernel_rfl) (by kernel_rfl) ?_ ?_ ?_
 ·exact (z3v (fn:=Tryz.f101) (by kernel_rfl) (by kernel_rfl) (by kernel_rfl) (by kernel_rfl) (by kernel_rfl) (z3v (fn:=Tryz.f138) (by kernel_rfl) (by kernel_rfl) (by kernel_rfl) (by kernel_rfl) (by kernel_rfl) (z3v (fn:=Tryz.f102) (by kernel_rfl) (by kernel_rfl) (by kernel_rfl) (by kernel_rfl) (by kernel_rfl) zjw)))
 ·exact (z0c (L:=[(68,z6v),(91,z5n),(101,z5w),(102,z23)]) ⟨z7 rfl z0ag,z7 rfl zwy,z7 rfl zq2,z7 rfl zdk,trivial⟩)
 ·rintro ds rs - h
  obtain ⟨⟨x,l,p,t,hh⟩,-,rfl,rfl⟩:=zq h
  clear h
  refine ⟨⟨10,?_⟩,z2v ⟨rfl,trivial⟩⟩
  show den _ _ zcj [.l 1 (x.map z0f),.l 6 (l.map z9),.l 3 (p.map eTx),I t.height,.l 3 (t.ins.map eIn),.l 2 (t.outs.map z2f),I hh] []=ret (z2p ⟨x⟩ l p t hh)
  have a1:=z53 x l p hh
  have hs:=(zfl ⟨x⟩ l p hh).1
  unfold zcj z2p
  generalize z05 ⟨x⟩ l p hh=q at *
  obtain ⟨qx,qs,qm,qf,qe⟩:=q
  simp only at *
  repeat' (first|refine dq1 ?_|refine dqK rfl (a1) ?_|exact z6 rfl rfl|refine tR (fun h=>?_) fun h=>?_|fail)
  (refine z0k (fun (_:Unit) k=>[I 0,I k]) (fun (_:Unit) _ (r:List Tx)=>if t ∈ r then ([],[],6) else zhq qx qs qm t hh) (fun _ _=>True) () qs ?_ ?_ ?_ ?_ ?_;rfl;exact trivial;omega)
  ·rintro _ i y r hx hd hk - again hag
   rw [z05r]
   have b1:=zrt y t
   have hag':=hag () trivial
   by_cases hy:y=t
   ·rw [decide_eq_true hy,if_pos rfl]
    rw [decide_eq_true hy] at b1
    repeat' (first|refine dq1 ?_|refine dqc ?_|refine dqm ?_|refine dqk rfl (b1) ?_|exact z6 rfl rfl|refine dqT ?_|refine z4c rfl ?_|fail)
   ·rw [decide_eq_false hy,if_neg (by decide)]
    rw [decide_eq_false hy] at b1
    repeat' (first|refine dq1 ?_|refine dqc ?_|refine dqm ?_|refine dqk rfl (b1) ?_|refine dqT ?_|refine z2k rfl ?_|fail)
    exact zw rfl rfl hag'
  ·rintro _ - again
   rw [if_neg (by simp)]
   unfold zhq
   have b1:=zfz qx qm t hh
   have b2:=fun h0=>zhd t (zas (zma (x:=qx) (l:=qm) (t:=t) (h:=hh) h0).1)
   generalize z12 qx qm t hh=w at *
   obtain ⟨wx,wm,wf,we⟩:=w
   simp only at *
   by_cases hw:we=0
   ·have b2:=b2 hw
    repeat' (first|refine dq1 ?_|refine dqK rfl (b1) ?_|refine dqK rfl (b2) ?_|refine z8 (z48 rfl rfl (by simp)) ?_|exact z6 rfl rfl|refine tR (fun h=>?_) fun h=>?_|refine dqF ?_|fail)
    all_goals omega
   ·clear b2
    repeat' (first|refine dq1 ?_|refine dqK rfl (b1) ?_|exact z6 rfl rfl|refine tR (fun h=>?_) fun h=>?_|refine dqF ?_|fail)
    all_goals omega
noncomputable def z4i:za:=spD (fun x:List (List UInt8) × List Coin × List Tx × Int × Int × Int × Int × List Op=>(-1≤x.2.2.2.2.1∧x.2.2.2.2.1≤1000)∧x.2.2.2.2.2.2.2.length≤8796093022208) fun x=>z2i ⟨x.1⟩ x.2.1 x.2.2.1 x.2.2.2.1 x.2.2.2.2.1 x.2.2.2.2.2.1 x.2.2.2.2.2.2.1 x.2.2.2.2.2.2.2
theorem zec (x:List (List UInt8)) (l:List Coin) (p:List Tx) (a b c d:Int) (o:List Op) (h : -1≤b∧b≤1000) (h2:o.length≤8796093022208):z4i [.l 1 (x.map z0f),.l 6 (l.map z9),.l 3 (p.map eTx),I a,I b,I c,I d,.l 2 (o.map eOp)]=some [I (z2i ⟨x⟩ l p a b c d o).1.parent,I (z2i ⟨x⟩ l p a b c d o).1.height,I (z2i ⟨x⟩ l p a b c d o).1.work,I (z2i ⟨x⟩ l p a b c d o).1.nonce,.l 3 ((z2i ⟨x⟩ l p a b c d o).1.txs.map eTx),I (z2i ⟨x⟩ l p a b c d o).2] :=
 zl (p:=fun x:List (List UInt8) × List Coin × List Tx × Int × Int × Int × Int × List Op=>(-1≤x.2.2.2.2.1∧x.2.2.2.2.1≤1000)∧x.2.2.2.2.2.2.2.length≤8796093022208) (f:=fun x:List (List UInt8) × List Coin × List Tx × Int × Int × Int × Int × List Op=>z2i ⟨x.1⟩ x.2.1 x.2.2.1 x.2.2.2.1 x.2.2.2.2.1 x.2.2.2.2.2.1 x.2.2.2.2.2.2.1 x.2.2.2.2.2.2.2) (x,l,p,a,b,c,d,o) ⟨h,h2⟩
theorem zmc (a b c d:Int) (l:List Tx):z6a [I a,I b,I c,I d,.l 3 (l.map eTx)]=some [I (zg ⟨a,b,c,d,l⟩)]:=znk ⟨a,b,c,d,l⟩
theorem z08o (n:Int):0≤z07 n∧z07 n≤1000:=zhb n
def zyp:T :=
 .lets [.bin .neq (.v 38) (.c (.i .i64 0))] [] (.ite (.v 39) (.ret [.c (.i .i64 0),.c (.i .i64 0),.c (.i .i64 0),.c (.i .i64 0),.c (.nil 3),.v 38]) (.ret [.v 3,.v 35,.v 5,.v
 6,.v 37,.c (.i .i64 0)]))
def zyq:T :=
 .lets [.bin .add (.v 4) (.c (.i .i64 1))] [] (.lets [.mk 3 [[.v 31,.c (.nil 3),.v 34]]] [] (.lets [.app 3 (.v 36) (.v 20)] [] (.lets [.call 71 [.v 3,.v 35,.v 5,.v 6,.v 37] 0]
 [] zyp)))
def zyr:T :=
 .lets [.bin .add (.v 4) (.c (.i .i64 1))] [] (.lets [.bin .add (.v 26) (.v 22)] [] (.lets [.call 10 [.v 7] 0] [] (.lets [.mk 2 [[.v 32,.v 33]]] [] zyq)))
def zys:T :=
 .lets [.bin .eql (.v 29) (.c (.i .i64 0))] [] (.ite (.v 30) (.ret [.c (.i .i64 0),.c (.i .i64 0),.c (.i .i64 0),.c (.i .i64 0),.c (.nil 3),.c (.i .i64 9)]) zyr)
def zyt:T :=
 .lets [.bin .neq (.v 27) (.c (.i .i64 0))] [] (.ite (.v 28) (.ret [.c (.i .i64 0),.c (.i .i64 0),.c (.i .i64 0),.c (.i .i64 0),.c (.nil 3),.v 27]) (.lets [.bin .add (.v 26) (.v
 22)] [] zys))
def zyu:T :=
 .ite (.v 24) (.ret [.c (.i .i64 0),.c (.i .i64 0),.c (.i .i64 0),.c (.i .i64 0),.c (.nil 3),.v 23]) (.lets [.bin .add (.v 4) (.c (.i .i64 1))] [] (.lets [.call 73 [.v 25] 0,
 .call 73 [.v 25] 1] [] zyt))
def zyv:T :=
 .lets [.call 102 [.v 0,.v 1,.v 17,.v 18] 0,.call 102 [.v 0,.v 1,.v 17,.v 18] 1,.call 102 [.v 0,.v 1,.v 17,.v 18] 2,.call 102 [.v 0,.v 1,.v 17,.v 18] 3,.call 102 [.v
 0,.v 1,.v 17,.v 18] 4] [] (.lets [.bin .neq (.v 23) (.c (.i .i64 0))] [] zyu)
def zyw:T :=
 .lets [.len (.v 10)] [] (.lets [.mn (.v 15) (.c (.i .i64 3))] [] (.lets [.sub 3 (.v 10) none (some (.v 16))] [] (.lets [.bin .add (.v 4) (.c (.i .i64 1))] [] zyv)))
def zyx:T :=
 .lets [.bin .neq (.v 13) (.c (.i .i64 0))] [] (.ite (.v 14) (.ret [.c (.i .i64 0),.c (.i .i64 0),.c (.i .i64 0),.c (.i .i64 0),.c (.nil 3),.v 13]) zyw)
def zyy:T :=
 .lets [.call 102 [.v 0,.v 1,.v 2,.v 8] 0,.call 102 [.v 0,.v 1,.v 2,.v 8] 1,.call 102 [.v 0,.v 1,.v 2,.v 8] 2,.call 102 [.v 0,.v 1,.v 2,.v 8] 3,.call 102 [.v 0,.v 1,
 .v 2,.v 8] 4] [] zyx
def zfm:T :=
 .lets [.bin .add (.v 4) (.c (.i .i64 1))] [] zyy
attribute [local irreducible] z6a z78 z3d
theorem zmd:Meets Tryz.prog z4i 14 ⟨[.agg 1,.one,.one,.one,.one,.one,.one,.one],[(true,[.scal,.scal,.scal,.scal,.pure]),(false,[.scal])],false⟩:=by
 refine zi (sp:=(z0m [(10,z78),(71,z6a),(73,z3d),(102,z23)])) (sigs:=z0t) (cut:=[]) (hints:=[]) (fn:=Tryz.f14) (t:=zfm) (by kernel_rfl) (by kernel_rfl) (by kernel_rfl) ?_ ?_
 ·exact (z0c (L:=[(10,z78),(71,z6a),(73,z3d),(102,z23)]) ⟨z7 rfl ztg,z7 rfl z05c,z7 rfl zhc,z7 rfl zdk,trivial⟩)
 ·rintro ds rs - h
  obtain ⟨⟨x,l,p,a,b,c,d,o⟩,⟨hb,ho⟩,rfl,rfl⟩:=zq h
  clear h
  simp only at hb ho
  refine ⟨⟨1,?_⟩,z2v ⟨rfl,rfl,rfl,rfl,rfl,trivial⟩⟩
  show den _ _ zfm [.l 1 (x.map z0f),.l 6 (l.map z9),.l 3 (p.map eTx),I a,I b,I c,I d,.l 2 (o.map eOp)] []=ret (z2i ⟨x⟩ l p a b c d o)
  have a1:=z53 x l p (b+1)
  have hs:=(zfl ⟨x⟩ l p (b+1)).1
  unfold zfm z2i
  generalize z05 ⟨x⟩ l p (b+1)=q at *
  obtain ⟨qx,qs,qm,qf,qe⟩:=q
  simp only at *
  have a2:=z53 x l (qs.take 3) (b+1)
  have hz:=zfl ⟨x⟩ l (qs.take 3) (b+1)
  generalize z05 ⟨x⟩ l (qs.take 3) (b+1)=w at *
  obtain ⟨wx,ws,wm,wf,we⟩:=w
  simp only at *
  unfold zo4
  have a3:=zca (b+1)
  have a4:=zb4 o ho
  have hr:=z08o (b+1)
  generalize z07 (b+1)=rn at *
  generalize z38 (b+1)=re at *
  have a5:=zmc a (b+1) c d (⟨b+1,[],[⟨rn+wf,o⟩]⟩::ws)
  generalize zg ⟨a,b+1,c,d,⟨b+1,[],[⟨rn+wf,o⟩]⟩::ws⟩=be at *
  have ht:qs.take (if 3<(qs.length:Int) then 3 else (qs.length:Int)).toNat=qs.take 3:=by
   by_cases h3:3<(qs.length:Int)
   ·rw [if_pos h3];rfl
   ·rw [if_neg h3,Int.toNat_natCast,List.take_length,List.take_of_length_le (by omega)]
  repeat' (first|refine dq1 ?_|refine dqK rfl (a1) ?_|refine dqK rfl (a2) ?_|refine dqK rfl (a3) ?_|refine dqk rfl (a4) ?_|refine dqk rfl (a5) ?_|refine z8 (z48 rfl rfl (by simp)) ?_|refine z8 (zld (l:=[⟨b+1,[],[⟨rn+wf,o⟩]⟩]) (l':=ws) rfl rfl (by simp;omega)) ?_|exact z6 rfl rfl|refine tR (fun h=>?_) fun h=>?_|fail)
end
section
open Go.RowKit
open Go.Lib (itoa)
set_option maxRecDepth 100000
set_option maxHeartbeats 4000000
def poC:Coin:=⟨⟨1,0⟩,⟨9,[]⟩,1,false⟩
def poT:Tx:=⟨0,[⟨⟨1,0⟩,[⟨1,1⟩]⟩],[⟨6,[]⟩]⟩
def poB:Book:=⟨(z2p ⟨[]⟩ [poC] [] poT 4).1⟩
theorem z0fz:(z2p ⟨[]⟩ [poC] [] poT 4).2=([poT],0):=by with_unfolding_all decide +kernel
theorem z0g0:(z2p poB [poC] [poT] poT 4).2.2=6:=by with_unfolding_all decide +kernel
theorem po_m:(z2i poB [poC] [poT] 5 3 1 0 []).2=0∧(z2i poB [poC] [poT] 5 3 1 0 []).1.txs.length=2∧((z2i poB [poC] [poT] 5 3 1 0 []).1.txs[0]?).map (fun t=>(t.outs.length,(t.outs[0]?).map Out.coin))=some (1,some 67):=by with_unfolding_all decide +kernel
theorem z0g1 {l:List Tx} (h:(l[0]?).map (fun t=>(t.outs.length,(t.outs[0]?).map Out.coin))=some (1,some 67)):∃ t o,l[(0:Int).toNat]? = some t∧t.outs[(0:Int).toNat]? = some o∧t.outs.length=1∧o.coin=67:=by
 cases l with
 | nil=>cases h
 | cons t l =>
  obtain ⟨a,b,c⟩:=t
  cases c with
  | nil=>cases h
  | cons o c =>
   simp only [List.getElem?_cons_zero,Option.map_some,Option.some.injEq,Prod.mk.injEq] at h
   exact ⟨_,o,rfl,rfl,h.1,h.2⟩
attribute [local irreducible] den denX z1b z1m
noncomputable def z9h:za:=spD (fun _:Unit=>True) fun _=>true
theorem zru:z9h []=some [.b true]:=zl (f:=fun _:Unit=>true) () trivial
attribute [local irreducible] z0y spD z2p z2i
def z028:T :=
 .lets [.idx (.v 14) (.c (.i .i64 0)) 2] [] (.lets [] [.inr 2 (.v 26) (.c (.i .i64 0))] (.lets [.idx (.v 26) (.c (.i .i64 0)) 0] [] (.lets [.bin .eql (.v 27) (.c (.i .i64 67))] []
 (.ret [.v 28]))))
def z029:T :=
 .lets [.len (.v 23)] [] (.lets [.bin .eql (.v 24) (.c (.i .i64 1))] [] (.ite (.v 25) (.lets [] [.inr 3 (.v 14) (.c (.i .i64 0))] z028) (.ret [.c (.b false)])))
def z02a:T :=
 .lets [.bin .eql (.v 21) (.c (.i .i64 2))] [] (.ite (.v 22) (.lets [] [.inr 3 (.v 14) (.c (.i .i64 0))] (.lets [.idx (.v 14) (.c (.i .i64 0)) 2] [] z029)) (.ret [.c (.b
 false)]))
def z02b:T :=
 .ite (.v 18) (.lets [.len (.v 5)] [] (.lets [.bin .eql (.v 19) (.c (.i .i64 1))] [] (.ite (.v 20) (.lets [.len (.v 14)] [] z02a) (.ret [.c (.b false)])))) (.ret [.c (.b
 false)])
def z02c:T :=
 .ite (.v 16) (.lets [.bin .eql (.v 9) (.c (.i .i64 6))] [] (.ite (.v 17) (.lets [.bin .eql (.v 15) (.c (.i .i64 0))] [] z02b) (.ret [.c (.b false)]))) (.ret [.c (.b false)])
def z02d:T :=
 .lets [.call 104 [.v 4,.v 0,.v 5,.c (.i .i64 5),.c (.i .i64 3),.c (.i .i64 1),.c (.i .i64 0),.c (.nil 2)] 0,.call 104 [.v 4,.v 0,.v 5,.c (.i .i64 5),.c (.i .i64 3),.c
 (.i .i64 1),.c (.i .i64 0),.c (.nil 2)] 1,.call 104 [.v 4,.v 0,.v 5,.c (.i .i64 5),.c (.i .i64 3),.c (.i .i64 1),.c (.i .i64 0),.c (.nil 2)] 2,.call 104 [.v 4,.v 0,.v
 5,.c (.i .i64 5),.c (.i .i64 3),.c (.i .i64 1),.c (.i .i64 0),.c (.nil 2)] 3,.call 104 [.v 4,.v 0,.v 5,.c (.i .i64 5),.c (.i .i64 3),.c (.i .i64 1),.c (.i .i64 0),.c
 (.nil 2)] 4,.call 104 [.v 4,.v 0,.v 5,.c (.i .i64 5),.c (.i .i64 3),.c (.i .i64 1),.c (.i .i64 0),.c (.nil 2)] 5] [] (.lets [.bin .eql (.v 6) (.c (.i .i64 0))] []
 z02c)
def z02e:T :=
 .lets [.call 103 [.v 4,.v 0,.v 5,.c (.i .i64 0),.v 2,.v 3,.c (.i .i64 4)] 0,.call 103 [.v 4,.v 0,.v 5,.c (.i .i64 0),.v 2,.v 3,.c (.i .i64 4)] 1,.call 103 [.v 4,.v 0,
 .v 5,.c (.i .i64 0),.v 2,.v 3,.c (.i .i64 4)] 2] [] z02d
def z02f:T :=
 .lets [.call 103 [.c (.nil 1),.v 0,.c (.nil 3),.c (.i .i64 0),.v 2,.v 3,.c (.i .i64 4)] 0,.call 103 [.c (.nil 1),.v 0,.c (.nil 3),.c (.i .i64 0),.v 2,.v 3,.c (.i .i64
 4)] 1,.call 103 [.c (.nil 1),.v 0,.c (.nil 3),.c (.i .i64 0),.v 2,.v 3,.c (.i .i64 4)] 2] [] z02e
def z02g:T :=
 .lets [.mk 2 [[.c (.i .i64 1),.c (.i .i64 1)]]] [] (.lets [.mk 3 [[.c (.i .i64 1),.c (.i .i64 0),.v 1]]] [] (.lets [.mk 2 [[.c (.i .i64 6),.c (.nil 2)]]] [] z02f))
def zhs:T :=
 .lets [.mk 6 [[.c (.i .i64 1),.c (.i .i64 0),.c (.i .i64 9),.c (.nil 2),.c (.i .i64 1),.c (.b false)]]] [] z02g
attribute [local irreducible] z64 z4i
theorem z08p:Meets Tryz.prog z9h 11 ⟨[],[(false,[.scal])],true⟩:=by
 refine zi (sp:=(z0m [(103,z64),(104,z4i)])) (sigs:=z0t) (cut:=[]) (hints:=[]) (fn:=Tryz.f11) (t:=zhs) (by kernel_rfl) (by kernel_rfl) (by kernel_rfl) ?_ ?_
 ·exact (z0c (L:=[(103,z64),(104,z4i)]) ⟨z7 rfl zyo,z7 rfl zmd,trivial⟩)
 ·rintro ds rs - h
  obtain ⟨⟨⟩,-,rfl,rfl⟩:=zq h
  clear h
  refine ⟨⟨1,?_⟩,z0o rfl⟩
  show den _ _ zhs [] []=ret true
  have a1:=zci [] [poC] [] poT 4
  rw [z0fz] at a1
  have a2:=zci poB.texts [poC] [poT] poT 4
  have a3:=zec poB.texts [poC] [poT] 5 3 1 0 [] ⟨by decide,by decide⟩ (by decide)
  have e2:(z2p ⟨poB.texts⟩ [poC] [poT] poT 4).2.2=6:=z0g0
  rw [e2] at a2
  obtain ⟨e3,e4,e5⟩:=po_m
  have e6:z2i ⟨poB.texts⟩ [poC] [poT] 5 3 1 0 []=z2i poB [poC] [poT] 5 3 1 0 []:=rfl
  rw [e6,e3] at a3
  generalize (z2p ⟨poB.texts⟩ [poC] [poT] poT 4).1=w1 at *
  generalize (z2p ⟨poB.texts⟩ [poC] [poT] poT 4).2.1=w2 at *
  obtain ⟨t0,o0,g1,g2,g3,g4⟩:=z0g1 e5
  clear e5 e3 e6 e2
  generalize (z2i poB [poC] [poT] 5 3 1 0 []).1=mb at *
  obtain ⟨mp,mh,mw,mn,mt⟩:=mb
  simp only at *
  have hx:(z2p ⟨[]⟩ [poC] [] poT 4).1=poB.texts:=rfl
  rw [hx] at a1
  generalize poB.texts=kx at *
  unfold zhs
  have hd:=decide_eq_true g4
  repeat' (first|refine dq1 ?_|refine dqc ?_|refine dqK rfl (a1) ?_|refine dqK rfl (a2) ?_|refine dqK rfl (a3) ?_|refine z8 (z48 rfl rfl (by simp)) ?_|refine dqT ?_|refine z4c rfl ?_|fail)
  all_goals (simp only [hd];exact z6 rfl rfl)
end
section
open Go.Lib (itoa atoiAll)
open Go.RowKit
end
section
open Go.Lib (itoa)
open Go.RowKit
structure PlainL (l:List UInt8):Prop where
 ne:∀ b ∈ l,b≠10
 no:∀ s,List.isPrefixOf tTx (l++s)=false
end
section
open Go.RowKit
set_option maxRecDepth 100000
theorem zq3:∀ (l t:List z3g) (o:List Int),z2w t→(z34 l t o).2.2=0→z2w (z34 l t o).1∧t <+: (z34 l t o).1∧(∀ s ∈ l,0≤idx (z34 l t o).1 s∧s.length≤4000)∧(z34 l t o).2.1=o++l.map fun s=>idx (z34 l t o).1 s+1
 | [],t,o,ht,_=>⟨ht,List.prefix_refl _,(fun s hs=>by cases hs),by simp [z34]⟩
 | s::l,t,o,ht,he=>by
  rw [z34] at he ⊢
  by_cases h:4000<s.length
  ·rw [if_pos h] at he;cases he
  rw [if_neg h] at he ⊢
  by_cases h2:z1t t s≠0
  ·rw [if_pos h2] at he;exact absurd he h2
  rw [if_neg h2] at he ⊢
  have h3:z1t t s=0:=by simpa using h2
  obtain ⟨a,b,c,d⟩:=z03e ht (by omega) h3
  obtain ⟨e,f,g,i⟩:=zq3 l _ _ a he
  generalize z34 l (z30 t s) (o++[z2b t s])=q at *
  refine ⟨e,b.trans f,fun u hu=>?_,?_⟩
  ·rcases List.mem_cons.1 hu with rfl|hu
   ·exact ⟨zr9 f c,by omega⟩
   ·exact g u hu
  ·rw [i,d,List.map_cons,z9a f c]
   simp
theorem zrv {k:Book} {b:Block} {x:List z3g} {n:Int} {ns:List Int} (h:z03 k b=(x,n,ns,0)) :
  zg b=0∧z2w k.texts∧z2w x∧k.texts <+: x∧0≤idx x (z41 b)∧(z41 b).length≤4000∧n=idx x (z41 b)+1∧(∀ s ∈ z7e b,0≤idx x s∧s.length≤4000)∧ns=(z7e b).map fun s=>idx x s+1:=by
 unfold z03 at h
 by_cases hp:(z0q b).2=0
 rotate_left
 ·rw [if_pos hp] at h
  exact absurd (congrArg (fun x=>x.2.2.2) h) hp
 have hb:=zau hp
 rw [if_neg (fun k=>k hp),z00c hb] at h
 unfold zcd at h
 simp only at h
 by_cases ha:(z11 k (z7e b++[z41 b])).2.2=0
 rotate_left
 ·rw [if_pos ha] at h
  exact absurd (congrArg (fun x=>x.2.2.2) h) ha
 rw [if_neg (fun k=>k ha)] at h
 unfold z11 at h ha
 by_cases hc:zt k=0
 rotate_left
 ·rw [if_pos hc] at ha
  exact absurd ha hc
 rw [if_neg (fun k=>k hc)] at h ha
 have hk:=(z62 k.texts).1 hc
 obtain ⟨e,f,g,i⟩:=zq3 _ _ _ hk ha
 generalize z34 (z7e b++[z41 b]) k.texts []=q at *
 obtain ⟨q1,q2,q3⟩:=q
 simp only [Prod.mk.injEq,and_true,List.nil_append,List.map_append,List.map_cons,List.map_nil] at *
 obtain ⟨rfl,h2,h3⟩:=h
 have hl:=g (z41 b) (by simp)
 refine ⟨hb,hk,e,f,hl.1,hl.2,?_,fun s hs=>g s (List.mem_append_left _ hs),?_⟩
 ·rw [← h2,i,List.getD_eq_getElem?_getD,List.getElem?_append_right (by simp)]
  simp
 ·rw [← h3,i,List.take_append_of_le_length (by simp)]
  rw [List.take_of_length_le (by simp)]
end
section
open Go.RowKit
set_option maxRecDepth 100000
inductive RunC (h:Int) (y:List z3g):List Coin→List Tx→List Coin→Int→Prop where
 | nil (m:List Coin):RunC h y m [] m 0
 | cons {m m1 m' sp:List Coin} {t:Tx} {K:List Tx} {f:Int}:zo t=0→t.ins.length≠0→(z18 t).length≤4000→0≤idx y (z18 t)→zk m t (idx y (z18 t)+1) h=(m1,sp,0)→RunC h y m1 K m' f→RunC h y m (t::K) m' (z15 t sp+f)
theorem RunC.more {h:Int} {y z:List z3g} {m m':List Coin} {K:List Tx} {f:Int} (hp:y <+: z) (R:RunC h y m K m' f):RunC h z m K m' f:=by
 induction R with
 | nil m=>exact .nil m
 | cons h1 h2 h3 h4 h5 _ ih =>
  have e:=z9a hp h4
  exact .cons h1 h2 h3 (by omega) (by rw [e];exact h5) ih
theorem z02h {m m1 sp:List Coin} {t:Tx} {nm h:Int} (hi:t.ins.length≠0) (h0:zk m t nm h=(m1,sp,0)):CoinsOK m∧CoinsOK m1∧0≤z15 t sp∧zd m1=zd m - z15 t sp:=by
 obtain ⟨r,d⟩:=z9d (l:=m) (t:=t) (nm:=nm) (h:=h) (by rw [h0])
 rw [h0] at d
 exact ⟨d.ok,d.end_,d.fee hi,d.total⟩
theorem RunC.facts {h:Int} {y:List z3g} {m m':List Coin} {K:List Tx} {f:Int} (R:RunC h y m K m' f):0≤f∧zd m'=zd m - f∧(CoinsOK m→CoinsOK m'):=by
 induction R with
 | nil m=>exact ⟨by omega,by omega,fun h=>h⟩
 | cons h1 h2 h3 h4 h5 _ ih =>
  obtain ⟨a,b,c,d⟩:=z02h h2 h5
  obtain ⟨e,f,g⟩:=ih
  exact ⟨by omega,by omega,fun _=>g b⟩
theorem RunC.part {h:Int} {y:List z3g} {m':List Coin} {L:List Tx}:∀ {K:List Tx} {m:List Coin} {f:Int},RunC h y m (K++L) m' f→∃ m1 f1 f2,RunC h y m K m1 f1∧RunC h y m1 L m' f2
 | [],m,f,R=>⟨m,0,f,.nil m,R⟩
 | t::K,m,f,R=>by
  rw [List.cons_append] at R
  cases R with
  | cons h1 h2 h3 h4 h5 R =>
   obtain ⟨m1,f1,f2,a,b⟩:=RunC.part R
   exact ⟨m1,_,f2,.cons h1 h2 h3 h4 h5 a,b⟩
theorem RunC.snoc {h:Int} {y:List z3g} {m m' m2 sp:List Coin} {K:List Tx} {f:Int} {t:Tx} (R:RunC h y m K m' f) (h1:zo t=0) (h2:t.ins.length≠0) (h3:(z18 t).length≤4000) (h4:0≤idx y (z18 t)) (h5:zk m' t (idx y (z18 t)+1) h=(m2,sp,0)):RunC h y m (K++[t]) m2 (f+z15 t sp):=by
 induction R with
 | nil m =>
  have:=RunC.cons h1 h2 h3 h4 h5 (.nil _)
  rw [show z15 t sp+0=0+z15 t sp by omega] at this
  exact this
 | cons g1 g2 g3 g4 g5 _ ih =>
  have:=RunC.cons g1 g2 g3 g4 g5 (ih h5)
  rw [← Int.add_assoc] at this
  exact this
theorem z0b0 {x:List z3g} {s:z3g} (hx:z2w x) (h:z1n ⟨x⟩ s=0):s.length≤4000∧z2w (z1z ⟨x⟩ s)∧x <+: z1z ⟨x⟩ s∧0≤idx (z1z ⟨x⟩ s) s∧z10 ⟨x⟩ s=idx (z1z ⟨x⟩ s) s+1:=by
 have hc:=(z62 x).2 hx
 unfold z1n at h
 rw [if_neg (fun k=>k hc)] at h
 by_cases hl:4000<s.length
 ·rw [if_pos hl] at h;exact absurd h (by decide)
 rw [if_neg hl] at h
 have e1:z1z ⟨x⟩ s=z30 x s:=by
  unfold z1z
  rw [if_neg (fun k=>k hc),if_neg hl]
 have e2:z10 ⟨x⟩ s=z2b x s:=by
  unfold z10
  rw [if_neg (fun k=>k hc),if_neg hl]
 rw [e1,e2]
 obtain ⟨a,b,c,d⟩:=z03e hx (by omega) h
 exact ⟨by omega,a,b,c,d⟩
theorem z02i {x:List z3g} {s:z3g} (hx:z2w x) (hl:s.length≤4000) (h:0≤idx x s):z1n ⟨x⟩ s=0∧z1z ⟨x⟩ s=x∧z10 ⟨x⟩ s=idx x s+1:=by
 have hc:=(z62 x).2 hx
 obtain ⟨a,b,c⟩:=z056 h
 refine ⟨?_,?_,?_⟩
 ·unfold z1n;rw [if_neg (fun k=>k hc),if_neg (by omega)];exact a
 ·unfold z1z;rw [if_neg (fun k=>k hc),if_neg (by omega)];exact b
 ·unfold z10;rw [if_neg (fun k=>k hc),if_neg (by omega)];exact c
theorem z0dc {x x1:List z3g} {m m1:List Coin} {t:Tx} {h f1:Int} (hx:z2w x) (h0:z12 x m t h=(x1,m1,f1,0)):z2w x1∧x <+: x1∧zo t=0∧t.ins.length≠0∧(z18 t).length≤4000∧0≤idx x1 (z18 t)∧∃ sp,zk m t (idx x1 (z18 t)+1) h=(m1,sp,0)∧f1=z15 t sp:=by
 obtain ⟨a,b,c,d,e⟩:=zma (x:=x) (l:=m) (t:=t) (h:=h) (by rw [h0])
 rw [h0] at e
 simp only [Prod.mk.injEq,and_true] at e
 obtain ⟨e1,e2,e3⟩:=e
 obtain ⟨p,q,r,s,u⟩:=z0b0 hx c
 rw [← e1] at q r s u
 rw [u] at d e2 e3
 refine ⟨q,r,a,b,p,s,_,?_,e3⟩
 rw [e2,← d]
theorem z08q {y:List z3g} {m m1 sp:List Coin} {t:Tx} {h:Int} (hy:z2w y) (h1:zo t=0) (h2:t.ins.length≠0) (h3:(z18 t).length≤4000) (h4:0≤idx y (z18 t)) (h5:zk m t (idx y (z18 t)+1) h=(m1,sp,0)):z12 y m t h=(y,m1,z15 t sp,0):=by
 obtain ⟨a,b,c⟩:=z02i hy h3 h4
 unfold z12
 rw [zb8 h1,if_neg (fun k=>k rfl),if_neg (by omega),if_neg (fun k=>k a),c,h5,if_neg (fun k=>k rfl),b]
theorem zht {h:Int} {x':List z3g} {s':List Tx} {m':List Coin} {f':Int} {w0:List Coin}:∀ (r:List Tx) (a:Sw),z2w a.x→RunC h a.x w0 a.s a.m a.f→z2y h a r=(x',s',m',f',0)→z2w x'∧a.x <+: x'∧RunC h x' w0 s' m' f'∧s'.length≤a.s.length+r.length
 | [],a,hx,R,h0=>by
  rw [z2y] at h0
  simp only [Prod.mk.injEq,and_true] at h0
  obtain ⟨rfl,rfl,rfl,rfl⟩:=h0
  exact ⟨hx,List.prefix_refl _,R,by simp⟩
 | t::r,a,hx,R,h0=>by
  rw [z2y] at h0
  by_cases he:(z12 a.x a.m t h).2.2.2=0
  ·rw [if_neg (fun k=>k he)] at h0
   have hp:z12 a.x a.m t h=((z12 a.x a.m t h).1,(z12 a.x a.m t h).2.1,(z12 a.x a.m t h).2.2.1,0):=by rw [← he]
   obtain ⟨p1,p2,p3,p4,p5,p6,sp,p7,p8⟩:=z0dc hx hp
   have R2:=(R.more p2).snoc p3 p4 p5 p6 p7
   rw [← p8] at R2
   obtain ⟨q1,q2,q3,q4⟩:=zht r ⟨_,a.s++[t],_,_⟩ p1 R2 h0
   refine ⟨q1,p2.trans q2,q3,?_⟩
   simp only [List.length_append,List.length_cons,List.length_nil] at q4 ⊢
   omega
  ·rw [if_pos he] at h0
   obtain ⟨q1,q2,q3,q4⟩:=zht r a hx R h0
   exact ⟨q1,q2,q3,by simp only [List.length_cons];omega⟩
theorem zyz {h:Int} {y:List z3g} (hy:z2w y) {m m':List Coin} {K:List Tx} {f:Int} (R:RunC h y m K m' f):∀ (s:List Tx) (g:Int),z2y h ⟨y,s,m,g⟩ K=(y,s++K,m',g+f,0):=by
 induction R with
 | nil m=>intro s g;rw [z2y];simp
 | cons h1 h2 h3 h4 h5 _ ih =>
  intro s g
  rw [z2y]
  simp only
  rw [z08q hy h1 h2 h3 h4 h5,if_neg (fun k=>k rfl),ih]
  simp [Int.add_assoc]
theorem z02j {k:Book} {l:List Coin} {p:List Tx} {h:Int} {x:List z3g} {s:List Tx} {m:List Coin} {f:Int} (h0:z05 k l p h=(x,s,m,f,0)):z2w x∧CoinsOK l∧1≤h∧h≤1000∧s.length≤8∧RunC h x l s m f:=by
 unfold z05 at h0
 by_cases h1:zt k=0
 rotate_left
 ·rw [if_pos h1] at h0;exact absurd (congrArg (fun x=>x.2.2.2.2) h0) h1
 rw [if_neg (fun k=>k h1)] at h0
 by_cases h2:zj l=0
 rotate_left
 ·rw [if_pos h2] at h0;exact absurd (congrArg (fun x=>x.2.2.2.2) h0) h2
 rw [if_neg (fun k=>k h2)] at h0
 by_cases h3:h<1
 ·rw [if_pos h3] at h0;exact absurd (congrArg (fun x=>x.2.2.2.2) h0) (by show ¬ (3:Int)=0;decide)
 rw [if_neg h3] at h0
 by_cases h4:h > 1000
 ·rw [if_pos h4] at h0;exact absurd (congrArg (fun x=>x.2.2.2.2) h0) (by show ¬ (3:Int)=0;decide)
 rw [if_neg h4] at h0
 by_cases h5:(p.length:Int) > 8
 ·rw [if_pos h5] at h0;exact absurd (congrArg (fun x=>x.2.2.2.2) h0) (by show ¬ (2:Int)=0;decide)
 rw [if_neg h5] at h0
 obtain ⟨q1,q2,q3,q4⟩:=zht (w0:=l) p ⟨k.texts,[],l,0⟩ ((z62 _).1 h1) (.nil _) h0
 simp only [List.length_nil] at q4
 exact ⟨q1,(z0d l).1 h2,by omega,by omega,by omega,q3⟩
theorem zdl {x:List z3g} {l:List Coin} {s:List Tx} {m:List Coin} {f h:Int} (hx:z2w x) (hl:CoinsOK l) (h1:1≤h) (h2:h≤1000) (h3:s.length≤8) (R:RunC h x l s m f):z05 ⟨x⟩ l s h=(x,s,m,f,0):=by
 unfold z05
 rw [if_neg (fun k=>k ((z62 x).2 hx)),if_neg (fun k=>k ((z0d l).2 hl)),if_neg (by omega),if_neg (by omega),if_neg (by omega),zyz hx R]
 simp
theorem zz0:∀ (l:List Coin) (p:Point) (s:Int),(∀ c ∈ l,z3k c=0)→z4u p s l=0∨z4u p s l=6∨z4u p s l=12
 | [],p,s,_=>.inl rfl
 | c::l,p,s,h=>by
  have hc:=h c (List.mem_cons_self ..)
  unfold z3k at hc
  rw [z4u]
  split at hc
  ·cases hc
  rename_i h1
  rw [if_neg h1,if_neg (fun k=>k hc)]
  split
  ·exact .inr (.inl rfl)
  split
  ·exact .inr (.inr rfl)
  ·exact zz0 l _ _ fun x hx=>h x (List.mem_cons_of_mem _ hx)
theorem zz1 {m:List Coin} {nm h c:Int} {o:List Op} (hm:CoinsOK m) (ht:zo ⟨h,[],[⟨c,o⟩]⟩=0) (h1:1≤nm) (h2:nm≤120) (h3:1≤h) (h4:h≤1000) :
  (zk m ⟨h,[],[⟨c,o⟩]⟩ nm h).2.2=0∨(zk m ⟨h,[],[⟨c,o⟩]⟩ nm h).2.2=6∨(zk m ⟨h,[],[⟨c,o⟩]⟩ nm h).2.2=12∨(zk m ⟨h,[],[⟨c,o⟩]⟩ nm h).2.2=2:=by
 have ok:=z4z ht
 have hg:=ok.good ⟨c,o⟩ (by simp)
 simp only at hg
 unfold zk
 rw [if_neg (fun k=>k ((z0d m).2 hm)),if_neg (fun k=>k ht),if_neg (by omega),if_pos (by simp),if_neg (fun k=>k rfl),z3h,z3i]
 split
 ·exact .inr (.inl rfl)
 rw [z3i]
 have hgood:∀ y ∈ m.take (zf m ⟨nm,((0:Nat):Int)⟩)++[⟨⟨nm,((0:Nat):Int)⟩,⟨c,o⟩,h,decide ((([]:List In).length:Int)=0)⟩]++m.drop (zf m ⟨nm,((0:Nat):Int)⟩),z3k y=0:=by
  intro y hy
  rcases List.mem_append.1 hy with hy|hy
  ·rcases List.mem_append.1 hy with hy|hy
   ·exact hm.good y (List.mem_of_mem_take hy)
   ·rw [List.mem_singleton.1 hy]
    unfold z3k
    rw [if_neg (by simp only;omega)]
    exact hg.2.2
  ·exact hm.good y (List.mem_of_mem_drop hy)
 generalize m.take (zf m ⟨nm,((0:Nat):Int)⟩)++[⟨⟨nm,((0:Nat):Int)⟩,⟨c,o⟩,h,decide ((([]:List In).length:Int)=0)⟩]++m.drop (zf m ⟨nm,((0:Nat):Int)⟩)=w at *
 unfold z9s
 split
 ·show zj _=0∨zj _=6∨zj _=12∨zj _=2
  unfold zj
  split
  ·exact .inr (.inr (.inr rfl))
  ·rcases zz0 _ ⟨0,0⟩ 0 hgood with h|h|h
   ·exact .inl h
   ·exact .inr (.inl h)
   ·exact .inr (.inr (.inl h))
 ·exact .inl rfl
theorem z0b1 {b:Block} {ns:List Int} {x:List z3g} {m m':List Coin} {K:List Tx} {f:Int} (R:RunC b.height x m K m' f):∀ (us:List Undo) (most:Int) (i:Nat),(∀ j t,K[j]? = some t→ns.getD (i+j) 0=idx x (z18 t)+1)→∃ us',us'.length=us.length∧z4a b ns m us most i K=z8m b ns m' us' (most+f):=by
 induction R with
 | nil m=>intro us most i _;exact ⟨us,rfl,by rw [z4a,Int.add_zero]⟩
 | cons h1 h2 h3 h4 h5 _ ih =>
  intro us most i hn
  have e:=hn 0 _ rfl
  rw [Nat.add_zero] at e
  obtain ⟨us',a,b⟩:=ih (us.set i ⟨_⟩) (most+z15 _ _) (i+1) fun j t hj=>by
   have:=hn (j+1) t (by simpa using hj)
   rw [show i+1+j=i+(j+1) by omega]
   exact this
  refine ⟨us',by rw [a,List.length_set],?_⟩
  rw [z4a,e,h5,if_neg (fun k=>k rfl),b,Int.add_assoc]
theorem z0b2 {x:List z3g} {l:List Coin} {stay:List Tx} {m:List Coin} {f h:Int} {o:List Op} {b:Block} (hx:z2w x) (hl:CoinsOK l) (h1:1≤h) (h2:h≤1000) (h3:stay.length≤8) (R:RunC h x l stay m f) (h0:z2i ⟨x⟩ l stay 0 (h - 1) 1 0 o=(b,0)) :
  ∀ (z:List z3g) (n:Int) (ns:List Int) (e:Int),z03 ⟨x⟩ b=(z,n,ns,e)→∀ (y:List Coin) (us:List Undo) (g:Int),z14 ⟨x⟩ l b=(y,us,g)→(e≠0→g=e)∧(e=0→g=0∧us.length=b.txs.length∨g=12∨g=6∨g=2):=by
 intro z n ns e hn y us g hc
 unfold z14 at hc
 rw [if_neg (fun k=>k ((z0d l).2 hl)),hn] at hc
 refine ⟨fun he=>?_,fun he=>?_⟩
 ·rw [if_pos he] at hc
  exact (congrArg (fun x=>x.2.2) hc).symm
 subst he
 rw [if_neg (fun k=>k rfl)] at hc
 unfold z2i at h0
 rw [show h - 1+1=h by omega,zdl hx hl h1 h2 h3 R,if_neg (fun k=>k rfl)] at h0
 obtain ⟨m3,f3,f4,R3,R4⟩:=RunC.part (K:=stay.take 3) (L:=stay.drop 3) (by rw [List.take_append_drop];exact R)
 simp only at h0
 rw [zdl hx hl h1 h2 (by rw [List.length_take];omega) R3,if_neg (fun k=>k rfl)] at h0
 unfold zo4 at h0
 simp only at h0
 by_cases hr:z38 h=0
 rotate_left
 ·rw [if_pos hr] at h0;exact absurd (congrArg (fun x=>x.2) h0) hr
 rw [if_neg (fun k=>k hr)] at h0
 by_cases h9:z07 h+f3=0
 ·rw [if_pos h9] at h0;exact absurd (congrArg (fun x=>x.2) h0) (by show ¬ (9:Int)=0;decide)
 rw [if_neg h9] at h0
 by_cases hb:zg ⟨0,h,1,0,⟨h,[],[⟨z07 h+f3,o⟩]⟩::stay.take 3⟩=0
 rotate_left
 ·rw [if_pos hb] at h0;exact absurd (congrArg (fun x=>x.2) h0) hb
 rw [if_neg (fun k=>k hb)] at h0
 obtain rfl:_=b:=congrArg (fun x=>x.1) h0
 have ok:=z4h hb
 have ht0:zo ⟨h,[],[⟨z07 h+f3,o⟩]⟩=0:=ok.each _ (List.mem_cons_self ..)
 obtain ⟨g1,g2,g3,g4,g5,g6,g7,g8,g9⟩:=zrv hn
 have hnt:∀ j t,(stay.take 3)[j]? = some t→ns.getD (1+j) 0=idx x (z18 t)+1:=by
  intro j t hj
  have hmem:t ∈ stay.take 3:=List.mem_of_getElem? hj
  have hc2:zo t=0:=ok.each t (List.mem_cons_of_mem _ hmem)
  have hix:0≤idx x (z18 t):=by
   clear hc hn h0 hb ok g1 g2 g3 g4 g5 g6 g7 g8 g9
   generalize stay.take 3=K at *
   clear hj hl R R4 h9 ht0
   induction R3 with
   | nil m=>cases hmem
   | cons q1 q2 q3 q4 q5 _ ih =>
    rcases List.mem_cons.1 hmem with rfl|hmem
    ·exact q4
    ·exact ih hmem
  rw [g9,List.getD_eq_getElem?_getD,show 1+j=j+1 by omega]
  unfold z7e
  rw [List.map_map,List.map_cons,List.getElem?_cons_succ,List.getElem?_map,hj]
  simp only [Option.map_some,Option.getD_some,Function.comp]
  rw [zb8 hc2,z9a g4 hix]
 obtain ⟨us',u1,u2⟩:=z0b1 (b:=⟨0,h,1,0,⟨h,[],[⟨z07 h+f3,o⟩]⟩::stay.take 3⟩) (ns:=ns) R3 (List.replicate (stay.take 3 |>.length.succ) ⟨[]⟩) (z07 h) 1 hnt
 have hc:z4a ⟨0,h,1,0,⟨h,[],[⟨z07 h+f3,o⟩]⟩::stay.take 3⟩ ns l (List.replicate (stay.take 3 |>.length.succ) ⟨[]⟩) (z07 h) 1 (stay.take 3)=(y,us,g):=hc
 rw [u2] at hc
 unfold z8m at hc
 have hf:z15 ⟨h,[],[⟨z07 h+f3,o⟩]⟩ [] = -(z07 h+f3):=by
  unfold z15
  simp
 have hfst:(Block.txs ⟨0,h,1,0,⟨h,[],[⟨z07 h+f3,o⟩]⟩::stay.take 3⟩).getD 0 zTx=⟨h,[],[⟨z07 h+f3,o⟩]⟩:=rfl
 rw [hfst,hf,if_neg (by omega)] at hc
 have h00:ns.getD 0 0=idx z ((z02 ⟨h,[],[⟨z07 h+f3,o⟩]⟩).1)+1:=by rw [g9];rfl
 have hz0:=(g8 ((z02 ⟨h,[],[⟨z07 h+f3,o⟩]⟩).1) (List.mem_cons_self ..)).1
 obtain ⟨q,hq,hq2⟩:=zc9 hz0
 have hq3:=(List.getElem?_eq_some_iff.1 hq2).1
 have hz120:=g3.1
 have hA:=zz1 (m:=m3) (nm:=ns.getD 0 0) (h:=h) (c:=z07 h+f3) (o:=o) (R3.facts.2.2 hl) ht0 (by omega) (by omega) h1 h2
 by_cases ha:(zk m3 ⟨h,[],[⟨z07 h+f3,o⟩]⟩ (ns.getD 0 0) h).2.2=0
 ·rw [if_neg (fun k=>k ha)] at hc
  left
  refine ⟨(congrArg (fun x=>x.2.2) hc).symm,?_⟩
  have:=congrArg (fun x=>x.2.1.length) hc
  simp only [List.length_set] at this
  rw [← this,u1]
  simp
 ·rw [if_pos ha] at hc
  have hge:(zk m3 ⟨h,[],[⟨z07 h+f3,o⟩]⟩ (ns.getD 0 0) h).2.2=g:=congrArg (fun x=>x.2.2) hc
  rw [hge] at hA ha
  omega
end
section
open Go.RowKit
open Go.Lib (itoa)
set_option maxRecDepth 100000
set_option maxHeartbeats 8000000
attribute [local irreducible] z0y spD z05 z2i z03 z14 z7d
attribute [local irreducible] den denX z1b z1m
noncomputable def zkj:za:=spD (fun x:Book × List Coin × List Tx × Int × List Op=>x.2.2.2.2.length≤8796093022208) fun _=>true
def zik:T :=
 .ite (.v 54) (.ret [.c (.b true)]) (.lets [.bin .eql (.v 48) (.c (.i .i64 6))] [] (.ite (.v 55) (.ret [.c (.b true)]) (.lets [.bin .eql (.v 48) (.c (.i .i64 2))] [] (.ret [.v
 56]))))
def zil:T :=
 .lets [.len (.v 39)] [] (.lets [.bin .eql (.v 51) (.v 52)] [] (.ite (.v 53) (.ret [.c (.b true)]) (.lets [.bin .eql (.v 48) (.c (.i .i64 12))] [] zik)))
def zim:T :=
 .ite (.v 51) (.ret [.c (.b true)]) (.lets [.bin .eql (.v 48) (.c (.i .i64 6))] [] (.ite (.v 52) (.ret [.c (.b true)]) (.lets [.bin .eql (.v 48) (.c (.i .i64 2))] [] (.ret [.v
 53]))))
def zin:T :=
 .lets [.bin .eql (.v 48) (.c (.i .i64 0))] [] (.ite (.v 50) (.lets [.len (.v 47)] [] zil) (.lets [.bin .eql (.v 48) (.c (.i .i64 12))] [] zim))
def zio:T :=
 .lets [.call 74 [.v 5,.v 1,.v 35,.v 36,.v 37,.v 38,.v 39] 0,.call 74 [.v 5,.v 1,.v 35,.v 36,.v 37,.v 38,.v 39] 1,.call 74 [.v 5,.v 1,.v 35,.v 36,.v 37,.v 38,.v
 39] 2] [] (.lets [.bin .neq (.v 45) (.c (.i .i64 0))] [] (.ite (.v 49) (.lets [.bin .eql (.v 48) (.v 45)] [] (.ret [.v 50])) zin))
def zip:T :=
 .lets [.call 72 [.v 5,.v 35,.v 36,.v 37,.v 38,.v 39] 0,.call 72 [.v 5,.v 35,.v 36,.v 37,.v 38,.v 39] 1,.call 72 [.v 5,.v 35,.v 36,.v 37,.v 38,.v 39] 2,.call 72 [.v
 5,.v 35,.v 36,.v 37,.v 38,.v 39] 3] [] zio
def ziq:T :=
 .lets [.call 104 [.v 5,.v 1,.v 6,.c (.i .i64 0),.v 34,.c (.i .i64 1),.c (.i .i64 0),.v 4] 0,.call 104 [.v 5,.v 1,.v 6,.c (.i .i64 0),.v 34,.c (.i .i64 1),.c (.i .i64
 0),.v 4] 1,.call 104 [.v 5,.v 1,.v 6,.c (.i .i64 0),.v 34,.c (.i .i64 1),.c (.i .i64 0),.v 4] 2,.call 104 [.v 5,.v 1,.v 6,.c (.i .i64 0),.v 34,.c (.i .i64 1),.c (.i
 .i64 0),.v 4] 3,.call 104 [.v 5,.v 1,.v 6,.c (.i .i64 0),.v 34,.c (.i .i64 1),.c (.i .i64 0),.v 4] 4,.call 104 [.v 5,.v 1,.v 6,.c (.i .i64 0),.v 34,.c (.i .i64 1),.c
 (.i .i64 0),.v 4] 5] [] (.lets [.bin .neq (.v 40) (.c (.i .i64 0))] [] (.ite (.v 41) (.ret [.c (.b true)]) zip))
def zir:T :=
 .lets [.bin .sub (.v 18) (.v 8)] [] (.lets [.bin .neq (.v 32) (.v 20)] [] (.ite (.v 33) (.ret [.c (.b false)]) (.lets [.bin .sub (.v 3) (.c (.i .i64 1))] [] ziq)))
def zis:T :=
 .lets [.not (.v 29)] [] (.ite (.v 30) (.ret [.c (.b false)]) (.lets [.bin .lss (.v 8) (.c (.i .i64 0))] [] (.ite (.v 31) (.ret [.c (.b false)]) zir)))
def zit:T :=
 .ite (.v 27) (.ret [.c (.b false)]) (.lets [.bin .neq (.v 16) (.v 8)] [] (.ite (.v 28) (.ret [.c (.b false)]) (.lets [.call 23 [.v 15,.v 7] 0] [] zis)))
def zhu:T :=
 .lets [.bin .neq (.v 21) (.c (.i .i64 0))] [] (.ite (.v 24) (.ret [.c (.b false)]) (.lets [.len (.v 14)] [] (.lets [.len (.v 6)] [] (.lets [.bin .neq (.v 25) (.v 26)] []
 zit))))
def zhv:T :=
 .lets [.bin .neq (.v 17) (.c (.i .i64 0))] [] (.ite (.v 22) (.ret [.c (.b false)]) (.lets [.bin .neq (.v 19) (.c (.i .i64 0))] [] (.ite (.v 23) (.ret [.c (.b false)])
 zhu)))
def zhw:T :=
 .lets [.call 102 [.v 5,.v 1,.v 6,.v 3] 0,.call 102 [.v 5,.v 1,.v 6,.v 3] 1,.call 102 [.v 5,.v 1,.v 6,.v 3] 2,.call 102 [.v 5,.v 1,.v 6,.v 3] 3,.call 102 [.v 5,.v 1,
 .v 6,.v 3] 4] [] (.lets [.call 12 [.v 1] 0,.call 12 [.v 1] 1] [] (.lets [.call 12 [.v 7] 0,.call 12 [.v 7] 1] [] zhv))
def zhx:T :=
 .ite (.v 11) (.lets [.call 107 [] 0] [] (.ret [.v 12])) (.lets [.bin .neq (.v 9) (.c (.i .i64 0))] [] (.ite (.v 12) (.lets [.call 107 [] 0] [] (.ret [.v 13])) zhw))
def z9i:T :=
 .lets [.call 102 [.v 0,.v 1,.v 2,.v 3] 0,.call 102 [.v 0,.v 1,.v 2,.v 3] 1,.call 102 [.v 0,.v 1,.v 2,.v 3] 2,.call 102 [.v 0,.v 1,.v 2,.v 3] 3,.call 102 [.v 0,.v 1,
 .v 2,.v 3] 4] [] (.lets [.call 107 [] 0] [] (.lets [.not (.v 10)] [] zhx))
attribute [local irreducible] z19 z1k z9h z4i z23 z3c z98
theorem zme:Meets Tryz.prog zkj 3 ⟨[.agg 1,.one,.one,.one,.one],[(false,[.scal])],true⟩:=by
 refine zi (sp:=(z0m [(12,z98),(23,z3c),(72,z1k),(74,z19),(102,z23),(104,z4i),(107,z9h)])) (sigs:=z0t) (cut:=[]) (hints:=[]) (fn:=Tryz.f3) (t:=z9i) (by kernel_rfl) (by kernel_rfl) (by kernel_rfl) ?_ ?_
 ·exact (z0c (L:=[(12,z98),(23,z3c),(72,z1k),(74,z19),(102,z23),(104,z4i),(107,z9h)]) ⟨z7 rfl z07u,z7 rfl zf6,z7 rfl zbc,z7 rfl z9f,z7 rfl zdk,z7 rfl zmd,z7 rfl z08p,trivial⟩)
 ·rintro ds rs - h
  obtain ⟨⟨k,l,p,hh,o⟩,ho,rfl,rfl⟩:=zq h
  clear h
  simp only at ho
  refine ⟨⟨1,?_⟩,z0o rfl⟩
  show den _ _ z9i [.l 1 (k.texts.map z0f),.l 6 (l.map z9),.l 3 (p.map eTx),I hh,.l 2 (o.map eOp)] []=ret true
  have a1:z23 [.l 1 (k.texts.map z0f),.l 6 (l.map z9),.l 3 (p.map eTx),I hh]=some [.l 1 ((z05 k l p hh).1.map z0f),.l 3 ((z05 k l p hh).2.1.map eTx),.l 6 ((z05 k l p hh).2.2.1.map z9),I (z05 k l p hh).2.2.2.1,I (z05 k l p hh).2.2.2.2]:=z53 k.texts l p hh
  have a0:=zru
  unfold z9i
  generalize hq:z05 k l p hh=q at *
  obtain ⟨x,s,m,f,e⟩:=q
  simp only at *
  by_cases he:e=0
  ·subst he
   obtain ⟨b1,b2,b3,b4,b5,R⟩:=z02j hq
   obtain ⟨c1,c2,c3⟩:=R.facts
   have a2:=z53 x l s hh
   rw [zdl b1 b2 b3 b4 b5 R] at a2
   have a3:=zfp l
   rw [zly b2] at a3
   have a4:=zfp m
   rw [zly (c3 b2)] at a4
   have a5:=z6u m m
   rw [decide_eq_true rfl] at a5
   have r1:=z5d b2.good
   have r2:=b2.total
   have r3:=z5d (c3 b2).good
   have a6:=zec x l s 0 (hh - 1) 1 0 o ⟨by omega,by omega⟩ ho
   have law:=fun b=>z0b2 (o:=o) (b:=b) b1 b2 b3 b4 b5 R
   generalize hmk:z2i ⟨x⟩ l s 0 (hh - 1) 1 0 o=mk at *
   obtain ⟨b,be⟩:=mk
   simp only at *
   generalize zd l=tl at *
   generalize zd m=tm at *
   by_cases hbe:be=0
   ·subst hbe
    have law:=law b rfl
    have a7:=z5h ⟨x⟩ b
    have a8:=z5v ⟨x⟩ l b
    generalize hnm:z03 ⟨x⟩ b=nm at *
    obtain ⟨z,n,ns,ne⟩:=nm
    generalize hcn:z14 ⟨x⟩ l b=cn at *
    obtain ⟨y,us,g⟩:=cn
    obtain ⟨law1,law2⟩:=law z n ns ne rfl y us g rfl
    simp only at *
    clear hq hmk hnm hcn R
    by_cases hne:ne=0
    ·subst hne
     rcases law2 rfl with ⟨rfl,hlen⟩|rfl|rfl|rfl
     ·have hlen':(us.length:Int)=b.txs.length:=by rw [hlen]
      repeat' (first|refine dq1 ?_|refine dqc ?_|refine dqm ?_|refine dqK rfl (a0) ?_|refine dqK rfl (a1) ?_|refine dqK rfl (a2) ?_|refine dqK rfl (a3) ?_|refine dqK rfl (a4) ?_|refine dqK rfl (a5) ?_|refine dqK rfl (a6) ?_|refine dqK rfl (a7) ?_|refine dqK rfl (a8) ?_|exact z6 rfl rfl|((first|refine tR ?_ ?_|refine tB ?_ ?_|refine tC ?_ ?_|refine tN ?_ ?_|refine tF ?_ ?_|refine tG ?_ ?_|refine tP ?_ ?_|refine tQ ?_ ?_|refine tA ?_ ?_|refine tO ?_ ?_|refine tU ?_ ?_|refine tV ?_ ?_) <;> intro h)|refine dqT ?_|refine dqF ?_|refine z4c rfl ?_|refine z2k rfl ?_|refine zgu ?_|refine zgv ?_)
     ·repeat' (first|refine dq1 ?_|refine dqc ?_|refine dqm ?_|refine dqK rfl (a0) ?_|refine dqK rfl (a1) ?_|refine dqK rfl (a2) ?_|refine dqK rfl (a3) ?_|refine dqK rfl (a4) ?_|refine dqK rfl (a5) ?_|refine dqK rfl (a6) ?_|refine dqK rfl (a7) ?_|refine dqK rfl (a8) ?_|exact z6 rfl rfl|((first|refine tR ?_ ?_|refine tB ?_ ?_|refine tC ?_ ?_|refine tN ?_ ?_|refine tF ?_ ?_|refine tG ?_ ?_|refine tP ?_ ?_|refine tQ ?_ ?_|refine tA ?_ ?_|refine tO ?_ ?_|refine tU ?_ ?_|refine tV ?_ ?_) <;> intro h)|refine dqT ?_|refine dqF ?_|refine z4c rfl ?_|refine z2k rfl ?_|refine zgu ?_|refine zgv ?_)
     ·repeat' (first|refine dq1 ?_|refine dqc ?_|refine dqm ?_|refine dqK rfl (a0) ?_|refine dqK rfl (a1) ?_|refine dqK rfl (a2) ?_|refine dqK rfl (a3) ?_|refine dqK rfl (a4) ?_|refine dqK rfl (a5) ?_|refine dqK rfl (a6) ?_|refine dqK rfl (a7) ?_|refine dqK rfl (a8) ?_|exact z6 rfl rfl|((first|refine tR ?_ ?_|refine tB ?_ ?_|refine tC ?_ ?_|refine tN ?_ ?_|refine tF ?_ ?_|refine tG ?_ ?_|refine tP ?_ ?_|refine tQ ?_ ?_|refine tA ?_ ?_|refine tO ?_ ?_|refine tU ?_ ?_|refine tV ?_ ?_) <;> intro h)|refine dqT ?_|refine dqF ?_|refine z4c rfl ?_|refine z2k rfl ?_|refine zgu ?_|refine zgv ?_)
     ·repeat' (first|refine dq1 ?_|refine dqc ?_|refine dqm ?_|refine dqK rfl (a0) ?_|refine dqK rfl (a1) ?_|refine dqK rfl (a2) ?_|refine dqK rfl (a3) ?_|refine dqK rfl (a4) ?_|refine dqK rfl (a5) ?_|refine dqK rfl (a6) ?_|refine dqK rfl (a7) ?_|refine dqK rfl (a8) ?_|exact z6 rfl rfl|((first|refine tR ?_ ?_|refine tB ?_ ?_|refine tC ?_ ?_|refine tN ?_ ?_|refine tF ?_ ?_|refine tG ?_ ?_|refine tP ?_ ?_|refine tQ ?_ ?_|refine tA ?_ ?_|refine tO ?_ ?_|refine tU ?_ ?_|refine tV ?_ ?_) <;> intro h)|refine dqT ?_|refine dqF ?_|refine z4c rfl ?_|refine z2k rfl ?_|refine zgu ?_|refine zgv ?_)
    ·obtain rfl:=law1 hne
     have hd:decide (g=g)=true:=decide_eq_true rfl
     repeat' (first|refine dq1 ?_|refine dqc ?_|refine dqm ?_|refine dqK rfl (a0) ?_|refine dqK rfl (a1) ?_|refine dqK rfl (a2) ?_|refine dqK rfl (a3) ?_|refine dqK rfl (a4) ?_|refine dqK rfl (a5) ?_|refine dqK rfl (a6) ?_|refine dqK rfl (a7) ?_|refine dqK rfl (a8) ?_|exact z6 rfl rfl|((first|refine tR ?_ ?_|refine tB ?_ ?_|refine tC ?_ ?_|refine tN ?_ ?_|refine tF ?_ ?_|refine tG ?_ ?_|refine tP ?_ ?_|refine tQ ?_ ?_|refine tA ?_ ?_|refine tO ?_ ?_|refine tU ?_ ?_|refine tV ?_ ?_) <;> intro h)|refine dqT ?_|refine dqF ?_|refine z4c rfl ?_|refine z2k rfl ?_|refine zgu ?_|refine zgv ?_)
     all_goals (simp only [hd];exact z6 rfl rfl)
   ·clear law hq hmk R
    repeat' (first|refine dq1 ?_|refine dqc ?_|refine dqm ?_|refine dqK rfl (a0) ?_|refine dqK rfl (a1) ?_|refine dqK rfl (a2) ?_|refine dqK rfl (a3) ?_|refine dqK rfl (a4) ?_|refine dqK rfl (a5) ?_|refine dqK rfl (a6) ?_|exact z6 rfl rfl|((first|refine tR ?_ ?_|refine tB ?_ ?_|refine tC ?_ ?_|refine tN ?_ ?_|refine tF ?_ ?_|refine tG ?_ ?_|refine tP ?_ ?_|refine tQ ?_ ?_|refine tA ?_ ?_|refine tO ?_ ?_|refine tU ?_ ?_|refine tV ?_ ?_) <;> intro h)|refine dqT ?_|refine dqF ?_|refine z4c rfl ?_|refine z2k rfl ?_|refine zgu ?_|refine zgv ?_)
  ·repeat' (first|refine dq1 ?_|refine dqc ?_|refine dqm ?_|refine dqK rfl (a0) ?_|refine dqK rfl (a1) ?_|exact z6 rfl rfl|((first|refine tR ?_ ?_|refine tB ?_ ?_|refine tC ?_ ?_|refine tN ?_ ?_|refine tF ?_ ?_|refine tG ?_ ?_|refine tP ?_ ?_|refine tQ ?_ ?_|refine tA ?_ ?_|refine tO ?_ ?_|refine tU ?_ ?_|refine tV ?_ ?_) <;> intro h)|refine dqT ?_|refine dqF ?_|refine z4c rfl ?_|refine z2k rfl ?_|refine zgu ?_|refine zgv ?_)
theorem poolConnects_walk (k:Book) (c_k:List Value) (l:List (Coin)) (A_l:Option Addr) (n_l c_l:Nat) (p:List (Tx)) (A_p:Option Addr) (n_p c_p:Nat) (hh:Int) (o:List (Op)) (A_o:Option Addr) (n_o c_o:Nat) (w:World) (h_k:shBook.rep w (Lt w.heap.size) k c_k) (h_l:Rds shCoin w (Lt w.heap.size) l A_l n_l c_l) (h_p:Rds shTx w (Lt w.heap.size) p A_p n_p c_p) (hh_0 : -9223372036854775808≤hh) (hh_1:hh≤9223372036854775807) (h_o:Rds shOp w (Lt w.heap.size) o A_o n_o c_o) (z_l:n_l * 64≤140737488351232) (z_p:n_p * 56≤140737488351232) (z_o:n_o * 16≤140737488351232) (hG:Glob w) :
  Calls Tryz.prog 3 #[.agg c_k.toArray,.slice A_l n_l c_l,.slice A_p n_p c_p,.int .i64 hh,.slice A_o n_o c_o] w fun e w'=>e = .returned (.bool true)∧Below w.heap.size w w' :=
 za0 (F:=Lt w.heap.size) (us:=[.agg c_k.toArray,.slice A_l n_l c_l,.slice A_p n_p c_p,.int .i64 hh,.slice A_o n_o c_o]) rfl (z1x (fn:=Tryz.f3) (by kernel_rfl) (by kernel_rfl) (by kernel_rfl)) zme ⟨fun _ h=>h,hG⟩ (zl (f:=fun _=>true) (k,l,p,hh,o) (by have q:=h_o.1;simp only;omega))
  (z5p (d1:=z70 k) (she_book.to h_k) rfl (z2j (z72 zjt h_l) (z2j (z72 she_tx h_p) (z2j (.i _ _ (wrap_i64 ⟨hh_0,hh_1⟩)) (z2j (z72 z8w h_o) z8y)))))
end
end Go.Proofs.YtnklncinjahckaaGreatDoor
