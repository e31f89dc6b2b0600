/- Own texts, put together by wip/bundle.py: Opens. -/
import Derived.Test.YtdpbicpeimhopaaGreatDoorProg
import Derived.ProofKit
import Derived.Deep.Slices
import Derived.Test.YtdpbicpeimhopaaGreatDoorNSOwnB1
set_option linter.unusedVariables false
set_option linter.unusedSimpArgs false
namespace Go.Proofs.YtdpbicpeimhopaaGreatDoor
section
open Go.RowKit Go.ChangeShapes Go.WideShapes
theorem zhh {α:Type} (l:List α) (k m:Nat):(l.drop k).take m++l.drop (k+m)=l.drop k:=by rw [← List.drop_drop,List.take_append_drop]
def z0j {α:Type} (P:Program) (S:Sh α) (t:TypeId):Prop :=
 ∀ {H:Type} {enc:TypeId × Value→H} {w:World} {base:Nat} {spare:Nat→Bool} {held:Bool} {fuel:Nat} {cs:List Value} {x:DataW H × List MemPlace},
  DataW.trod enc P w base spare held fuel t cs=some x→∃ a,S.rep w (Lt w.heap.size) a cs
section
variable {P:Program} {t:TypeId}
theorem z06n (ht:P.underlying t=some (.int .i64)):z0j P shInt t:=by
 intro H enc w base spare held fuel cs x h
 obtain ⟨n,rfl,_,hw⟩:=DataW.trod_int ht h
 exact ⟨n,rfl,by simp [Lit.wf,IntKind.min,IntKind.max,IntKind.signed,IntKind.bits] at hw;omega⟩
theorem z03r (ht:P.underlying t=some .bool):z0j P shBool t:=by
 intro H enc w base spare held fuel cs x h
 obtain ⟨n,rfl,_⟩:=DataW.trod_bool ht h
 exact ⟨n,rfl⟩
theorem z06o (ht:P.underlying t=some .string):z0j P shStr t:=by
 intro H enc w base spare held fuel cs x h
 obtain ⟨s,rfl,_,hw⟩:=DataW.trod_string ht h
 exact ⟨s.data.toList,by simp,by unfold maxLen at hw;simpa using hw⟩
theorem z4b {α:Type} {S:Sh α} {e:TypeId} (ht:P.underlying t=some (.slice e)) (hs:P.cellsOf e=S.size) (h0:0<S.size) (he:z0j P S e):z0j P (z0h S) t:=by
 intro H enc w base spare held fuel cs x h
 rcases Go.Deep.open_slice ht h with ⟨rfl,_⟩|⟨a,len,cap,m,n,D,Pl,rfl,_,hl,hm,hmm,-,hi⟩
 ·exact ⟨[],_,_,_,rfl,Rds.nil _ _ _⟩
 ·have hlm:len≤m:=by rw [hmm];split <;> omega
  have key:∀ i,i<len→∃ y:α × List Value,S.rep w (Lt w.heap.size) y.1 y.2∧∀ j,j<S.size→w.cell? (a.add (i * S.size+j))=y.2[j]?:=by
   intro i hlt
   obtain ⟨cs',hc,ht'⟩:=hi i (by omega)
   obtain ⟨y,hy⟩:=he ht'
   obtain ⟨_,hcl,hat⟩:=World.cells?_some hc
   refine ⟨(y,cs'),hy,fun j hj=>?_⟩
   have:=hat j (by omega)
   rw [hs,Go.Deep.add_add] at this
   exact this
  have key2:∃ ys:List (α × List Value),ys.length=len∧∀ i (hi:i<ys.length),S.rep w (Lt w.heap.size) ys[i].1 ys[i].2∧∀ j,j<S.size→w.cell? (a.add (i * S.size+j))=ys[i].2[j]?:=by
   clear hi hmm hlm hl h
   induction len with
   | zero=>exact ⟨[],rfl,fun i hi=>by simp at hi⟩
   | succ l ih =>
    obtain ⟨ys,hy1,hy2⟩:=ih (fun i hi=>key i (by omega))
    obtain ⟨y,hy⟩:=key l (by omega)
    refine ⟨ys++[y],by simp [hy1],fun i hi=>?_⟩
    by_cases h':i<ys.length
    ·rw [List.getElem_append_left h'];exact hy2 i h'
    ·have:i=l:=by simp at hi;omega
     subst this
     rw [List.getElem_append_right (by omega)]
     simpa [hy1] using hy
  obtain ⟨ys,hy1,hy2⟩:=key2
  refine ⟨ys.map (·.1),_,_,_,rfl,by simp [hy1],hl,by unfold maxLen at hm;omega,fun hn=>?_⟩
  have c0:=(hy2 0 (by omega)).2 0 h0
  have hl0:=S.len (hy2 0 (by omega)).1
  have hspot:a.spot=none:=by
   have:(ys[0]'(by omega)).2[0]? = some ((ys[0]'(by omega)).2[0]'(by omega)):=List.getElem?_eq_getElem (by omega)
   rw [this] at c0
   have:=World.cell?_spot c0
   simpa [Addr.add] using this
  obtain ⟨b,off,spot⟩:=a
  simp only at hspot
  subst hspot
  have hadd:∀ k,(Addr.mk b off none).add k=⟨b,off+k,none⟩:=by
   intro k;unfold Addr.add;split <;> simp_all
  refine ⟨b,off,rfl,?_,fun i hi=>?_⟩
  ·show b<w.heap.size
   rcases Nat.lt_or_ge b w.heap.size with h'|h'
   ·exact h'
   ·have e:w.cell? ((Addr.mk b off none).add (0 * S.size+0))=none:=by
     rw [hadd];simp [World.cell?,Array.getElem?_eq_none h']
    rw [e] at c0
    have:(ys[0]'(by omega)).2[0]? = some ((ys[0]'(by omega)).2[0]'(by omega)):=List.getElem?_eq_getElem (by omega)
    rw [this] at c0;cases c0
  ·have hi':i<ys.length:=by simpa using hi
   refine ⟨ys[i].2,by simpa using (hy2 i hi').1,fun j v hj=>?_⟩
   have hjl:j<S.size:=by
    have:=S.len (hy2 i hi').1
    have:=(List.getElem?_eq_some_iff.1 hj).1
    omega
   have:=(hy2 i hi').2 j hjl
   rw [hadd,hj] at this
   rw [← this,Nat.add_assoc]
theorem zco {α β τ:Type} {S0:Sh α} {S1:Sh β} {f:α→β→τ} {f0 f1:Field} (ht:P.underlying t=some (.struct #[f0,f1])) (hc:P.cellsOf t=S0.size+S1.size)
  (o0:f0.offset=0) (o1:f1.offset=S0.size) (c0:P.cellsOf f0.type=S0.size) (c1:P.cellsOf f1.type=S1.size) (h0:z0j P S0 f0.type) (h1:z0j P S1 f1.type):z0j P (z3u S0 S1 f) t:=by
 intro H enc w base spare held fuel cs x h
 obtain ⟨xs,n,_,_,hl,hxl,hf⟩:=DataW.trod_struct ht h
 match xs,hxl with
 | [x0,x1],_ =>
  have g0:=hf 0 f0 rfl
  have g1:=hf 1 f1 rfl
  rw [o0,c0] at g0
  rw [o1,c1] at g1
  obtain ⟨a,ha⟩:=h0 g0
  obtain ⟨b,hb⟩:=h1 g1
  refine ⟨f a b,a,b,_,_,rfl,?_,ha,hb⟩
  rw [List.drop_zero,List.take_of_length_le (l:=cs.drop S0.size) (by simp;omega),List.take_append_drop]
theorem zx3 {α τ:Type} {S0:Sh α} {f:α→τ} {f0:Field} (ht:P.underlying t=some (.struct #[f0])) (hc:P.cellsOf t=S0.size)
  (o0:f0.offset=0) (c0:P.cellsOf f0.type=S0.size) (h0:z0j P S0 f0.type):z0j P (shS1 S0 f) t:=by
 intro H enc w base spare held fuel cs x h
 obtain ⟨xs,n,_,_,hl,hxl,hf⟩:=DataW.trod_struct ht h
 match xs,hxl with
 | [x0],_ =>
  have g0:=hf 0 f0 rfl
  rw [o0,c0] at g0
  obtain ⟨a,ha⟩:=h0 g0
  refine ⟨f a,a,rfl,?_⟩
  rwa [List.drop_zero,List.take_of_length_le (by omega)] at ha
theorem zx4 {α β γ τ:Type} {S0:Sh α} {S1:Sh β} {S2:Sh γ} {f:α→β→γ→τ} {f0 f1 f2:Field} (ht:P.underlying t=some (.struct #[f0,f1,f2])) (hc:P.cellsOf t=S0.size+(S1.size+S2.size))
  (o0:f0.offset=0) (o1:f1.offset=S0.size) (o2:f2.offset=S0.size+S1.size) (c0:P.cellsOf f0.type=S0.size) (c1:P.cellsOf f1.type=S1.size) (c2:P.cellsOf f2.type=S2.size)
  (h0:z0j P S0 f0.type) (h1:z0j P S1 f1.type) (h2:z0j P S2 f2.type):z0j P (zau S0 S1 S2 f) t:=by
 intro H enc w base spare held fuel cs x h
 obtain ⟨xs,n,_,_,hl,hxl,hf⟩:=DataW.trod_struct ht h
 match xs,hxl with
 | [x0,x1,x2],_ =>
  have g0:=hf 0 f0 rfl
  have g1:=hf 1 f1 rfl
  have g2:=hf 2 f2 rfl
  rw [o0,c0] at g0
  rw [o1,c1] at g1
  rw [o2,c2] at g2
  obtain ⟨a,ha⟩:=h0 g0
  obtain ⟨b,hb⟩:=h1 g1
  obtain ⟨c,hc'⟩:=h2 g2
  refine ⟨f a b c,a,(b,c),_,_,rfl,?_,ha,b,c,_,_,rfl,rfl,hb,hc'⟩
  rw [List.drop_zero,List.take_of_length_le (l:=cs.drop (S0.size+S1.size)) (by simp;omega),← List.drop_drop,List.take_append_drop,List.take_append_drop]
theorem z091 {α β γ δ τ:Type} {S0:Sh α} {S1:Sh β} {S2:Sh γ} {S3:Sh δ} {f:α→β→γ→δ→τ} {f0 f1 f2 f3:Field} (ht:P.underlying t=some (.struct #[f0,f1,f2,f3])) (hc:P.cellsOf t=S0.size+(S1.size+(S2.size+S3.size)))
  (o0:f0.offset=0) (o1:f1.offset=S0.size) (o2:f2.offset=S0.size+S1.size) (o3:f3.offset=S0.size+S1.size+S2.size) (c0:P.cellsOf f0.type=S0.size) (c1:P.cellsOf f1.type=S1.size) (c2:P.cellsOf f2.type=S2.size) (c3:P.cellsOf f3.type=S3.size)
  (h0:z0j P S0 f0.type) (h1:z0j P S1 f1.type) (h2:z0j P S2 f2.type) (h3:z0j P S3 f3.type):z0j P (zg7 S0 S1 S2 S3 f) t:=by
 intro H enc w base spare held fuel cs x h
 obtain ⟨xs,n,_,_,hl,hxl,hf⟩:=DataW.trod_struct ht h
 match xs,hxl with
 | [x0,x1,x2,x3],_ =>
  have g0:=hf 0 f0 rfl
  have g1:=hf 1 f1 rfl
  have g2:=hf 2 f2 rfl
  have g3:=hf 3 f3 rfl
  rw [o0,c0] at g0
  rw [o1,c1] at g1
  rw [o2,c2] at g2
  rw [o3,c3] at g3
  obtain ⟨a,ha⟩:=h0 g0
  obtain ⟨b,hb⟩:=h1 g1
  obtain ⟨c,hc'⟩:=h2 g2
  obtain ⟨d,hd⟩:=h3 g3
  refine ⟨f a b c d,a,(b,c,d),_,_,rfl,?_,ha,b,(c,d),_,_,rfl,rfl,hb,c,d,_,_,rfl,rfl,hc',hd⟩
  rw [List.drop_zero,List.take_of_length_le (l:=cs.drop (S0.size+S1.size+S2.size)) (by simp;omega),zhh,zhh,List.take_append_drop]
theorem z092 {α β γ δ ε τ:Type} {S0:Sh α} {S1:Sh β} {S2:Sh γ} {S3:Sh δ} {S4:Sh ε} {f:α→β→γ→δ→ε→τ} {f0 f1 f2 f3 f4:Field} (ht:P.underlying t=some (.struct #[f0,f1,f2,f3,f4]))
  (hc:P.cellsOf t=S0.size+(S1.size+(S2.size+(S3.size+S4.size))))
  (o0:f0.offset=0) (o1:f1.offset=S0.size) (o2:f2.offset=S0.size+S1.size) (o3:f3.offset=S0.size+S1.size+S2.size) (o4:f4.offset=S0.size+S1.size+S2.size+S3.size)
  (c0:P.cellsOf f0.type=S0.size) (c1:P.cellsOf f1.type=S1.size) (c2:P.cellsOf f2.type=S2.size) (c3:P.cellsOf f3.type=S3.size) (c4:P.cellsOf f4.type=S4.size)
  (h0:z0j P S0 f0.type) (h1:z0j P S1 f1.type) (h2:z0j P S2 f2.type) (h3:z0j P S3 f3.type) (h4:z0j P S4 f4.type):z0j P (ziw S0 S1 S2 S3 S4 f) t:=by
 intro H enc w base spare held fuel cs x h
 obtain ⟨xs,n,_,_,hl,hxl,hf⟩:=DataW.trod_struct ht h
 match xs,hxl with
 | [x0,x1,x2,x3,x4],_ =>
  have g0:=hf 0 f0 rfl
  have g1:=hf 1 f1 rfl
  have g2:=hf 2 f2 rfl
  have g3:=hf 3 f3 rfl
  have g4:=hf 4 f4 rfl
  rw [o0,c0] at g0
  rw [o1,c1] at g1
  rw [o2,c2] at g2
  rw [o3,c3] at g3
  rw [o4,c4] at g4
  obtain ⟨a,ha⟩:=h0 g0
  obtain ⟨b,hb⟩:=h1 g1
  obtain ⟨c,hc'⟩:=h2 g2
  obtain ⟨d,hd⟩:=h3 g3
  obtain ⟨e,he⟩:=h4 g4
  refine ⟨f a b c d e,a,(b,c,d,e),_,_,rfl,?_,ha,b,(c,d,e),_,_,rfl,rfl,hb,c,(d,e),_,_,rfl,rfl,hc',d,e,_,_,rfl,rfl,hd,he⟩
  rw [List.drop_zero,List.take_of_length_le (l:=cs.drop (S0.size+S1.size+S2.size+S3.size)) (by simp;omega),zhh,zhh,zhh,List.take_append_drop]
end
theorem z64:z0j Tryz.prog shInt 3:=z06n Tryz.underlying3
theorem z0bg:z0j Tryz.prog shBool 4:=z03r Tryz.underlying4
theorem z0dh:z0j Tryz.prog shStr 9:=z06o Tryz.underlying9
theorem z0bh:z0j Tryz.prog (z0h shInt) 38:=z4b Tryz.underlying38 (by kernel_rfl) (by decide) z64
theorem z0bi:z0j Tryz.prog (z0h shStr) 35:=z4b Tryz.underlying35 (by kernel_rfl) (by decide) z0dh
theorem op_book:z0j Tryz.prog shBook 37:=zx3 Tryz.underlying37 (by kernel_rfl) rfl (by kernel_rfl) z0bi
theorem z0e5:z0j Tryz.prog shOp 194:=zco Tryz.underlying194 (by kernel_rfl) rfl rfl (by kernel_rfl) (by kernel_rfl) z64 z64
theorem z06p:z0j Tryz.prog (z0h shOp) 63:=z4b Tryz.underlying63 (by kernel_rfl) (by decide) z0e5
theorem zx5:z0j Tryz.prog shPoint 118:=zco Tryz.underlying118 (by kernel_rfl) rfl rfl (by kernel_rfl) (by kernel_rfl) z64 z64
theorem z0e6:z0j Tryz.prog shIn 170:=zco Tryz.underlying170 (by kernel_rfl) rfl rfl (by kernel_rfl) (by kernel_rfl) zx5 z06p
theorem z0di:z0j Tryz.prog (z0h shIn) 59:=z4b Tryz.underlying59 (by kernel_rfl) (by decide) z0e6
theorem z06q:z0j Tryz.prog shOut 111:=zco Tryz.underlying111 (by kernel_rfl) rfl rfl (by kernel_rfl) (by kernel_rfl) z64 z06p
theorem z0bj:z0j Tryz.prog (z0h shOut) 60:=z4b Tryz.underlying60 (by kernel_rfl) (by decide) z06q
theorem z0e7:z0j Tryz.prog shTx 62:=zx4 Tryz.underlying62 (by kernel_rfl) rfl rfl rfl (by kernel_rfl) (by kernel_rfl) (by kernel_rfl) z64 z0di z0bj
theorem z06r:z0j Tryz.prog (z0h shTx) 22:=z4b Tryz.underlying22 (by kernel_rfl) (by decide) z0e7
theorem z0bk:z0j Tryz.prog shCoin 120:=z091 Tryz.underlying120 (by kernel_rfl) rfl rfl rfl rfl (by kernel_rfl) (by kernel_rfl) (by kernel_rfl) (by kernel_rfl) zx5 z06q z64 z0bg
theorem z093:z0j Tryz.prog (z0h shCoin) 44:=z4b Tryz.underlying44 (by kernel_rfl) (by decide) z0bk
theorem z0bl:z0j Tryz.prog shUndo 184:=zx3 Tryz.underlying184 (by kernel_rfl) rfl (by kernel_rfl) z093
theorem z0ee:z0j Tryz.prog (z0h shUndo) 114:=z4b Tryz.underlying114 (by kernel_rfl) (by decide) z0bl
theorem z094:z0j Tryz.prog shBlock 24:=z092 Tryz.underlying24 (by kernel_rfl) rfl rfl rfl rfl rfl (by kernel_rfl) (by kernel_rfl) (by kernel_rfl) (by kernel_rfl) (by kernel_rfl) z64 z64 z64 z64 z06r
theorem z06s:z0j Tryz.prog (z0h shBlock) 39:=z4b Tryz.underlying39 (by kernel_rfl) (by decide) z094
theorem z0bm:z0j Tryz.prog shTree 41:=zco Tryz.underlying41 (by kernel_rfl) rfl rfl (by kernel_rfl) (by kernel_rfl) z0bh z06s
theorem op_node:z0j Tryz.prog shNode 43:=zx4 Tryz.underlying43 (by kernel_rfl) rfl rfl rfl (by kernel_rfl) (by kernel_rfl) (by kernel_rfl) z0bm z06r z64
end
end Go.Proofs.YtdpbicpeimhopaaGreatDoor
