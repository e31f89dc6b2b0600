/- Own texts, put together by wip/bundle.py: Map, RefTreeLaw. -/
import Derived.Maps.OwnOps
import Derived.Maps.Views
import Derived.Test.YtaddehddalnliaaGreatDoorCCOwnB
import Derived.Test.YtaddehddalnliaaGreatDoorCCOwnC
set_option linter.unusedVariables false
set_option linter.unusedSimpArgs false
namespace Go.Proofs.YtaddehddalnliaaGreatDoor
section
open Go.RowKit
def z3k:List (Int × Int)→Int→Option Int
 | [],_=>none
 | (k,v)::l,x=>if x=k then some v else z3k l x
def setI:List (Int × Int)→DataW Unit
 | []=>.map []
 | (k,v)::l=>(setI l).put (.int .i64 k) (.lit (.int .i64 v))
def imap (P:Program) (k e:TypeId) (b:Nat) (l:List (Int × Int)):Res:={
 block:=some b
 holds h0 _ W:=h0≤b∧∃ n,n≤l.length∧W.ownsMap P k (plainElem P e) b n (setI l)
 keep:=fun ha hF hb h=>⟨h.1,by
  obtain ⟨n,hn,es,clock,hh,r⟩:=h.2;exact ⟨n,hn,es,clock,(hb b rfl).trans hh,r⟩⟩
 lt:=fun h e=>by
  injection e with e
  subst e;obtain ⟨n,_,hm⟩:=h.2;exact ⟨h.1,hm.lt⟩ }
section
variable {P:Program} {w0 W:World} {F0:Nat→Prop} {Γ Γ1:List Res} {k e t:TypeId} {b:Nat} {l:List (Int × Int)}
section
variable {ops:Array Oper} {Q:Exit→Act→World→Prop} {a:Act} {rest:List Oper} {o:Oper} {mx kx vx:Operand}
end
end
attribute [irreducible] imap
end
section
open Go.RowKit
def hts (ns:List Int) (bs:List Block):Nat→List (Int × Int)
 | 0=>[(0,0)]
 | k+1=>(z10 ns k,(zx bs k).height)::hts ns bs k
theorem z0n6 {ns:List Int} {k:Nat} (hk:k<ns.length):ns.take (k+1)=ns.take k++[z10 ns k]:=by
 rw [z3h (zY03 hk)];simp [z10,zY03 hk]
theorem z0n7 {ns:List Int} {bs:List Block} {k:Nat} (ok:∀ j,j<k→z1r ns bs j (z10 ns j) (zx bs j)=0):z3k (hts ns bs k) 0=some 0:=by
 induction k with
 | zero=>rfl
 | succ k ih =>
  rw [hts,z3k,if_neg (by have:=(z8j (ok k (by omega))).1;omega)];exact ih fun j hj=>ok j (by omega)
theorem z0b0 {ns:List Int} {bs:List Block} {k:Nat} (ok:∀ j,j<k→z1r ns bs j (z10 ns j) (zx bs j)=0) (hk:k≤ns.length) {x:Int} (hx:x≠0) :
  z3k (hts ns bs k) x=if 0≤idx (ns.take k) x then some (zx bs (idx (ns.take k) x)).height else none:=by
 induction k with
 | zero =>
  rw [hts,z3k,if_neg hx,z3k,if_neg];simp [idx,z13]
 | succ k ih =>
  have hst:=(z8j (ok k (by omega))).2.2.1;have hlt:idx (ns.take k) (z10 ns k)<0:=by
   apply Classical.byContradiction;intro h;exact hst ((zav _ _).1 (by omega))
  have ihk:=ih (fun j hj=>ok j (by omega)) (by omega);rw [hts,z3k,z0n6 (by omega)]
  by_cases h:x=z10 ns k
  ·rw [if_pos h,h,z0sy hlt,if_pos (by omega)]
   congr 3;simp;omega
  ·rw [if_neg h,ihk]
   by_cases hi:0≤idx (ns.take k) x
   ·rw [if_pos hi,if_pos (zwk (List.prefix_append _ _) hi),zcn (List.prefix_append _ _) hi]
   ·rw [if_neg hi,if_neg]
    intro hc;have:=(zav _ _).1 hc;simp only [zY12,zY13] at this;rcases this with h1|h1
    ·exact hi ((zav _ _).2 h1)
    ·exact h h1
theorem z0f8 {ns:List Int} {bs:List Block} {k:Nat} (ok:∀ j,j<k→z1r ns bs j (z10 ns j) (zx bs j)=0) (hk:k≤ns.length) (b:Block) :
  z1t ns bs b k=match z3k (hts ns bs k) b.parent with|none=>5|some h=>if h+1≠b.height then 4 else 0:=by
 unfold z1t
 by_cases h0:b.parent=0
 ·rw [if_pos h0,h0,z0n7 ok]
  by_cases h1:b.height=1
  ·rw [if_neg (by simp [h1])]
   exact (if_neg (show ¬ ((0:Int)+1≠b.height) by omega)).symm
  ·rw [if_pos h1]
   exact (if_pos (show (0:Int)+1≠b.height by omega)).symm
 ·rw [if_neg h0,z0b0 ok hk h0]
  by_cases hi:0≤idx (ns.take k) b.parent
  ·rw [if_neg (by omega),if_pos hi]
   by_cases h1:b.height=(zx bs (idx (ns.take k) b.parent)).height+1
   ·rw [if_neg (by simp [h1])]
    exact (if_neg (show ¬ ((zx bs (idx (ns.take k) b.parent)).height+1≠b.height) by omega)).symm
   ·rw [if_pos h1]
    exact (if_pos (show (zx bs (idx (ns.take k) b.parent)).height+1≠b.height by omega)).symm
  ·rw [if_pos (by omega),if_neg hi]
theorem z0jc {ns:List Int} {bs:List Block} {k:Nat} (ok:∀ j,j<k→z1r ns bs j (z10 ns j) (zx bs j)=0) (hk:k≤ns.length) {n:Int} (hn:n≠0):(z3k (hts ns bs k) n).isSome=z1o (ns.take k) n:=by
 rw [z0b0 ok hk hn]
 by_cases hi:0≤idx (ns.take k) n
 ·rw [if_pos hi,(zh1 _ _).2 hi];rfl
 ·rw [if_neg hi]
  cases h:z1o (ns.take k) n with
  | false=>rfl
  | true=>exact absurd ((zh1 _ _).1 h) hi
end
end Go.Proofs.YtaddehddalnliaaGreatDoor
