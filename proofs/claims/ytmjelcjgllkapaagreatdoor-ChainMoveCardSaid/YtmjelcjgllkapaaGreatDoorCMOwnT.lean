/- Own texts, put together by wip/bundle.py: Map, RefTreeLaw. -/
import Derived.Maps.OwnOps
import Derived.Maps.Views
import Derived.Test.YtmjelcjgllkapaaGreatDoorCMOwnB
import Derived.Test.YtmjelcjgllkapaaGreatDoorCMOwnC
set_option linter.unusedVariables false
set_option linter.unusedSimpArgs false
set_option maxRecDepth 100000
set_option maxHeartbeats 8000000
namespace Go.Proofs.YtmjelcjgllkapaaGreatDoor
open Go.RowKit
def z42:List (Int×Int)->Int->Option Int
 | [],_=>none
 |(k,v)::l,x=>if x=k then some v else z42 l x
def setI:List (Int×Int)->DataW Unit
 | []=>.map []
 |(k,v)::l=>(setI l).put (.int .i64 k) (.lit (.int .i64 v))
def imap(P:Program)(k e:TypeId)(b:Nat)(l:List (Int×Int)):Res:={
 block:=some b
 holds h0 _ W:=h0<=b/\∃n,n<=l.length/\W.ownsMap P k (plainElem P e) b n (setI l)
 keep:=λha hF hb h=>⟨h.1,by obtain⟨n,hn,es,clock,hh,r⟩:=h.2;exact⟨n,hn,es,clock,(hb b rfl).trans hh,r⟩⟩
 lt:=λh e=>by injection e with e;subst e;obtain⟨n,_,hm⟩:=h.2;exact⟨h.1,hm.lt⟩ }
section
variable {P:Program} {w0 W:World} {F0:Nat->Prop} {Γ Γ1:List Res} {k e t:TypeId} {b:Nat} {l:List (Int×Int)}
section
variable {ops:Array Oper} {Q:Exit->Act->World->Prop} {a:Act} {rest:List Oper} {o:Oper} {mx kx vx:Operand}
end
end
attribute [irreducible] imap
def hts(ns:List Int)(bs:List Block):Nat->List (Int×Int)
 |0=>[(0,0)]
 |k+1=>(z17 ns k,(z00 bs k).height)::hts ns bs k
theorem z08r{ns:List Int}{k:Nat}(hk:k<ns.length):ns.take (k+1)=ns.take k++[z17 ns k]:=by rw[z3x (zY03 hk)];simp[z17,zY03 hk]
theorem z08s{ns:List Int}{bs:List Block}{k:Nat}(ok:∀j,j<k->z22 ns bs j (z17 ns j) (z00 bs j)=0):z42 (hts ns bs k) 0=some 0:=by
 induction k with
 |zero=>rfl
 |succ k ih =>rw[hts,z42,zN (by have:=(z9m (ok k zX0)).1;omega)];exact ih λj hj=>ok j zX0
theorem zyu{ns:List Int}{bs:List Block}{k:Nat}(ok:∀j,j<k->z22 ns bs j (z17 ns j) (z00 bs j)=0)(hk:k<=ns.length){x:Int}(hx:x≠0) :
  z42 (hts ns bs k) x=if 0<=idx (ns.take k) x then some (z00 bs (idx (ns.take k) x)).height else none:=by
 induction k with
 |zero =>rw[hts,z42,zN hx,z42,zN];simp[idx,z1a]
 |succ k ih =>
  have hst:=(z9m (ok k zX0)).2.2.1;have hlt:idx (ns.take k) (z17 ns k)<0:=by apply Classical.byContradiction;intro h;exact hst ((zbx _ _).1 zX0)
  have ihk:=ih (λj hj=>ok j zX0) zX0;rw[hts,z42,z08r zX0];by_cases h:x=z17 ns k
  ·rw[zP h,h,z0ei hlt,zP zX0];congr 3;simp;omega
  ·rw[zN h,ihk];by_cases hi:0<=idx (ns.take k) x
   ·rw[zP hi,zP (zup (List.prefix_append _ _) hi),zdr (List.prefix_append _ _) hi]
   ·rw[zN hi,zN];intro hc;have:=(zbx _ _).1 hc;simp only[zY13,zY12]at this;rcases this with h1|h1
    ·exact hi ((zbx _ _).2 h1)
    ·exact h h1
theorem z01f{ns:List Int}{bs:List Block}{k:Nat}(ok:∀j,j<k->z22 ns bs j (z17 ns j) (z00 bs j)=0)(hk:k<=ns.length)(b:Block) :
  z23 ns bs b k=match z42 (hts ns bs k) b.parent with|none=>5|some h=>if h+1≠b.height then 4 else 0:=by
 unfold z23;by_cases h0:b.parent=0
 ·rw[zP h0,h0,z08s ok];by_cases h1:b.height=1
  ·rw[zN (by simp[h1])];exact(zN (show ¬((0:Int)+1≠b.height)by omega)).symm
  ·rw[zP h1];exact(zP (show(0:Int)+1≠b.height by omega)).symm
 ·rw[zN h0,zyu ok hk h0];by_cases hi:0<=idx (ns.take k) b.parent
  ·rw[zN zX0,zP hi];by_cases h1:b.height=(z00 bs (idx (ns.take k) b.parent)).height+1
   ·rw[zN (by simp[h1])];exact(zN (show ¬((z00 bs (idx (ns.take k) b.parent)).height+1≠b.height)by omega)).symm
   ·rw[zP h1];exact(zP (show(z00 bs (idx (ns.take k) b.parent)).height+1≠b.height by omega)).symm
  ·rw[zP zX0,zN hi]
theorem z052{ns:List Int}{bs:List Block}{k:Nat}(ok:∀j,j<k->z22 ns bs j (z17 ns j) (z00 bs j)=0)(hk:k<=ns.length){n:Int}(hn:n≠0):(z42 (hts ns bs k) n).isSome=z15 (ns.take k) n:=by
 rw[zyu ok hk hn];by_cases hi:0<=idx (ns.take k) n
 ·rw[zP hi,(znl _ _).2 hi];rfl
 ·rw[zN hi];cases h:z15 (ns.take k) n with
  |false=>rfl
  |true=>exact absurd ((znl _ _).1 h) hi
end Go.Proofs.YtmjelcjgllkapaaGreatDoor
