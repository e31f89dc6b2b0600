/- Own texts, put together by wip/bundle.py: Base, Data, Own, Clones, Mk, Sep, Slices, Slices2, Book, Book2, Lock, Coin, Tx, Block, Draw, Draw2, Types, OwnSet, Row, Append, Row2, Concat, Book3, BookLaw, Tree, Tree2, TreeLaw, Reverse, Path, Path2, Fork, ForkLaw, Opens. -/
import Derived.WalkKit
import Derived.WalkLawsBesides
import Derived.BigQuiet
import Derived.Deep.QuietTactic
import Derived.Deep.DeepFit
import Derived.Deep.LoopGhost
import Derived.Lib.Hide
import Derived.Test.YtnklncinjahckaaDoorProg
import Derived.Maps.AppendAt
import Derived.Lib.SliceRun
import Derived.Deep.MidRow
import Derived.Great.BuildSlice
import Derived.OwnWalk
import Derived.BigFrame
import Derived.Maps.OwnOps
import Derived.Maps.Views
import Derived.Deep.Quiet
import Derived.OrdersHeld
import Derived.KernelRfl
import Derived.Lib.AppendZerosOnto
import Derived.Test.YtnklncinjahckaaDoorShelf
import Derived.ProofKit
import Derived.Deep.Slices
set_option linter.unusedVariables false
set_option linter.unusedSimpArgs false
namespace Go.Proofs.YtnklncinjahckaaDoor
section
open Go.RowKit
theorem z08 {k:IntKind} {a b:Int} (h:a=b):Ending.returned (.int k a) = .returned (.int k b):=by rw [h]
theorem z3y {a b:Bool} (h:a=b):Ending.returned (.bool a) = .returned (.bool b):=by rw [h]
theorem z7y {k l:IntKind} {a b c d:Int} (h:a=b) (h':c=d):Ending.returned (.tuple #[.int k a,.int l c]) = .returned (.tuple #[.int k b,.int l d]):=by rw [h,h']
def Lt (B:Nat):Nat→Prop:=fun b=>b<B
def Agree (F:Nat→Prop) (w w':World):Prop:=∀ b,F b→w'.heap[b]? = w.heap[b]?
theorem Agree.cell {F:Nat→Prop} {w w':World} (h:Agree F w w') {p:Addr} (hp:F p.block):w'.cell? p=w.cell? p:=World.cell?_of_block (w:=w) (h p.block hp)
theorem Agree.below {B:Nat} {w w':World} (h:Below B w w'):Agree (Lt B) w w':=fun b hb=>h.block b hb
theorem Agree.mono {F F':Nat→Prop} {w w':World} (h:Agree F w w') (hF:∀ b,F' b→F b):Agree F' w w':=fun b hb=>h b (hF b hb)
theorem Agree.trans {F:Nat→Prop} {w w' w'':World} (h:Agree F w w') (h':Agree F w' w''):Agree F w w'':=fun b hb=>(h' b hb).trans (h b hb)
structure Sh (α:Type) where
 size:Nat
 rep:World→(Nat→Prop)→α→List Value→Prop
 len:∀ {w F x cs},rep w F x cs→cs.length=size
 keep:∀ {w w':World} {F x cs},Agree F w w'→rep w F x cs→rep w' F x cs
 more:∀ {w F F' x cs},(∀ b,F b→F' b)→rep w F x cs→rep w F' x cs
def Rds {α:Type} (S:Sh α) (w:World) (F:Nat→Prop) (xs:List α) (A:Option Addr) (n c:Nat):Prop :=
 xs.length=n∧n≤c∧c≤9223372036854775807∧(0<n→∃ b off,A=some ⟨b,off,none⟩∧F b ∧
  ∀ i (hi:i<xs.length),∃ cs,S.rep w F xs[i] cs∧∀ j v,cs[j]? = some v→w.cell? ⟨b,off+i * S.size+j,none⟩=some v)
theorem Rds.keep {α:Type} {S:Sh α} {w w':World} {F:Nat→Prop} {xs:List α} {A:Option Addr} {n c:Nat} (ha:Agree F w w') (h:Rds S w F xs A n c):Rds S w' F xs A n c :=
 ⟨h.1,h.2.1,h.2.2.1,fun hn=>by
  obtain ⟨b,off,e,hF,hc⟩:=h.2.2.2 hn
  refine ⟨b,off,e,hF,fun i hi=>?_⟩
  obtain ⟨cs,hr,hv⟩:=hc i hi
  exact ⟨cs,S.keep ha hr,fun j v hj=>(ha.cell (p:=⟨b,_,none⟩) hF).trans (hv j v hj)⟩⟩
theorem Rds.more {α:Type} {S:Sh α} {w:World} {F F':Nat→Prop} {xs:List α} {A:Option Addr} {n c:Nat} (hF':∀ b,F b→F' b) (h:Rds S w F xs A n c):Rds S w F' xs A n c :=
 ⟨h.1,h.2.1,h.2.2.1,fun hn=>by
  obtain ⟨b,off,e,hF,hc⟩:=h.2.2.2 hn
  refine ⟨b,off,e,hF' b hF,fun i hi=>?_⟩
  obtain ⟨cs,hr,hv⟩:=hc i hi
  exact ⟨cs,S.more hF' hr,hv⟩⟩
theorem Rds.take {α:Type} {S:Sh α} {w:World} {F:Nat→Prop} {xs:List α} {A:Option Addr} {n c k:Nat} (h:Rds S w F xs A n c) (hk:k≤n):Rds S w F (xs.take k) A k c:=by
 obtain ⟨h1,h2,h3,h4⟩:=h
 refine ⟨by rw [List.length_take,h1];omega,by omega,h3,fun hn=>?_⟩
 obtain ⟨b,off,e,hF,hc⟩:=h4 (by omega)
 refine ⟨b,off,e,hF,fun i hi=>?_⟩
 rw [List.length_take] at hi
 obtain ⟨cs,hr,hv⟩:=hc i (by omega)
 exact ⟨cs,by rw [List.getElem_take];exact hr,hv⟩
theorem Rds.nil {α:Type} (S:Sh α) (w:World) (F:Nat→Prop):Rds S w F [] none 0 0:=⟨rfl,by omega,by omega,fun h=>by omega⟩
theorem Rds.at_ {α:Type} {S:Sh α} {w:World} {F:Nat→Prop} {xs:List α} {A:Option Addr} {n c k:Nat} (h:Rds S w F xs A n c) (hk:k<n) :
  ∃ b off x cs,A=some ⟨b,off,none⟩∧F b∧xs[k]? = some x∧S.rep w F x cs∧∀ j v,cs[j]? = some v→w.cell? ⟨b,off+k * S.size+j,none⟩=some v:=by
 obtain ⟨b,off,e,hF,hc⟩:=h.2.2.2 (by omega)
 have hl:k<xs.length:=by have:=h.1;omega
 obtain ⟨cs,hr,hv⟩:=hc k hl
 exact ⟨b,off,xs[k],cs,e,hF,List.getElem?_eq_getElem hl,hr,hv⟩
def z04 {α:Type} (S:Sh α):Sh (List α):={
 size:=1
 rep w F xs cs:=∃ A n c,cs=[.slice A n c]∧Rds S w F xs A n c
 len:=by rintro w F x cs ⟨A,n,c,rfl,_⟩;rfl
 keep:=by rintro w w' F x cs ha ⟨A,n,c,rfl,h⟩;exact ⟨A,n,c,rfl,h.keep ha⟩
 more:=by rintro w F F' x cs hF ⟨A,n,c,rfl,h⟩;exact ⟨A,n,c,rfl,h.more hF⟩ }
def I64 (n:Int):Prop:=-9223372036854775808≤n∧n≤9223372036854775807
def shInt:Sh Int:={
 size:=1
 rep _ _ n cs:=cs=[.int .i64 n] ∧ -9223372036854775808≤n∧n≤9223372036854775807
 len:=by rintro w F x cs ⟨rfl,_⟩;rfl
 keep:=fun _ h=>h
 more:=fun _ h=>h }
def shBool:Sh Bool:={
 size:=1
 rep _ _ b cs:=cs=[.bool b]
 len:=by rintro w F x cs rfl;rfl
 keep:=fun _ h=>h
 more:=fun _ h=>h }
def shStr:Sh (List UInt8):={
 size:=1
 rep _ _ s cs:=cs=[.string ⟨s.toArray⟩]∧s.length≤9223372036854775807
 len:=by rintro w F x cs ⟨rfl,_⟩;rfl
 keep:=fun _ h=>h
 more:=fun _ h=>h }
theorem Rds.int {w:World} {F:Nat→Prop} {xs:List Int} {A:Option Addr} {n c k:Nat} (h:Rds shInt w F xs A n c) (hk:k<n) :
  ∃ b off x,A=some ⟨b,off,none⟩∧F b∧xs[k]? = some x∧w.cell? ⟨b,off+k,none⟩=some (.int .i64 x) ∧ -9223372036854775808≤x∧x≤9223372036854775807:=by
 obtain ⟨b,off,x,cs,e,hF,hx,⟨rfl,h1,h2⟩,hc⟩:=h.at_ hk
 exact ⟨b,off,x,e,hF,hx,by simpa [shInt] using hc 0 _ rfl,h1,h2⟩
theorem Rds.str {w:World} {F:Nat→Prop} {xs:List (List UInt8)} {A:Option Addr} {n c k:Nat} (h:Rds shStr w F xs A n c) (hk:k<n) :
  ∃ b off x,A=some ⟨b,off,none⟩∧F b∧xs[k]? = some x∧w.cell? ⟨b,off+k,none⟩=some (.string ⟨x.toArray⟩)∧x.length≤9223372036854775807:=by
 obtain ⟨b,off,x,cs,e,hF,hx,⟨rfl,h1⟩,hc⟩:=h.at_ hk
 exact ⟨b,off,x,e,hF,hx,by simpa [shStr] using hc 0 _ rfl,h1⟩
theorem Rds.of_own_int {w:World} {base e n:Nat} {v:Value} {xs:List Int} (h:w.ownsRow base e 1 v n (xs.map (Value.int .i64))) (hb:∀ x ∈ xs,-9223372036854775808≤x∧x≤9223372036854775807) :
  ∃ A c,v = .slice A n c∧Rds shInt w (fun b=>base≤b∧b<w.heap.size) xs A n c:=by
 obtain ⟨hl,h2⟩:=h
 simp at hl
 rcases h2 with ⟨rfl,rfl⟩|⟨g,cap,cur,rfl,hg,hh,hnc,hcm,hcs,ht⟩
 ·refine ⟨none,0,rfl,?_⟩
  obtain rfl:xs=[]:=List.eq_nil_of_length_eq_zero hl
  exact Rds.nil _ _ _
 ·refine ⟨_,cap,rfl,hl,hnc,by unfold maxLen at hcm;omega,fun hn=>⟨g,0,rfl,⟨hg,?_⟩,fun i hi=>⟨_,⟨rfl,hb _ (List.getElem_mem hi)⟩,?_⟩⟩⟩
  ·rcases Nat.lt_or_ge g w.heap.size with h|h
   ·exact h
   ·rw [Array.getElem?_eq_none h] at hh;cases hh
  ·intro j v hj
   match j,hj with
   | 0,hj =>
    simp at hj
    subst hj
    have e1:(cur.toList.take (n * 1))[i]? = some (.int .i64 xs[i]):=by rw [ht];simp [hi]
    rw [List.getElem?_take] at e1
    split at e1
    ·rw [cell_of_row w g _ cur _ (0,0) hh];simpa [shInt] using e1
    ·cases e1
theorem zcz {B:Nat} {a w:World} (h:Below B a w) (n:Nat):Below B a (w.drewN n):=⟨h.os,h.tape,h.output,h.size,h.block⟩
theorem z38 {α:Type} {l:List α} {k:Nat} {x:α} (h:l[k]? = some x):l.drop k=x::l.drop (k+1):=by
 obtain ⟨hk,e⟩:=List.getElem?_eq_some_iff.1 h
 rw [List.drop_eq_getElem_cons hk,e]
theorem z39 {α:Type} {l:List α} {k:Nat} {x:α} (h:l[k]? = some x):l.take (k+1)=l.take k++[x]:=by
 rw [List.take_add_one,h];rfl
end
section
open Go.RowKit
def z2g {α β τ:Type} (S0:Sh α) (S1:Sh β) (f:α→β→τ):Sh τ:={
 size:=S0.size+S1.size
 rep w F x cs:=∃ a b ca cb,x=f a b∧cs=ca++cb∧S0.rep w F a ca∧S1.rep w F b cb
 len:=by rintro w F x cs ⟨a,b,ca,cb,rfl,rfl,ha,hb⟩;simp [S0.len ha,S1.len hb]
 keep:=by rintro w w' F x cs hk ⟨a,b,ca,cb,e,e',ha,hb⟩;exact ⟨a,b,ca,cb,e,e',S0.keep hk ha,S1.keep hk hb⟩
 more:=by rintro w F F' x cs hk ⟨a,b,ca,cb,e,e',ha,hb⟩;exact ⟨a,b,ca,cb,e,e',S0.more hk ha,S1.more hk hb⟩ }
def zty {α τ:Type} (S0:Sh α) (f:α→τ):Sh τ:={
 size:=S0.size
 rep w F x cs:=∃ a,x=f a∧S0.rep w F a cs
 len:=by rintro w F x cs ⟨a,rfl,ha⟩;exact S0.len ha
 keep:=by rintro w w' F x cs hk ⟨a,e,ha⟩;exact ⟨a,e,S0.keep hk ha⟩
 more:=by rintro w F F' x cs hk ⟨a,e,ha⟩;exact ⟨a,e,S0.more hk ha⟩ }
def zdp {α β γ τ:Type} (S0:Sh α) (S1:Sh β) (S2:Sh γ) (f:α→β→γ→τ):Sh τ:=z2g S0 (z2g S1 S2 Prod.mk) (fun a p=>f a p.1 p.2)
def zym {α β γ δ τ:Type} (S0:Sh α) (S1:Sh β) (S2:Sh γ) (S3:Sh δ) (f:α→β→γ→δ→τ):Sh τ:=z2g S0 (zdp S1 S2 S3 fun a b c=>(a,b,c)) (fun a p=>f a p.1 p.2.1 p.2.2)
def shS5 {α β γ δ ε τ:Type} (S0:Sh α) (S1:Sh β) (S2:Sh γ) (S3:Sh δ) (S4:Sh ε) (f:α→β→γ→δ→ε→τ):Sh τ:=z2g S0 (zym S1 S2 S3 S4 fun a b c d=>(a,b,c,d)) (fun a p=>f a p.1 p.2.1 p.2.2.1 p.2.2.2)
structure Op where (kind n:Int) deriving DecidableEq,Repr
structure Point where (tx at_:Int) deriving DecidableEq,Repr
structure In where (p:Point) (key:List Op) deriving DecidableEq,Repr
structure Out where (coin:Int) (lock:List Op) deriving DecidableEq,Repr
structure Tx where (height:Int) (ins:List In) (outs:List Out) deriving DecidableEq,Repr
structure Book where (texts:List (List UInt8)) deriving DecidableEq,Repr
structure Coin where (p:Point) (o:Out) (height:Int) (reward:Bool) deriving DecidableEq,Repr
structure Undo where (spent:List Coin) deriving DecidableEq,Repr
structure Block where (parent height work nonce:Int) (txs:List Tx) deriving DecidableEq,Repr
structure Tree where (names:List Int) (blocks:List Block) deriving DecidableEq,Repr
structure Message where (kind src to name:Int) (b:Block) (t:Tx) deriving DecidableEq,Repr
structure Node where (t:Tree) (pool:List Tx) (tip:Int) deriving DecidableEq,Repr
structure Wld where (book:Book) (nodes:List Node) (net:List Message) deriving DecidableEq,Repr
structure Happening where (kind node to k work n:Int) (t:Tx) deriving DecidableEq,Repr
def shOp:Sh Op:=z2g shInt shInt Op.mk
def shPoint:Sh Point:=z2g shInt shInt Point.mk
def shIn:Sh In:=z2g shPoint (z04 shOp) In.mk
def shOut:Sh Out:=z2g shInt (z04 shOp) Out.mk
def shTx:Sh Tx:=zdp shInt (z04 shIn) (z04 shOut) Tx.mk
def shBook:Sh Book:=zty (z04 shStr) Book.mk
def shCoin:Sh Coin:=zym shPoint shOut shInt shBool Coin.mk
def shUndo:Sh Undo:=zty (z04 shCoin) Undo.mk
def shBlock:Sh Block:=shS5 shInt shInt shInt shInt (z04 shTx) Block.mk
def shTree:Sh Tree:=z2g (z04 shInt) (z04 shBlock) Tree.mk
def shNode:Sh Node:=zdp shTree (z04 shTx) shInt Node.mk
theorem zw0 {w:World} {F:Nat→Prop} {x:Op} {cs:List Value} (h:shOp.rep w F x cs) :
  cs=[.int .i64 x.kind,.int .i64 x.n]∧I64 x.kind∧I64 x.n:=by
 obtain ⟨a,b,ca,cb,rfl,rfl,⟨rfl,h1⟩,rfl,h2⟩:=h
 exact ⟨rfl,h1,h2⟩
theorem zbe {w:World} {F:Nat→Prop} {x:Point} {cs:List Value} (h:shPoint.rep w F x cs) :
  cs=[.int .i64 x.tx,.int .i64 x.at_]∧I64 x.tx∧I64 x.at_:=by
 obtain ⟨a,b,ca,cb,rfl,rfl,⟨rfl,h1⟩,rfl,h2⟩:=h
 exact ⟨rfl,h1,h2⟩
theorem zl3 {w:World} {F:Nat→Prop} {x:In} {cs:List Value} (h:shIn.rep w F x cs) :
  ∃ A n c,cs=[.int .i64 x.p.tx,.int .i64 x.p.at_,.slice A n c]∧I64 x.p.tx∧I64 x.p.at_∧Rds shOp w F x.key A n c:=by
 obtain ⟨a,b,ca,cb,rfl,rfl,ha,A,n,c,rfl,hr⟩:=h
 obtain ⟨rfl,h1,h2⟩:=zbe ha
 exact ⟨A,n,c,rfl,h1,h2,hr⟩
theorem zcj {w:World} {F:Nat→Prop} {x:Out} {cs:List Value} (h:shOut.rep w F x cs) :
  ∃ A n c,cs=[.int .i64 x.coin,.slice A n c]∧I64 x.coin∧Rds shOp w F x.lock A n c:=by
 obtain ⟨a,b,ca,cb,rfl,rfl,⟨rfl,h1⟩,A,n,c,rfl,hr⟩:=h
 exact ⟨A,n,c,rfl,h1,hr⟩
theorem zl4 {w:World} {F:Nat→Prop} {x:Tx} {cs:List Value} (h:shTx.rep w F x cs) :
  ∃ A n c A' n' c',cs=[.int .i64 x.height,.slice A n c,.slice A' n' c']∧I64 x.height∧Rds shIn w F x.ins A n c∧Rds shOut w F x.outs A' n' c':=by
 obtain ⟨a,b,ca,cb,rfl,rfl,⟨rfl,h1⟩,a1,b1,ca1,cb1,rfl,rfl,⟨A,n,c,rfl,hr⟩,A',n',c',rfl,hr'⟩:=h
 exact ⟨A,n,c,A',n',c',rfl,h1,hr,hr'⟩
theorem zdq {w:World} {F:Nat→Prop} {x:Book} {cs:List Value} (h:shBook.rep w F x cs) :
  ∃ A n c,cs=[.slice A n c]∧Rds shStr w F x.texts A n c:=by
 obtain ⟨a,rfl,A,n,c,rfl,hr⟩:=h
 exact ⟨A,n,c,rfl,hr⟩
theorem zyn {w:World} {F:Nat→Prop} {x:Coin} {cs:List Value} (h:shCoin.rep w F x cs) :
  ∃ A n c,cs=[.int .i64 x.p.tx,.int .i64 x.p.at_,.int .i64 x.o.coin,.slice A n c,.int .i64 x.height,.bool x.reward]∧I64 x.p.tx∧I64 x.p.at_∧I64 x.o.coin∧I64 x.height∧Rds shOp w F x.o.lock A n c:=by
 obtain ⟨a,b,ca,cb,rfl,rfl,ha,a1,b1,ca1,cb1,rfl,rfl,hb,a2,b2,ca2,cb2,rfl,rfl,⟨rfl,h3⟩,rfl⟩:=h
 obtain ⟨rfl,h1,h2⟩:=zbe ha
 obtain ⟨A,n,c,rfl,h4,hr⟩:=zcj hb
 exact ⟨A,n,c,rfl,h1,h2,h4,h3,hr⟩
theorem zyo {w:World} {F:Nat→Prop} {x:Undo} {cs:List Value} (h:shUndo.rep w F x cs) :
  ∃ A n c,cs=[.slice A n c]∧Rds shCoin w F x.spent A n c:=by
 obtain ⟨a,rfl,A,n,c,rfl,hr⟩:=h
 exact ⟨A,n,c,rfl,hr⟩
theorem zi0 {w:World} {F:Nat→Prop} {x:Block} {cs:List Value} (h:shBlock.rep w F x cs) :
  ∃ A n c,cs=[.int .i64 x.parent,.int .i64 x.height,.int .i64 x.work,.int .i64 x.nonce,.slice A n c]∧I64 x.parent∧I64 x.height∧I64 x.work∧I64 x.nonce∧Rds shTx w F x.txs A n c:=by
 obtain ⟨a,b,ca,cb,rfl,rfl,⟨rfl,h1⟩,a1,b1,ca1,cb1,rfl,rfl,⟨rfl,h2⟩,a2,b2,ca2,cb2,rfl,rfl,⟨rfl,h3⟩,a3,b3,ca3,cb3,rfl,rfl,⟨rfl,h4⟩,A,n,c,rfl,hr⟩:=h
 exact ⟨A,n,c,rfl,h1,h2,h3,h4,hr⟩
theorem zl5 {w:World} {F:Nat→Prop} {x:Tree} {cs:List Value} (h:shTree.rep w F x cs) :
  ∃ A n c A' n' c',cs=[.slice A n c,.slice A' n' c']∧Rds shInt w F x.names A n c∧Rds shBlock w F x.blocks A' n' c':=by
 obtain ⟨a,b,ca,cb,rfl,rfl,⟨A,n,c,rfl,hr⟩,A',n',c',rfl,hr'⟩:=h
 exact ⟨A,n,c,A',n',c',rfl,hr,hr'⟩
theorem zyp {w:World} {F:Nat→Prop} {x:Node} {cs:List Value} (h:shNode.rep w F x cs) :
  ∃ A n c A' n' c' A2 n2 c2,cs=[.slice A n c,.slice A' n' c',.slice A2 n2 c2,.int .i64 x.tip]∧Rds shInt w F x.t.names A n c∧Rds shBlock w F x.t.blocks A' n' c'∧Rds shTx w F x.pool A2 n2 c2∧I64 x.tip:=by
 obtain ⟨a,b,ca,cb,rfl,rfl,ha,a1,b1,ca1,cb1,rfl,rfl,⟨A2,n2,c2,rfl,h2⟩,rfl,h3⟩:=h
 obtain ⟨A,n,c,A',n',c',rfl,hr,hr'⟩:=zl5 ha
 exact ⟨A,n,c,A',n',c',A2,n2,c2,rfl,hr,hr',h2,h3⟩
end
section
open Go.RowKit
def flat {α:Type} (zs:List (α × List Value)):List Value:=(zs.map (·.2)).flatten
theorem zbg {α:Type} (z:α × List Value) (zs:List (α × List Value)):flat (z::zs)=z.2++flat zs:=by simp [flat]
theorem zd6 {α:Type} (zs ys:List (α × List Value)):flat (zs++ys)=flat zs++flat ys:=by simp [flat]
theorem z2b {α:Type} {s:Nat} {zs:List (α × List Value)} (h:∀ z ∈ zs,z.2.length=s):(flat zs).length=zs.length * s:=by
 induction zs with
 | nil=>simp [flat]
 | cons z zs ih =>
  rw [zbg,List.length_append,ih (fun y hy=>h y (by simp [hy])),h z (by simp),List.length_cons,Nat.succ_mul]
  omega
theorem zgf {α:Type} {s:Nat} {zs:List (α × List Value)} (h:∀ z ∈ zs,z.2.length=s) {i:Nat} {z:α × List Value} (hi:zs[i]? = some z) {j:Nat} (hj:j<s):(flat zs)[i * s+j]? = z.2[j]?:=by
 induction zs generalizing i with
 | nil=>simp at hi
 | cons y zs ih =>
  have hy:=h y (by simp)
  rw [zbg]
  cases i with
  | zero =>
   simp at hi
   subst hi
   rw [Nat.zero_mul,Nat.zero_add,List.getElem?_append_left (by omega)]
  | succ i =>
   simp at hi
   rw [List.getElem?_append_right (by rw [hy,Nat.succ_mul];omega),hy,show (i+1) * s+j - s=i * s+j by rw [Nat.succ_mul];omega]
   exact ih (fun z hz=>h z (by simp [hz])) hi
theorem Rds.pairs {α:Type} {S:Sh α} {w:World} {F:Nat→Prop} {xs:List α} {A:Option Addr} {n c:Nat} (h:Rds S w F xs A n c) :
  ∃ zs:List (α × List Value),zs.map (·.1)=xs∧(∀ z ∈ zs,S.rep w F z.1 z.2)∧(0<n→∃ b off,A=some ⟨b,off,none⟩∧F b∧∀ j v,(flat zs)[j]? = some v→w.cell? ⟨b,off+j,none⟩=some v):=by
 obtain ⟨h1,h2,h3,h4⟩:=h
 rcases Nat.eq_zero_or_pos n with h0|h0
 ·have:xs=[]:=List.eq_nil_of_length_eq_zero (by omega)
  subst this
  exact ⟨[],rfl,by simp,fun h=>by omega⟩
 ·obtain ⟨b,off,e,hF,hc⟩:=h4 h0
  have key:∀ m,m≤xs.length→∃ zs:List (α × List Value),zs.map (·.1)=xs.take m∧(∀ z ∈ zs,S.rep w F z.1 z.2)∧∀ j v,(flat zs)[j]? = some v→w.cell? ⟨b,off+j,none⟩=some v:=by
   intro m
   induction m with
   | zero=>intro _;exact ⟨[],by simp,by simp,by simp [flat]⟩
   | succ m ih =>
    intro hm
    obtain ⟨zs,z1,z2,z3⟩:=ih (by omega)
    obtain ⟨cs,hr,hv⟩:=hc m (by omega)
    have hl:∀ z ∈ zs,z.2.length=S.size:=fun z hz=>S.len (z2 z hz)
    have hzl:zs.length=m:=by have:=congrArg List.length z1;simp at this;omega
    refine ⟨zs++[(xs[m],cs)],?_,?_,?_⟩
    ·rw [z39 (List.getElem?_eq_getElem (by omega)),List.map_append,z1];rfl
    ·intro z hz
     rcases List.mem_append.1 hz with h|h
     ·exact z2 z h
     ·simp at h;subst h;exact hr
    ·intro j v hj
     rw [zd6] at hj
     by_cases hjl:j<(flat zs).length
     ·rw [List.getElem?_append_left hjl] at hj;exact z3 j v hj
     ·rw [List.getElem?_append_right (by omega)] at hj
      have e2:flat [(xs[m],cs)]=cs:=by simp [flat]
      rw [e2] at hj
      have:=hv _ v hj
      rw [z2b hl,hzl] at hjl this
      rw [show off+m * S.size+(j - m * S.size)=off+j by omega] at this
      exact this
  obtain ⟨zs,z1,z2,z3⟩:=key xs.length (Nat.le_refl _)
  exact ⟨zs,by rw [z1,List.take_length],z2,fun _=>⟨b,off,e,hF,z3⟩⟩
theorem Rds.of_own {α:Type} {S:Sh α} {w:World} {F:Nat→Prop} {base e n:Nat} {v:Value} {zs:List (α × List Value)} (h:w.ownsRow base e S.size v n (flat zs)) (hn:zs.length=n)
  (hz:∀ z ∈ zs,S.rep w F z.1 z.2) (hF:∀ g,base≤g→g<w.heap.size→F g):∃ A c,v = .slice A n c∧Rds S w F (zs.map (·.1)) A n c:=by
 obtain ⟨hl,h2⟩:=h
 rcases h2 with ⟨rfl,rfl⟩|⟨g,cap,cur,rfl,hg,hh,hnc,hcm,hcs,ht⟩
 ·have:zs=[]:=List.eq_nil_of_length_eq_zero hn
  subst this
  exact ⟨none,0,rfl,Rds.nil _ _ _⟩
 ·have hlt:g<w.heap.size:=by
   rcases Nat.lt_or_ge g w.heap.size with h|h
   ·exact h
   ·rw [Array.getElem?_eq_none h] at hh;cases hh
  refine ⟨_,cap,rfl,by simpa using hn,hnc,by unfold maxLen at hcm;omega,fun _=>⟨g,0,rfl,hF g hg hlt,fun i hi=>?_⟩⟩
  have hi':i<zs.length:=by simpa using hi
  refine ⟨zs[i].2,by simpa using hz _ (List.getElem_mem hi'),fun j u hj=>?_⟩
  have hjl:j<S.size:=by
   have:=S.len (hz _ (List.getElem_mem hi'))
   have:=(List.getElem?_eq_some_iff.1 hj).1
   omega
  have e1:=zgf (fun z hz'=>S.len (hz z hz')) (List.getElem?_eq_getElem hi') hjl
  rw [hj,← ht,List.getElem?_take] at e1
  split at e1
  ·rw [cell_of_row w g _ cur _ (0,0) hh,Nat.zero_add];simpa using e1
  ·cases e1
theorem zl9 {w:World} {base e size n k:Nat} {v:Value} {xs:List Value} (h:w.ownsRow base e size v n xs) (hk:v.ownBlock=some k):base≤k:=by
 rcases h.2 with ⟨rfl,_⟩|⟨g,cap,cur,rfl,hg,_⟩
 ·cases hk
 ·have:g=k:=by simpa [Value.ownBlock] using hk
  omega
theorem Rds.of_block {α:Type} {S:Sh α} {w:World} {F:Nat→Prop} {g e cap:Nat} {cur:Array Value} {z:Nat × Nat} {zs:List (α × List Value)} (hh:w.heap[g]? = some (.cells cur e z)) (hc:cur.toList=flat zs)
  (hz:∀ z ∈ zs,S.rep w F z.1 z.2) (hF:F g) (hcap:zs.length≤cap) (hm:cap≤9223372036854775807):Rds S w F (zs.map (·.1)) (some ⟨g,0,none⟩) zs.length cap:=by
 refine ⟨by simp,hcap,hm,fun _=>⟨g,0,rfl,hF,fun i hi=>?_⟩⟩
 have hi':i<zs.length:=by simpa using hi
 refine ⟨zs[i].2,by simpa using hz _ (List.getElem_mem hi'),fun j u hj=>?_⟩
 have hjl:j<S.size:=by
  have:=S.len (hz _ (List.getElem_mem hi'))
  have:=(List.getElem?_eq_some_iff.1 hj).1
  omega
 have e1:=zgf (fun z hz'=>S.len (hz z hz')) (List.getElem?_eq_getElem hi') hjl
 rw [hj,← hc] at e1
 rw [cell_of_row w g _ cur _ z hh,Nat.zero_add]
 simpa using e1
theorem z9n {w:World} {g:Nat} {x:Obj} (h:w.heap[g]? = some x):g<w.heap.size:=by
 rcases Nat.lt_or_ge g w.heap.size with h'|h'
 ·exact h'
 ·rw [Array.getElem?_eq_none h'] at h;cases h
theorem z3c {w w':World} {B g:Nat} {x:Obj} (h:w.heap[g]? = some x) (hb:Below B w w') (hg:g<B):w'.heap[g]? = some x:=(hb.block g hg).trans h
theorem z2h {w:World} {g i t:Nat} {cs:Array Value} (h:w.heap[g]? = some (.cells cs t (0,0))):w.cell? ⟨g,i,none⟩=cs[i]?:=cell_of_row w g i cs t (0,0) h
theorem zla {w:World} {g i t:Nat} {cs:Array Value} (h:w.heap[g]? = some (.cells cs t (0,0))):w.frozen? ⟨g,i,none⟩=false:=frozen_of_row w g i cs t h
theorem zsu {w:World} {g i t:Nat} {cs:Array Value} {u:Value} (h:w.heap[g]? = some (.cells cs t (0,0))):(w.setCell ⟨g,i,none⟩ u).heap[g]? = some (.cells (cs.setIfInBounds i u) t (0,0)):=by simp [World.setCell,Array.getElem?_modify,h]
def z96 (cs:List Value):Prop:=∀ u ∈ cs,u.oneCell'=true
def Sh.ones {α:Type} (S:Sh α):Prop:=∀ {w F x cs},S.rep w F x cs→z96 cs
theorem z6r {α:Type} {S:Sh α} (hS:S.ones) {w:World} {F:Nat→Prop} {zs:List (α × List Value)} (hz:∀ z ∈ zs,S.rep w F z.1 z.2):z96 (flat zs):=by
 intro u hu
 simp only [flat,List.mem_flatten,List.mem_map] at hu
 obtain ⟨l,⟨z,hz',rfl⟩,hu⟩:=hu
 exact hS (hz z hz') u hu
theorem z65:shInt.ones:=by rintro w F x cs ⟨rfl,_⟩ u hu;simp at hu;subst hu;rfl
theorem zw4:shBool.ones:=by rintro w F x cs rfl u hu;simp at hu;subst hu;rfl
theorem zyr:shStr.ones:=by rintro w F x cs ⟨rfl,_⟩ u hu;simp at hu;subst hu;rfl
theorem zf7 {α:Type} (S:Sh α):(z04 S).ones:=by rintro w F x cs ⟨A,n,c,rfl,_⟩ u hu;simp at hu;subst hu;rfl
theorem z66 {α β τ:Type} {S0:Sh α} {S1:Sh β} {f:α→β→τ} (h0:S0.ones) (h1:S1.ones):(z2g S0 S1 f).ones:=by
 rintro w F x cs ⟨a,b,ca,cb,rfl,rfl,ha,hb⟩ u hu
 rcases List.mem_append.1 hu with h|h
 ·exact h0 ha u h
 ·exact h1 hb u h
theorem z019:shOp.ones:=z66 z65 z65
theorem zf8:shPoint.ones:=z66 z65 z65
theorem z01a:shIn.ones:=z66 zf8 (zf7 _)
theorem zlb:shOut.ones:=z66 z65 (zf7 _)
theorem zw5:shCoin.ones:=z66 zf8 (z66 zlb (z66 z65 zw4))
end
section
open Go.RowKit
set_option maxRecDepth 100000
theorem z3k (b off k:Nat):(Addr.mk b off none).add k=⟨b,off+k,none⟩:=by unfold Addr.add;split <;> simp_all
theorem z3l (w:World) (e s:Nat):(w.alloc (.cells #[] e)).ownsRow w.heap.size e s (.slice (some ⟨w.heap.size,0,none⟩) 0 0) 0 [] :=
 ⟨by simp,.inr ⟨w.heap.size,0,#[],rfl,Nat.le_refl _,heap_alloc_new w _,Nat.le_refl _,by unfold maxLen;omega,by simp,by simp⟩⟩
def z8f {α:Type} (S:Sh α) (e:Nat) (w:World) (F:Nat→Prop) (xs:List α) (n:Nat) (r:Ending) (w':World):Prop :=
 ∃ (v:Value) (zs:List (α × List Value)),r = .returned v∧zs.map (·.1)=xs∧(∀ z ∈ zs,S.rep w F z.1 z.2)∧w'.ownsRow w.heap.size e S.size v n (flat zs)∧Below w.heap.size w w'
theorem zbh (xs:List (List UInt8)) (A:Option Addr) (n c:Nat) (w:World) (F:Nat→Prop) (h:Rds shStr w F xs A n c) (hF:∀ b,F b→b<w.heap.size) (hn:n * 16≤140737488355328) :
  Calls Tryd.prog 20 #[.slice A n c] w (z8f shStr 9 w F xs n):=by
 have hq:=fun (W:World)=>Lib.run_eql_slice_nil (P:=Tryd.prog) W 22 9 A n c 0 0 Tryd.underlying22
 cases A with
 | none =>
  have h0:n=0:=by
   rcases Nat.eq_zero_or_pos n with h0|h0
   ·exact h0
   ·obtain ⟨b,off,e,_⟩:=h.2.2.2 h0;cases e
  subst h0
  have hx:xs=[]:=List.eq_nil_of_length_eq_zero h.1
  subst hx
  go_enter Tryd.func20,Tryd.ntmps20
  go_wp2
  go_ret
  exact ⟨_,[],rfl,rfl,by simp,World.ownsRow_nil _ _ _ _,Below.refl _ _⟩
 | some ad =>
  obtain ⟨zs,z1,z2,z3⟩:=h.pairs
  have hl:zs.length=n:=by have:=congrArg List.length z1;simp at this;have:=h.1;omega
  have hfl:(flat zs).length=n * 1:=by rw [z2b (fun z hz=>shStr.len (z2 z hz)),hl];rfl
  have hnews:∀ j u,(flat zs)[j]? = some u→(w.alloc (.cells #[] 9)).cell? (ad.add j)=some u:=by
   intro j u hj
   have hj':=(List.getElem?_eq_some_iff.1 hj).1
   obtain ⟨b,off,e,hFb,hc⟩:=z3 (by omega)
   injection e with e
   subst e
   rw [z3k,World.cell?_alloc_lt w _ _ (hF b hFb)]
   exact hc j u hj
  have H1:=Lib.hid (z6r zyr z2)
  have HN:=Lib.hid hnews
  have HL:=Lib.hid hfl
  have Z1:=Lib.hid z1
  have HZ:=Lib.hid hl
  obtain ⟨i0,zv,hi,hz0,hz1,hz2,hz3⟩:∃ i z,Tryd.prog.info? 9=some i∧i.zero=some z∧i.size=1∧i.bytes=16∧z.cells.size=1:=by
   have h1:(Tryd.prog.info? 9).map (fun i=>(i.zero.map (·.cells.size),i.size,i.bytes))=some (some 1,1,16):=by kernel_rfl
   match hh:Tryd.prog.info? 9,h1 with
   | some i,h1 =>
    simp only [Option.map_some,Option.some.injEq,Prod.mk.injEq] at h1
    match hz:i.zero,h1 with
    | some z,h1=>exact ⟨i,z,rfl,hz,h1.2.1,h1.2.2,by simpa using h1.1⟩
  clear hnews hfl h z1 hl z3
  go_enter Tryd.func20,Tryd.ntmps20
  go_wp2_with (at_builtin;refine wpList_append_own_at _ rfl _ _ 22 rfl w.heap.size 9 i0 zv 1 16 Tryd.underlying22 hi hz0 hz1 hz2 hz3 (by omega) _ 0 [] rfl (z3l w _ _) ad n c (flat zs) rfl HL.out HN.out H1.out (by unfold maxLen;omega) (by rw [Nat.zero_add];exact hn) (by simp) ?_;intro v' w1 hown hgr _ _)
  go_ret
  rw [Nat.zero_add,List.nil_append] at hown
  refine ⟨v',zs,rfl,Z1.out,z2,hown,?_⟩
  exact ((Below.refl _ _).alloc (Nat.le_refl _) _).grown hgr (by simp) (fun k hk=>by injection hk with hk;exact Nat.le_of_eq hk)
theorem zdv (xs:List (Op)) (A:Option Addr) (n c:Nat) (w:World) (F:Nat→Prop) (h:Rds shOp w F xs A n c) (hF:∀ b,F b→b<w.heap.size) (hn:n * 16≤140737488355328) :
  Calls Tryd.prog 48 #[.slice A n c] w (z8f shOp 74 w F xs n):=by
 have hq:=fun (W:World)=>Lib.run_eql_slice_nil (P:=Tryd.prog) W 54 74 A n c 0 0 Tryd.underlying54
 cases A with
 | none =>
  have h0:n=0:=by
   rcases Nat.eq_zero_or_pos n with h0|h0
   ·exact h0
   ·obtain ⟨b,off,e,_⟩:=h.2.2.2 h0;cases e
  subst h0
  have hx:xs=[]:=List.eq_nil_of_length_eq_zero h.1
  subst hx
  go_enter Tryd.func48,Tryd.ntmps48
  go_wp2
  go_ret
  exact ⟨_,[],rfl,rfl,by simp,World.ownsRow_nil _ _ _ _,Below.refl _ _⟩
 | some ad =>
  obtain ⟨zs,z1,z2,z3⟩:=h.pairs
  have hl:zs.length=n:=by have:=congrArg List.length z1;simp at this;have:=h.1;omega
  have hfl:(flat zs).length=n * 2:=by rw [z2b (fun z hz=>shOp.len (z2 z hz)),hl];rfl
  have hnews:∀ j u,(flat zs)[j]? = some u→(w.alloc (.cells #[] 74)).cell? (ad.add j)=some u:=by
   intro j u hj
   have hj':=(List.getElem?_eq_some_iff.1 hj).1
   obtain ⟨b,off,e,hFb,hc⟩:=z3 (by omega)
   injection e with e
   subst e
   rw [z3k,World.cell?_alloc_lt w _ _ (hF b hFb)]
   exact hc j u hj
  have H1:=Lib.hid (z6r z019 z2)
  have HN:=Lib.hid hnews
  have HL:=Lib.hid hfl
  have Z1:=Lib.hid z1
  have HZ:=Lib.hid hl
  obtain ⟨i0,zv,hi,hz0,hz1,hz2,hz3⟩:∃ i z,Tryd.prog.info? 74=some i∧i.zero=some z∧i.size=2∧i.bytes=16∧z.cells.size=2:=by
   have h1:(Tryd.prog.info? 74).map (fun i=>(i.zero.map (·.cells.size),i.size,i.bytes))=some (some 2,2,16):=by kernel_rfl
   match hh:Tryd.prog.info? 74,h1 with
   | some i,h1 =>
    simp only [Option.map_some,Option.some.injEq,Prod.mk.injEq] at h1
    match hz:i.zero,h1 with
    | some z,h1=>exact ⟨i,z,rfl,hz,h1.2.1,h1.2.2,by simpa using h1.1⟩
  clear hnews hfl h z1 hl z3
  go_enter Tryd.func48,Tryd.ntmps48
  go_wp2_with (at_builtin;refine wpList_append_own_at _ rfl _ _ 54 rfl w.heap.size 74 i0 zv 2 16 Tryd.underlying54 hi hz0 hz1 hz2 hz3 (by omega) _ 0 [] rfl (z3l w _ _) ad n c (flat zs) rfl HL.out HN.out H1.out (by unfold maxLen;omega) (by rw [Nat.zero_add];exact hn) (by simp) ?_;intro v' w1 hown hgr _ _)
  go_ret
  rw [Nat.zero_add,List.nil_append] at hown
  refine ⟨v',zs,rfl,Z1.out,z2,hown,?_⟩
  exact ((Below.refl _ _).alloc (Nat.le_refl _) _).grown hgr (by simp) (fun k hk=>by injection hk with hk;exact Nat.le_of_eq hk)
theorem zys (xs:List (In)) (A:Option Addr) (n c:Nat) (w:World) (F:Nat→Prop) (h:Rds shIn w F xs A n c) (hF:∀ b,F b→b<w.heap.size) (hn:n * 40≤140737488355328) :
  Calls Tryd.prog 46 #[.slice A n c] w (z8f shIn 76 w F xs n):=by
 have hq:=fun (W:World)=>Lib.run_eql_slice_nil (P:=Tryd.prog) W 40 76 A n c 0 0 Tryd.underlying40
 cases A with
 | none =>
  have h0:n=0:=by
   rcases Nat.eq_zero_or_pos n with h0|h0
   ·exact h0
   ·obtain ⟨b,off,e,_⟩:=h.2.2.2 h0;cases e
  subst h0
  have hx:xs=[]:=List.eq_nil_of_length_eq_zero h.1
  subst hx
  go_enter Tryd.func46,Tryd.ntmps46
  go_wp2
  go_ret
  exact ⟨_,[],rfl,rfl,by simp,World.ownsRow_nil _ _ _ _,Below.refl _ _⟩
 | some ad =>
  obtain ⟨zs,z1,z2,z3⟩:=h.pairs
  have hl:zs.length=n:=by have:=congrArg List.length z1;simp at this;have:=h.1;omega
  have hfl:(flat zs).length=n * 3:=by rw [z2b (fun z hz=>shIn.len (z2 z hz)),hl];rfl
  have hnews:∀ j u,(flat zs)[j]? = some u→(w.alloc (.cells #[] 76)).cell? (ad.add j)=some u:=by
   intro j u hj
   have hj':=(List.getElem?_eq_some_iff.1 hj).1
   obtain ⟨b,off,e,hFb,hc⟩:=z3 (by omega)
   injection e with e
   subst e
   rw [z3k,World.cell?_alloc_lt w _ _ (hF b hFb)]
   exact hc j u hj
  have H1:=Lib.hid (z6r z01a z2)
  have HN:=Lib.hid hnews
  have HL:=Lib.hid hfl
  have Z1:=Lib.hid z1
  have HZ:=Lib.hid hl
  obtain ⟨i0,zv,hi,hz0,hz1,hz2,hz3⟩:∃ i z,Tryd.prog.info? 76=some i∧i.zero=some z∧i.size=3∧i.bytes=40∧z.cells.size=3:=by
   have h1:(Tryd.prog.info? 76).map (fun i=>(i.zero.map (·.cells.size),i.size,i.bytes))=some (some 3,3,40):=by kernel_rfl
   match hh:Tryd.prog.info? 76,h1 with
   | some i,h1 =>
    simp only [Option.map_some,Option.some.injEq,Prod.mk.injEq] at h1
    match hz:i.zero,h1 with
    | some z,h1=>exact ⟨i,z,rfl,hz,h1.2.1,h1.2.2,by simpa using h1.1⟩
  clear hnews hfl h z1 hl z3
  go_enter Tryd.func46,Tryd.ntmps46
  go_wp2_with (at_builtin;refine wpList_append_own_at _ rfl _ _ 40 rfl w.heap.size 76 i0 zv 3 40 Tryd.underlying40 hi hz0 hz1 hz2 hz3 (by omega) _ 0 [] rfl (z3l w _ _) ad n c (flat zs) rfl HL.out HN.out H1.out (by unfold maxLen;omega) (by rw [Nat.zero_add];exact hn) (by simp) ?_;intro v' w1 hown hgr _ _)
  go_ret
  rw [Nat.zero_add,List.nil_append] at hown
  refine ⟨v',zs,rfl,Z1.out,z2,hown,?_⟩
  exact ((Below.refl _ _).alloc (Nat.le_refl _) _).grown hgr (by simp) (fun k hk=>by injection hk with hk;exact Nat.le_of_eq hk)
theorem zw6 (xs:List (Out)) (A:Option Addr) (n c:Nat) (w:World) (F:Nat→Prop) (h:Rds shOut w F xs A n c) (hF:∀ b,F b→b<w.heap.size) (hn:n * 32≤140737488355328) :
  Calls Tryd.prog 47 #[.slice A n c] w (z8f shOut 56 w F xs n):=by
 have hq:=fun (W:World)=>Lib.run_eql_slice_nil (P:=Tryd.prog) W 41 56 A n c 0 0 Tryd.underlying41
 cases A with
 | none =>
  have h0:n=0:=by
   rcases Nat.eq_zero_or_pos n with h0|h0
   ·exact h0
   ·obtain ⟨b,off,e,_⟩:=h.2.2.2 h0;cases e
  subst h0
  have hx:xs=[]:=List.eq_nil_of_length_eq_zero h.1
  subst hx
  go_enter Tryd.func47,Tryd.ntmps47
  go_wp2
  go_ret
  exact ⟨_,[],rfl,rfl,by simp,World.ownsRow_nil _ _ _ _,Below.refl _ _⟩
 | some ad =>
  obtain ⟨zs,z1,z2,z3⟩:=h.pairs
  have hl:zs.length=n:=by have:=congrArg List.length z1;simp at this;have:=h.1;omega
  have hfl:(flat zs).length=n * 2:=by rw [z2b (fun z hz=>shOut.len (z2 z hz)),hl];rfl
  have hnews:∀ j u,(flat zs)[j]? = some u→(w.alloc (.cells #[] 56)).cell? (ad.add j)=some u:=by
   intro j u hj
   have hj':=(List.getElem?_eq_some_iff.1 hj).1
   obtain ⟨b,off,e,hFb,hc⟩:=z3 (by omega)
   injection e with e
   subst e
   rw [z3k,World.cell?_alloc_lt w _ _ (hF b hFb)]
   exact hc j u hj
  have H1:=Lib.hid (z6r zlb z2)
  have HN:=Lib.hid hnews
  have HL:=Lib.hid hfl
  have Z1:=Lib.hid z1
  have HZ:=Lib.hid hl
  obtain ⟨i0,zv,hi,hz0,hz1,hz2,hz3⟩:∃ i z,Tryd.prog.info? 56=some i∧i.zero=some z∧i.size=2∧i.bytes=32∧z.cells.size=2:=by
   have h1:(Tryd.prog.info? 56).map (fun i=>(i.zero.map (·.cells.size),i.size,i.bytes))=some (some 2,2,32):=by kernel_rfl
   match hh:Tryd.prog.info? 56,h1 with
   | some i,h1 =>
    simp only [Option.map_some,Option.some.injEq,Prod.mk.injEq] at h1
    match hz:i.zero,h1 with
    | some z,h1=>exact ⟨i,z,rfl,hz,h1.2.1,h1.2.2,by simpa using h1.1⟩
  clear hnews hfl h z1 hl z3
  go_enter Tryd.func47,Tryd.ntmps47
  go_wp2_with (at_builtin;refine wpList_append_own_at _ rfl _ _ 41 rfl w.heap.size 56 i0 zv 2 32 Tryd.underlying41 hi hz0 hz1 hz2 hz3 (by omega) _ 0 [] rfl (z3l w _ _) ad n c (flat zs) rfl HL.out HN.out H1.out (by unfold maxLen;omega) (by rw [Nat.zero_add];exact hn) (by simp) ?_;intro v' w1 hown hgr _ _)
  go_ret
  rw [Nat.zero_add,List.nil_append] at hown
  refine ⟨v',zs,rfl,Z1.out,z2,hown,?_⟩
  exact ((Below.refl _ _).alloc (Nat.le_refl _) _).grown hgr (by simp) (fun k hk=>by injection hk with hk;exact Nat.le_of_eq hk)
theorem ztz (xs:List (Coin)) (A:Option Addr) (n c:Nat) (w:World) (F:Nat→Prop) (h:Rds shCoin w F xs A n c) (hF:∀ b,F b→b<w.heap.size) (hn:n * 64≤140737488355328) :
  Calls Tryd.prog 51 #[.slice A n c] w (z8f shCoin 63 w F xs n):=by
 have hq:=fun (W:World)=>Lib.run_eql_slice_nil (P:=Tryd.prog) W 39 63 A n c 0 0 Tryd.underlying39
 cases A with
 | none =>
  have h0:n=0:=by
   rcases Nat.eq_zero_or_pos n with h0|h0
   ·exact h0
   ·obtain ⟨b,off,e,_⟩:=h.2.2.2 h0;cases e
  subst h0
  have hx:xs=[]:=List.eq_nil_of_length_eq_zero h.1
  subst hx
  go_enter Tryd.func51,Tryd.ntmps51
  go_wp2
  go_ret
  exact ⟨_,[],rfl,rfl,by simp,World.ownsRow_nil _ _ _ _,Below.refl _ _⟩
 | some ad =>
  obtain ⟨zs,z1,z2,z3⟩:=h.pairs
  have hl:zs.length=n:=by have:=congrArg List.length z1;simp at this;have:=h.1;omega
  have hfl:(flat zs).length=n * 6:=by rw [z2b (fun z hz=>shCoin.len (z2 z hz)),hl];rfl
  have hnews:∀ j u,(flat zs)[j]? = some u→(w.alloc (.cells #[] 63)).cell? (ad.add j)=some u:=by
   intro j u hj
   have hj':=(List.getElem?_eq_some_iff.1 hj).1
   obtain ⟨b,off,e,hFb,hc⟩:=z3 (by omega)
   injection e with e
   subst e
   rw [z3k,World.cell?_alloc_lt w _ _ (hF b hFb)]
   exact hc j u hj
  have H1:=Lib.hid (z6r zw5 z2)
  have HN:=Lib.hid hnews
  have HL:=Lib.hid hfl
  have Z1:=Lib.hid z1
  have HZ:=Lib.hid hl
  obtain ⟨i0,zv,hi,hz0,hz1,hz2,hz3⟩:∃ i z,Tryd.prog.info? 63=some i∧i.zero=some z∧i.size=6∧i.bytes=64∧z.cells.size=6:=by
   have h1:(Tryd.prog.info? 63).map (fun i=>(i.zero.map (·.cells.size),i.size,i.bytes))=some (some 6,6,64):=by kernel_rfl
   match hh:Tryd.prog.info? 63,h1 with
   | some i,h1 =>
    simp only [Option.map_some,Option.some.injEq,Prod.mk.injEq] at h1
    match hz:i.zero,h1 with
    | some z,h1=>exact ⟨i,z,rfl,hz,h1.2.1,h1.2.2,by simpa using h1.1⟩
  clear hnews hfl h z1 hl z3
  go_enter Tryd.func51,Tryd.ntmps51
  go_wp2_with (at_builtin;refine wpList_append_own_at _ rfl _ _ 39 rfl w.heap.size 63 i0 zv 6 64 Tryd.underlying39 hi hz0 hz1 hz2 hz3 (by omega) _ 0 [] rfl (z3l w _ _) ad n c (flat zs) rfl HL.out HN.out H1.out (by unfold maxLen;omega) (by rw [Nat.zero_add];exact hn) (by simp) ?_;intro v' w1 hown hgr _ _)
  go_ret
  rw [Nat.zero_add,List.nil_append] at hown
  refine ⟨v',zs,rfl,Z1.out,z2,hown,?_⟩
  exact ((Below.refl _ _).alloc (Nat.le_refl _) _).grown hgr (by simp) (fun k hk=>by injection hk with hk;exact Nat.le_of_eq hk)
end
section
open Go.RowKit
theorem zyt {w:World} {F:Nat→Prop} {x:Point} (h1:I64 x.tx) (h2:I64 x.at_):shPoint.rep w F x [.int .i64 x.tx,.int .i64 x.at_] :=
 ⟨x.tx,x.at_,[_],[_],rfl,rfl,⟨rfl,h1⟩,rfl,h2⟩
theorem z04n {w:World} {F:Nat→Prop} {x:In} {A:Option Addr} {n c:Nat} (h1:I64 x.p.tx) (h2:I64 x.p.at_) (hr:Rds shOp w F x.key A n c):shIn.rep w F x [.int .i64 x.p.tx,.int .i64 x.p.at_,.slice A n c] :=
 ⟨x.p,x.key,[_,_],[_],rfl,rfl,zyt h1 h2,A,n,c,rfl,hr⟩
theorem z038 {w:World} {F:Nat→Prop} {x:Out} {A:Option Addr} {n c:Nat} (h1:I64 x.coin) (hr:Rds shOp w F x.lock A n c):shOut.rep w F x [.int .i64 x.coin,.slice A n c] :=
 ⟨x.coin,x.lock,[_],[_],rfl,rfl,⟨rfl,h1⟩,A,n,c,rfl,hr⟩
theorem z04o {w:World} {F:Nat→Prop} {x:Tx} {A:Option Addr} {n c:Nat} {A':Option Addr} {n' c':Nat} (h1:I64 x.height) (hi:Rds shIn w F x.ins A n c) (ho:Rds shOut w F x.outs A' n' c'):shTx.rep w F x [.int .i64 x.height,.slice A n c,.slice A' n' c'] :=
 ⟨x.height,(x.ins,x.outs),[_],[_,_],rfl,rfl,⟨rfl,h1⟩,x.ins,x.outs,[_],[_],rfl,rfl,⟨A,n,c,rfl,hi⟩,A',n',c',rfl,ho⟩
end
section
open Go.RowKit
structure Stop (p:Prop):Prop where
 go:p
structure Res where
 block:Option Nat
 holds:Nat→(Nat→Prop)→World→Prop
 keep:∀ {h0:Nat} {F F':Nat→Prop} {W W':World},Agree F W W'→(∀ b,F b→F' b)→(∀ g,block=some g→W'.heap[g]? = W.heap[g]?)→holds h0 F W→holds h0 F' W'
 lt:∀ {h0:Nat} {F:Nat→Prop} {W:World} {g:Nat},holds h0 F W→block=some g→h0≤g∧g<W.heap.size
def zdw (p:World→(Nat→Prop)→Prop) (k:∀ {W W':World} {F F':Nat→Prop},Agree F W W'→(∀ b,F b→F' b)→p W F→p W' F'):Res:={
 block:=none
 holds _ F W:=p W F
 keep:=fun ha hF _ h=>k ha hF h
 lt:=fun _ h=>by cases h }
def rds {α:Type} (xs:List α) (A:Option Addr) (n c:Nat) (S:Sh α):Res:=zdw (fun W F=>Rds S W F xs A n c) fun ha hF h=>(h.keep ha).more hF
def rep {α:Type} (x:α) (cs:List Value) (S:Sh α):Res:=zdw (fun W F=>S.rep W F x cs) fun ha hF h=>S.more hF (S.keep ha h)
def cells (b o:Nat) (cs:List Value):Res:=zdw (fun W F=>F b∧W.rangeAt b o cs) fun ha hF h=>⟨hF _ h.1,fun j v hj=>(ha.cell (p:=⟨b,o+j,none⟩) h.1).trans (h.2 j v hj)⟩
def box (g:Nat) (cs:List Value) (t:Nat):Res:={
 block:=some g
 holds h0 _ W:=h0≤g∧W.heap[g]? = some (.cells cs.toArray t (0,0))
 keep:=fun _ _ hb h=>⟨h.1,(hb g rfl).trans h.2⟩
 lt:=fun h e=>by injection e with e;subst e;exact ⟨h.1,z9n h.2⟩ }
theorem zbi {w w':World} {base e size n:Nat} {v:Value} {xs:List Value} (h:w.ownsRow base e size v n xs) (hb:∀ g,v.ownBlock=some g→w'.heap[g]? = w.heap[g]?):w'.ownsRow base e size v n xs:=by
 refine ⟨h.1,?_⟩
 rcases h.2 with h0|⟨g,cap,cur,hv,hg,hh,r⟩
 ·exact .inl h0
 ·exact .inr ⟨g,cap,cur,hv,hg,by rw [hb g (by rw [hv];rfl)];exact hh,r⟩
def row {α:Type} (e:Nat) (v:Value) (xs:List α) (S:Sh α):Res:={
 block:=v.ownBlock
 holds h0 F W:=∃ zs:List (α × List Value),zs.map (·.1)=xs∧W.ownsRow h0 e S.size v xs.length (flat zs)∧∀ z ∈ zs,S.rep W F z.1 z.2
 keep:=fun ha hF hb ⟨zs,h1,h2,h3⟩=>⟨zs,h1,zbi h2 hb,fun z hz=>S.more hF (S.keep ha (h3 z hz))⟩
 lt:=fun ⟨_,_,h2,_⟩ e=>h2.lt _ e }
def Free (h0:Nat) (F0:Nat→Prop) (Γ:List Res) (W:World) (b:Nat):Prop:=(F0 b∨(h0≤b∧b<W.heap.size))∧∀ r ∈ Γ,r.block≠some b
def All (h0:Nat) (F0:Nat→Prop) (W:World) (b:Nat):Prop:=F0 b∨(h0≤b∧b<W.heap.size)
structure Sep (w0:World) (F0:Nat→Prop) (Γ:List Res) (W:World):Prop where
 below:Below w0.heap.size w0 W
 low:∀ b,F0 b→b<w0.heap.size
 all:∀ r ∈ Γ,r.holds w0.heap.size (Free w0.heap.size F0 Γ W) W
 dj:Γ.Pairwise fun r r'=>∀ g,r.block=some g→r'.block≠some g
def At (Γ:List Res) (r:Res):Prop:=r ∈ Γ
theorem At.z {Γ:List Res} {r:Res}:At (r::Γ) r:=List.mem_cons_self ..
theorem At.s {Γ:List Res} {r q:Res} (h:At Γ r):At (q::Γ) r:=List.mem_cons_of_mem _ h
def Put (Γ:List Res) (r r':Res) (Γ':List Res):Prop:=∃ l1 l2,Γ=l1++r::l2∧Γ'=l1++r'::l2
theorem Put.z {Γ:List Res} {r r':Res}:Put (r::Γ) r r' (r'::Γ):=⟨[],Γ,rfl,rfl⟩
theorem Put.s {Γ Γ':List Res} {r r' q:Res} (h:Put Γ r r' Γ'):Put (q::Γ) r r' (q::Γ'):=by
 obtain ⟨l1,l2,rfl,rfl⟩:=h
 exact ⟨q::l1,l2,rfl,rfl⟩
def Del (Γ:List Res) (r:Res) (Γ':List Res):Prop:=∃ l1 l2,Γ=l1++r::l2∧Γ'=l1++l2
theorem Del.z {Γ:List Res} {r:Res}:Del (r::Γ) r Γ:=⟨[],Γ,rfl,rfl⟩
theorem Del.s {Γ Γ':List Res} {r q:Res} (h:Del Γ r Γ'):Del (q::Γ) r (q::Γ'):=by
 obtain ⟨l1,l2,rfl,rfl⟩:=h
 exact ⟨q::l1,l2,rfl,rfl⟩
theorem Put.at_ {Γ Γ':List Res} {r r':Res} (h:Put Γ r r' Γ'):At Γ r:=by
 obtain ⟨l1,l2,rfl,rfl⟩:=h
 simp [At]
def Sub (Γ' Γ:List Res):Prop:=∃ l,Γ.Perm (Γ'++l)
theorem Sub.nil {Γ:List Res}:Sub [] Γ:=⟨Γ,by simp⟩
theorem Sub.refl {Γ:List Res}:Sub Γ Γ:=⟨[],by simp⟩
theorem Sub.skip {Γ Γ':List Res} {r:Res} (h:Sub Γ' Γ):Sub Γ' (r::Γ):=by
 obtain ⟨l,hl⟩:=h
 exact ⟨r::l,(hl.cons r).trans List.perm_middle.symm⟩
theorem Sub.take {Γ Γ1 Γ':List Res} {r:Res} (hd:Del Γ r Γ1) (h:Sub Γ' Γ1):Sub (r::Γ') Γ:=by
 obtain ⟨l1,l2,rfl,rfl⟩:=hd
 obtain ⟨l,hl⟩:=h
 exact ⟨l,List.perm_middle.trans (hl.cons r)⟩
section
variable {w0 W W':World} {F0:Nat→Prop} {Γ Γ':List Res}
theorem Sep.size (h:Sep w0 F0 Γ W):w0.heap.size≤W.heap.size:=h.below.size
theorem Free.lt (h:Sep w0 F0 Γ W) {b:Nat} (hb:Free w0.heap.size F0 Γ W b):b<W.heap.size:=by
 rcases hb.1 with h1|h1
 ·exact Nat.lt_of_lt_of_le (h.low b h1) h.size
 ·exact h1.2
theorem Free.all {h0:Nat} {b:Nat} (hb:Free h0 F0 Γ W b):All h0 F0 W b:=hb.1
theorem All.lt (h:Sep w0 F0 Γ W) {b:Nat} (hb:All w0.heap.size F0 W b):b<W.heap.size:=by
 rcases hb with h1|h1
 ·exact Nat.lt_of_lt_of_le (h.low b h1) h.size
 ·exact h1.2
theorem Sep.start (w:World) (F:Nat→Prop) (hF:∀ b,F b→b<w.heap.size):Sep w F [] w:=⟨Below.refl _ _,hF,by simp,List.Pairwise.nil⟩
theorem Sep.get (h:Sep w0 F0 Γ W) {r:Res} (hr:At Γ r):r.holds w0.heap.size (Free w0.heap.size F0 Γ W) W:=h.all r hr
theorem Sep.out (h:Sep w0 F0 Γ W) {r:Res} (hr:At Γ r):r.holds w0.heap.size (All w0.heap.size F0 W) W:=r.keep (fun _ _=>rfl) (fun b hb=>hb.1) (fun _ _=>rfl) (h.all r hr)
theorem Sep.lts (h:Sep w0 F0 Γ W) {r:Res} (hr:At Γ r):r.holds w0.heap.size (Lt W.heap.size) W:=r.keep (fun _ _=>rfl) (fun b hb=>Free.lt h hb) (fun _ _=>rfl) (h.all r hr)
theorem Sep.sub (h:Sep w0 F0 Γ W) (hs:Sub Γ' Γ):Sep w0 F0 Γ' W:=by
 obtain ⟨l,hl⟩:=hs
 have hm:∀ r ∈ Γ',r ∈ Γ:=fun r hr=>hl.mem_iff.2 (List.mem_append_left _ hr)
 refine ⟨h.below,h.low,fun r hr=>r.keep (fun _ _=>rfl) (fun b hb=>⟨hb.1,fun q hq=>hb.2 q (hm q hq)⟩) (fun _ _=>rfl) (h.all r (hm r hr)),?_⟩
 have hp:=(hl.pairwise_iff (R:=fun r r':Res=>∀ g,r.block=some g→r'.block≠some g) (fun hab g hb ha=>hab g ha hb)).1 h.dj
 exact (List.pairwise_append.1 hp).1
theorem Sep.grow (h:Sep w0 F0 Γ W) (hg:W.grownBy W' none) {r:Res} (hr:r.holds w0.heap.size (Free w0.heap.size F0 (r::Γ) W') W') (hb:∀ g,r.block=some g→W.heap.size≤g):Sep w0 F0 (r::Γ) W':=by
 have hsz:=h.size
 have hfree:∀ b,Free w0.heap.size F0 Γ W b→Free w0.heap.size F0 (r::Γ) W' b:=by
  intro b hb'
  have hlt:=Free.lt h hb'
  refine ⟨hb'.1.imp (fun x=>x) (fun x=>⟨x.1,Nat.lt_of_lt_of_le x.2 hg.size⟩),fun q hq=>?_⟩
  rcases List.mem_cons.1 hq with rfl|hq
  ·intro e
   have:=hb b e
   omega
  ·exact hb'.2 q hq
 refine ⟨h.below.grown hg hsz (fun k hk=>by cases hk),h.low,?_,?_⟩
 ·intro q hq
  rcases List.mem_cons.1 hq with rfl|hq
  ·exact hr
  ·exact q.keep (fun b hb'=>hg.block b (Free.lt h hb') (by simp)) hfree (fun g hg'=>hg.block g (q.lt (h.all q hq) hg').2 (by simp)) (h.all q hq)
 ·refine List.pairwise_cons.2 ⟨fun q hq g h1 h2=>?_,h.dj⟩
  have h3:=hb g h1
  have h4:=(q.lt (h.all q hq) h2).2
  omega
theorem Sep.more (h:Sep w0 F0 Γ W) (hg:W.grownBy W' none):Sep w0 F0 Γ W':=by
 have hfree:∀ b,Free w0.heap.size F0 Γ W b→Free w0.heap.size F0 Γ W' b:=fun b hb' =>
  ⟨hb'.1.imp (fun x=>x) (fun x=>⟨x.1,Nat.lt_of_lt_of_le x.2 hg.size⟩),hb'.2⟩
 exact ⟨h.below.grown hg h.size (fun k hk=>by cases hk),h.low,fun q hq=>q.keep (fun b hb'=>hg.block b (Free.lt h hb') (by simp)) hfree (fun g hg'=>hg.block g (q.lt (h.all q hq) hg').2 (by simp)) (h.all q hq),h.dj⟩
theorem z9o {W W':World} {row:Option Nat} (h:Below W.heap.size W W'):W.grownBy W' row:=⟨h.os,h.tape,h.output,h.size,fun k hk _=>h.block k hk⟩
theorem Sep.belows (h:Sep w0 F0 Γ W) (hb:Below W.heap.size W W'):Sep w0 F0 Γ W':=h.more (z9o hb)
theorem Sep.drew (h:Sep w0 F0 Γ W):Sep w0 F0 Γ W.drew:=h.belows (Below.refl _ _).drew
theorem Sep.drewN (h:Sep w0 F0 Γ W) (n:Nat):Sep w0 F0 Γ (W.drewN n):=h.belows (zcz (Below.refl _ _) n)
theorem Sep.add (h:Sep w0 F0 Γ W) {r:Res} (hn:r.block=none) (hr:r.holds w0.heap.size (Free w0.heap.size F0 Γ W) W):Sep w0 F0 (r::Γ) W:=by
 refine h.grow ⟨rfl,rfl,rfl,Nat.le_refl _,fun _ _ _=>rfl⟩ (r.keep (fun _ _=>rfl) (fun b hb=>⟨hb.1,fun q hq=>?_⟩) (fun _ _=>rfl) hr) (fun g hg=>by rw [hn] at hg;cases hg)
 rcases List.mem_cons.1 hq with rfl|hq
 ·rw [hn];simp
 ·exact hb.2 q hq
theorem Sep.lift (h:Sep w0 F0 Γ W) {r q:Res} (hn:q.block=none) (hr:r.holds w0.heap.size (Free w0.heap.size F0 Γ W) W):r.holds w0.heap.size (Free w0.heap.size F0 (q::Γ) W) W :=
 r.keep (fun _ _=>rfl) (fun b hb=>⟨hb.1,fun p hp=>by
  rcases List.mem_cons.1 hp with rfl|hp
  ·rw [hn];simp
  ·exact hb.2 p hp⟩) (fun _ _=>rfl) hr
theorem Sep.add2 (h:Sep w0 F0 Γ W) {r q:Res} (hn:r.block=none) (hm:q.block=none) (hr:r.holds w0.heap.size (Free w0.heap.size F0 Γ W) W) (hq:q.holds w0.heap.size (Free w0.heap.size F0 Γ W) W):Sep w0 F0 (r::q::Γ) W :=
 (h.add hm hq).add hn (h.lift hm hr)
theorem Sep.add3 (h:Sep w0 F0 Γ W) {r q p:Res} (hn:r.block=none) (hm:q.block=none) (ho:p.block=none) (hr:r.holds w0.heap.size (Free w0.heap.size F0 Γ W) W) (hq:q.holds w0.heap.size (Free w0.heap.size F0 Γ W) W) (hp:p.holds w0.heap.size (Free w0.heap.size F0 Γ W) W):Sep w0 F0 (r::q::p::Γ) W :=
 ((h.add ho hp).add hm (h.lift ho hq)).add hn ((h.add ho hp).lift hm (h.lift ho hr))
theorem Sep.put (h:Sep w0 F0 Γ W) {r r':Res} (hp:Put Γ r r' Γ') (hg:W.grownBy W' r.block) (hb:∀ g,r'.block=some g→r.block=some g∨W.heap.size≤g)
  (hr:(∀ b,Free w0.heap.size F0 Γ W b→Free w0.heap.size F0 Γ' W' b)→Agree (Free w0.heap.size F0 Γ W) W W'→r.holds w0.heap.size (Free w0.heap.size F0 Γ W) W→r'.holds w0.heap.size (Free w0.heap.size F0 Γ' W') W'):Sep w0 F0 Γ' W':=by
 obtain ⟨l1,l2,rfl,rfl⟩:=hp
 have hmr:r ∈ l1++r::l2:=by simp
 have hother:∀ q,q ∈ l1∨q ∈ l2→q ∈ l1++r::l2:=fun q hq=>by rcases hq with hq|hq <;> simp [hq]
 have hp:=List.pairwise_append.1 h.dj
 have hp2:=List.pairwise_cons.1 hp.2.1
 have hdj:∀ q,q ∈ l1∨q ∈ l2→∀ g,q.block=some g→r.block≠some g:=by
  intro q hq g h1 h2
  rcases hq with hq|hq
  ·exact hp.2.2 q hq r (by simp) g h1 h2
  ·exact hp2.1 q hq g h2 h1
 have hfree:∀ b,Free w0.heap.size F0 (l1++r::l2) W b→Free w0.heap.size F0 (l1++r'::l2) W' b:=by
  intro b hb'
  have hlt:=Free.lt h hb'
  refine ⟨hb'.1.imp (fun x=>x) (fun x=>⟨x.1,Nat.lt_of_lt_of_le x.2 hg.size⟩),fun q hq=>?_⟩
  simp only [List.mem_append,List.mem_cons] at hq
  rcases hq with hq|rfl|hq
  ·exact hb'.2 q (hother q (.inl hq))
  ·intro e
   rcases hb b e with h1|h1
   ·exact hb'.2 r hmr h1
   ·omega
  ·exact hb'.2 q (hother q (.inr hq))
 have hag:Agree (Free w0.heap.size F0 (l1++r::l2) W) W W':=fun b hb'=>hg.block b (Free.lt h hb') (fun e=>hb'.2 r hmr e.symm)
 have hkeep:∀ q,q ∈ l1∨q ∈ l2→q.holds w0.heap.size (Free w0.heap.size F0 (l1++r'::l2) W') W':=fun q hq =>
  q.keep hag hfree (fun g hg'=>hg.block g (q.lt (h.all q (hother q hq)) hg').2 (fun e=>hdj q hq g hg' e.symm)) (h.all q (hother q hq))
 refine ⟨h.below.grown hg h.size (fun k hk=>(r.lt (h.all r hmr) hk).1),h.low,?_,?_⟩
 ·intro q hq
  simp only [List.mem_append,List.mem_cons] at hq
  rcases hq with hq|rfl|hq
  ·exact hkeep q (.inl hq)
  ·exact hr hfree hag (h.all r hmr)
  ·exact hkeep q (.inr hq)
 ·have hnew:∀ q,q ∈ l1∨q ∈ l2→∀ g,q.block=some g→r'.block≠some g:=by
   intro q hq g h1 h2
   rcases hb g h2 with h3|h3
   ·exact hdj q hq g h1 h3
   ·have:=(q.lt (h.all q (hother q hq)) h1).2
    omega
  refine List.pairwise_append.2 ⟨hp.1,List.pairwise_cons.2 ⟨fun q hq g h1 h2=>hnew q (.inr hq) g h2 h1,hp2.2⟩,?_⟩
  intro q hq q' hq' g h1 h2
  rcases List.mem_cons.1 hq' with rfl|hq'
  ·exact hnew q (.inl hq) g h1 h2
  ·exact hp.2.2 q hq q' (by simp [hq']) g h1 h2
theorem Sep.alloc (h:Sep w0 F0 Γ W) (cs:List Value) (t:Nat):Sep w0 F0 (box W.heap.size cs t::Γ) (W.alloc (.cells cs.toArray t)) :=
 h.grow (World.grownBy_alloc W _ none) ⟨h.size,heap_alloc_new W _⟩ (fun g hg=>by injection hg with hg;omega)
theorem Sep.store (h:Sep w0 F0 Γ W) {g t j:Nat} {cs:List Value} (u:Value) (hp:Put Γ (box g cs t) (box g (cs.set j u) t) Γ'):Sep w0 F0 Γ' (W.setCell ⟨g,j,none⟩ u):=by
 refine h.put hp ⟨rfl,rfl,rfl,by simp [World.setCell],fun k hk hne=>Below.heap_setCell _ _ _ _ (fun e=>hne (by rw [e];rfl))⟩ (fun g' hg'=>.inl hg') ?_
 intro _ _ hr
 refine ⟨hr.1,?_⟩
 have:=zsu (i:=j) (u:=u) hr.2
 rw [this]
 simp
theorem Sep.freeze (h:Sep w0 F0 Γ W) {r r':Res} (hp:Put Γ r r' Γ') (hn:r'.block=none) (hr:(∀ b,Free w0.heap.size F0 Γ W b∨(r.block=some b∧w0.heap.size≤b∧b<W.heap.size)→Free w0.heap.size F0 Γ' W b)→r.holds w0.heap.size (Free w0.heap.size F0 Γ W) W→r'.holds w0.heap.size (Free w0.heap.size F0 Γ' W) W):Sep w0 F0 Γ' W:=by
 refine h.put hp ⟨rfl,rfl,rfl,Nat.le_refl _,fun _ _ _=>rfl⟩ (fun g hg=>by rw [hn] at hg;cases hg) ?_
 intro hf _ hh
 refine hr (fun b hb=>?_) hh
 rcases hb with hb|⟨hb,h1,h2⟩
 ·exact hf b hb
 ·refine ⟨.inr ⟨h1,h2⟩,fun q hq e=>?_⟩
  obtain ⟨l1,l2,rfl,rfl⟩:=hp
  have hp:=List.pairwise_append.1 h.dj
  have hp2:=List.pairwise_cons.1 hp.2.1
  simp only [List.mem_append,List.mem_cons] at hq
  rcases hq with hq|rfl|hq
  ·exact hp.2.2 q hq r (by simp) b e hb
  ·rw [hn] at e;cases e
  ·exact hp2.1 q hq b hb e
end
def AggN (P:Program) (t:TypeId) (n:Nat):Prop:=∃ d,P.underlying t=some d∧d.isRow=true∧(P.info? t).map (·.size)=some n
def OneT (P:Program) (t:TypeId):Prop:=∃ d,P.underlying t=some d∧d.isRow=false∧(P.info? t).map (·.size)=some 1
def z30 (P:Program) (t:TypeId) (cs:List Value):Prop:=∃ z:Value,z.cells=cs.toArray∧∀ W,(zeroValue t).run P W = .ok z W
def SliceT (P:Program) (t e size bytes:Nat):Prop:=P.underlying t=some (.slice e)∧∃ i z,P.info? e=some i∧i.zero=some z∧i.size=size∧i.bytes=bytes∧z.cells.size=size
theorem SliceT.mk {P:Program} {t e size bytes:Nat} (h:P.underlying t=some (.slice e)) (h1:(P.info? e).map (fun i=>(i.zero.map (·.cells.size),i.size,i.bytes))=some (some size,size,bytes)):SliceT P t e size bytes:=by
 refine ⟨h,?_⟩
 match hh:P.info? e,h1 with
 | some i,h1 =>
  simp only [Option.map_some,Option.some.injEq,Prod.mk.injEq] at h1
  match hz:i.zero,h1 with
  | some z,h1=>exact ⟨i,z,rfl,hz,h1.2.1,h1.2.2,by simpa using h1.1⟩
theorem AggN.mk {P:Program} {t n:Nat} {d:TypeDesc} (h:P.underlying t=some d) (hd:d.isRow=true) (hi:(P.info? t).map (·.size)=some n):AggN P t n:=⟨d,h,hd,hi⟩
theorem OneT.mk {P:Program} {t:Nat} {d:TypeDesc} (h:P.underlying t=some d) (hd:d.isRow=false) (hi:(P.info? t).map (·.size)=some 1):OneT P t:=⟨d,h,hd,hi⟩
theorem OneT.load {P:Program} {t:Nat} (h:OneT P t) {W:World} {p:Addr} {v:Value} (hv:W.cell? p=some v):(loadVar t p).run P W = .ok v W:=by
 obtain ⟨d,hu,hd,_⟩:=h
 have hagg:(isAgg t).run P W = .ok false W:=by
  unfold isAgg
  rw [Sem.run_bind,run_underlying hu W]
  cases d <;> simp_all
 simp [loadVar,Sem.run_bind,hagg,hv]
theorem AggN.load {P:Program} {t b o:Nat} {cs:List Value} (h:AggN P t cs.length) {W:World} (hv:W.rangeAt b o cs):(loadVar t ⟨b,o,none⟩).run P W = .ok (.agg cs.toArray) W:=by
 obtain ⟨d,hu,hd,hi⟩:=h
 exact run_loadVar_mid W b o t cs d hv hu hd hi
theorem zw7 {v:Value} (h:v.oneCell'=true):v.cells=#[v]:=by cases v <;> first|rfl|cases h
theorem OneT.store {P:Program} {t:Nat} (h:OneT P t) {W:World} {p:Addr} {v u:Value} (hv:W.cell? p=some u) (hf:W.frozen? p=false) (h1:v.oneCell'=true):(storeVar t p v).run P W = .ok () (W.setCell p v):=by
 obtain ⟨d,hu,hd,hi⟩:=h
 match hh:P.info? t,hi with
 | some i,hi =>
  simp at hi
  have e:p.add 0=p:=by unfold Addr.add;simp
  simp [storeVar,sizeOf,typeInfo,hh,zw7 h1,hi,storeCells,e,run_store P W p v _ h1,hv,hf]
theorem AggN.store {P:Program} {t g ty:Nat} {old cs:List Value} (h:AggN P t cs.length) {W:World} (hg:W.heap[g]? = some (.cells old.toArray ty (0,0))) (hl:old.length=cs.length) (h1:z96 cs) :
  (storeVar t ⟨g,0,none⟩ (.agg cs.toArray)).run P W = .ok () (W.setRow g cs.toArray):=by
 obtain ⟨d,hu,hd,hi⟩:=h
 exact run_storeVar_row W g ty t old.toArray cs.toArray hg (by simpa using hi) (by simpa using hl) (all_oneCell_toArray h1)
def RV (w0:World) (F0:Nat→Prop) (Γ:List Res) (v:Value) (e:Ending) (W:World):Prop:=e = .returned v∧Sep w0 F0 Γ W
def RS (w0:World) (F0:Nat→Prop) (Γ:List Res) {τ:Type} (S:Sh τ) (x:τ) (e:Ending) (W:World):Prop:=∃ cs:List Value,e = .returned (.agg cs.toArray)∧Sep w0 F0 (rep x cs S::Γ) W
def RO (w0:World) (F0:Nat→Prop) (Γ:List Res) {τ:Type} (S:Sh τ) (t:Nat) (xs:List τ) (e:Ending) (W:World):Prop:=∃ v,e = .returned v∧Sep w0 F0 (row t v xs S::Γ) W
section
variable {P:Program} {w0 W:World} {F0:Nat→Prop} {Γ Γ' Γ1:List Res}
theorem Sep.old (h:Sep w0 F0 Γ W) {f:FuncId} {args:Array Value} {v:Value} (hc:Calls P f args W fun e w'=>e = .returned v∧Below W.heap.size W w'):Calls P f args W (RV w0 F0 Γ v) :=
 hc.mono fun e w' ⟨h1,h2⟩=>⟨h1,h.belows h2⟩
theorem Sep.boxAt (h:Sep w0 F0 Γ W) {g t:Nat} {cs:List Value} (hm:At Γ (box g cs t)):W.rangeAt g 0 cs:=fun j v hv=>by
 rw [Nat.zero_add,z2h (h.get hm).2];simpa using hv
theorem Sep.cellsAt (h:Sep w0 F0 Γ W) {b o:Nat} {cs:List Value} (hm:At Γ (cells b o cs)):W.rangeAt b o cs:=(h.get hm).2
section
variable {ops:Array Oper} {Q:Exit→Act→World→Prop} {a:Act} {rest:List Oper} {o:Oper} {t:TypeId} {x y:Operand}
theorem Sep.wbox (h:Sep w0 F0 Γ W) {cs:List Value} (hgd:Region.wanted o (yielded ops a.tmps)=true) (ho:o.op = .box t x) (hx:(a.eval x).cells=cs.toArray)
  (k:∀ g W',Sep w0 F0 (box g cs t::Γ) W'→wpList P ops Q rest (a.put o.dst (.pointer (some ⟨g,0,none⟩))) W'):wpList P ops Q (o::rest) a W :=
 BigFrame.wpList_want hgd fun K hK=>by
  unfold Oper.wp execOp
  simp only [ho,Instr.box,newVar,newRow,Sem.run_bind,run_newObj_alloc,Result.andThen_ok,Sem.run_pure,hx]
  exact hK _ _ (k _ _ (h.alloc cs t))
theorem Sep.walloc (h:Sep w0 F0 Γ W) {cs:List Value} (hgd:Region.wanted o (yielded ops a.tmps)=true) (ho:o.op = .alloc t) (hz:z30 P t cs)
  (k:∀ g W',Sep w0 F0 (box g cs t::Γ) W'→wpList P ops Q rest (a.put o.dst (.pointer (some ⟨g,0,none⟩))) W'):wpList P ops Q (o::rest) a W :=
 BigFrame.wpList_want hgd fun K hK=>by
  obtain ⟨z,hz1,hz2⟩:=hz
  unfold Oper.wp execOp
  simp only [ho,Instr.alloc,newVar,newRow,Sem.run_bind,run_newObj_alloc,Result.andThen_ok,Sem.run_pure,hz2,hz1]
  exact hK _ _ (k _ _ (h.alloc cs t))
theorem zcp (hgd:Region.wanted o (yielded ops a.tmps)=true) (ho:o.op = .load t x) {p:Addr} {v:Value} (hx:a.eval x = .pointer (some p)) (hr:(loadVar t p).run P W = .ok v W)
  (k:wpList P ops Q rest (a.put o.dst v) W):wpList P ops Q (o::rest) a W :=
 BigFrame.wpList_want hgd fun K hK=>by
  unfold Oper.wp execOp
  simp only [ho,Instr.loadAt,Instr.sureAddr,Sem.run_bind,Result.andThen_ok,Sem.run_pure,hx,hr]
  exact hK _ _ k
theorem Sep.wload1b (h:Sep w0 F0 Γ W) (hgd:Region.wanted o (yielded ops a.tmps)=true) (ho:o.op = .load t x) {g j ty:Nat} {cs:List Value} {v:Value} (hx:a.eval x = .pointer (some ⟨g,j,none⟩)) (h1:OneT P t) (hm:At Γ (box g cs ty)) (hv:cs[j]? = some v)
  (k:wpList P ops Q rest (a.put o.dst v) W):wpList P ops Q (o::rest) a W:=by
 refine zcp hgd ho hx (h1.load ?_) k
 have:=h.boxAt hm j v hv
 rwa [Nat.zero_add] at this
theorem Sep.wloadNb (h:Sep w0 F0 Γ W) (hgd:Region.wanted o (yielded ops a.tmps)=true) (ho:o.op = .load t x) {g ty:Nat} {cs:List Value} (hx:a.eval x = .pointer (some ⟨g,0,none⟩)) (hm:At Γ (box g cs ty)) (h1:AggN P t cs.length)
  (k:wpList P ops Q rest (a.put o.dst (.agg cs.toArray)) W):wpList P ops Q (o::rest) a W :=
 zcp hgd ho hx (h1.load (h.boxAt hm)) k
theorem Sep.wload1c (h:Sep w0 F0 Γ W) (hgd:Region.wanted o (yielded ops a.tmps)=true) (ho:o.op = .load t x) {b q j:Nat} {cs:List Value} {v:Value} (hx:a.eval x = .pointer (some ⟨b,q+j,none⟩)) (h1:OneT P t) (hm:At Γ (cells b q cs)) (hv:cs[j]? = some v)
  (k:wpList P ops Q rest (a.put o.dst v) W):wpList P ops Q (o::rest) a W :=
 zcp hgd ho hx (h1.load (h.cellsAt hm j v hv)) k
theorem Sep.wload1z (h:Sep w0 F0 Γ W) (hgd:Region.wanted o (yielded ops a.tmps)=true) (ho:o.op = .load t x) {b q:Nat} {cs:List Value} {v:Value} (hx:a.eval x = .pointer (some ⟨b,q,none⟩)) (h1:OneT P t) (hm:At Γ (cells b q cs)) (hv:cs[0]? = some v)
  (k:wpList P ops Q rest (a.put o.dst v) W):wpList P ops Q (o::rest) a W :=
 zcp hgd ho hx (h1.load (h.cellsAt hm 0 v hv)) k
theorem Sep.wloadNz (h:Sep w0 F0 Γ W) (hgd:Region.wanted o (yielded ops a.tmps)=true) (ho:o.op = .load t x) {b q:Nat} {cs:List Value} (hx:a.eval x = .pointer (some ⟨b,q,none⟩)) (hm:At Γ (cells b q cs)) (h1:AggN P t cs.length)
  (k:wpList P ops Q rest (a.put o.dst (.agg cs.toArray)) W):wpList P ops Q (o::rest) a W :=
 zcp hgd ho hx (h1.load (h.cellsAt hm)) k
theorem zlc (hgd:Region.wanted o (yielded ops a.tmps)=true) (ho:o.op = .store t x y) {p:Addr} {v:Value} {W':World} (hx:a.eval x = .pointer (some p)) (hy:a.eval y=v) (hr:(storeVar t p v).run P W = .ok () W')
  (k:wpList P ops Q rest (a.put o.dst undef) W'):wpList P ops Q (o::rest) a W :=
 BigFrame.wpList_want hgd fun K hK=>by
  unfold Oper.wp execOp
  simp only [ho,Instr.storeAt,Instr.sureAddr,Sem.run_bind,Result.andThen_ok,Sem.run_pure,hx,hy,hr]
  exact hK _ _ k
theorem Sep.wstore1b (h:Sep w0 F0 Γ W) (hgd:Region.wanted o (yielded ops a.tmps)=true) (ho:o.op = .store t x y) {g j ty:Nat} {cs cs':List Value} {v u:Value} (hx:a.eval x = .pointer (some ⟨g,j,none⟩)) (hy:a.eval y=v) (h1:OneT P t) (hone:v.oneCell'=true)
  (hm:At Γ (box g cs ty)) (hv:cs[j]? = some u) (hc:cs.set j v=cs') (hp:Put Γ (box g cs ty) (box g cs' ty) Γ')
  (k:∀ W',Sep w0 F0 Γ' W'→wpList P ops Q rest (a.put o.dst undef) W'):wpList P ops Q (o::rest) a W:=by
 subst hc
 have hb:=(h.get hm).2
 refine zlc hgd ho hx hy (h1.store (u:=u) ?_ (zla hb) hone) (k _ (h.store v hp))
 have:=h.boxAt hm j u hv
 rwa [Nat.zero_add] at this
theorem zu0 {W:World} {g k:Nat} {cs:Array Value} (h:k≠g):(W.setRow g cs).heap[k]? = W.heap[k]?:=setRow_other W g k cs h
theorem Sep.setRow (h:Sep w0 F0 Γ W) {g ty:Nat} {cs cs':List Value} (hp:Put Γ (box g cs ty) (box g cs' ty) Γ'):Sep w0 F0 Γ' (W.setRow g cs'.toArray):=by
 refine h.put hp ⟨rfl,rfl,rfl,by simp,fun k hk hne=>zu0 (fun e=>hne (by rw [e];rfl))⟩ (fun g' hg'=>.inl hg') ?_
 intro _ _ hr
 exact ⟨hr.1,setRow_heap W g cs.toArray cs'.toArray ty _ hr.2⟩
theorem Sep.wstoreNb (h:Sep w0 F0 Γ W) (hgd:Region.wanted o (yielded ops a.tmps)=true) (ho:o.op = .store t x y) {g ty:Nat} {cs cs':List Value} (hx:a.eval x = .pointer (some ⟨g,0,none⟩)) (hy:a.eval y = .agg cs'.toArray) (h1:AggN P t cs'.length) (hone:z96 cs')
  (hm:At Γ (box g cs ty)) (hl:cs.length=cs'.length) (hp:Put Γ (box g cs ty) (box g cs' ty) Γ')
  (k:∀ W',Sep w0 F0 Γ' W'→wpList P ops Q rest (a.put o.dst undef) W'):wpList P ops Q (o::rest) a W:=by
 have hb:=(h.get hm).2
 exact zlc hgd ho hx hy (h1.store hb hl hone) (k _ (h.setRow hp))
end
end
theorem zqf (b off k:Nat):(Addr.mk b off none).add k=⟨b,off+k,none⟩:=by unfold Addr.add;split <;> simp_all
section
variable {P:Program} {w0 W:World} {F0:Nat→Prop} {Γ Γ' Γ1 Γ2:List Res}
theorem Del.sub {r:Res} (h:Del Γ r Γ1):Sub Γ1 Γ:=by
 obtain ⟨l1,l2,rfl,rfl⟩:=h
 exact ⟨[r],by simpa using List.perm_middle.trans (List.perm_append_singleton r (l1++l2)).symm⟩
theorem Del.front {r:Res} (h:Del Γ r Γ1):Sub (r::Γ1) Γ:=Sub.take h Sub.refl
theorem Sep.front (h:Sep w0 F0 Γ W) {r:Res} (hd:Del Γ r Γ1):Sep w0 F0 (r::Γ1) W:=h.sub hd.front
theorem Sep.elem (h:Sep w0 F0 Γ W) {α:Type} {S:Sh α} {xs:List α} {A:Option Addr} {n c i:Nat} (hm:At Γ (rds xs A n c S)) (hi:i<n) :
  ∃ b off z cs,A=some ⟨b,off,none⟩∧xs[i]? = some z∧Sep w0 F0 (cells b (off+i * S.size) cs::rep z cs S::Γ) W:=by
 have hr:Rds S W (Free w0.heap.size F0 Γ W) xs A n c:=h.get hm
 obtain ⟨b,off,z,cs,e,hF,hx,hz,hc⟩:=hr.at_ hi
 refine ⟨b,off,z,cs,e,hx,?_⟩
 have h1:Sep w0 F0 (rep z cs S::Γ) W:=h.add rfl hz
 exact h1.add rfl ⟨⟨hF.1,fun q hq=>by
  rcases List.mem_cons.1 hq with rfl|hq
  ·intro e;cases e
  ·exact hF.2 q hq⟩,hc⟩
section
variable {ops:Array Oper} {Q:Exit→Act→World→Prop} {a:Act} {rest:List Oper} {o:Oper} {t:TypeId} {x y:Operand}
theorem zcy {e size b off n c:Nat} {k:IntKind} {i:Int} {ie:TypeInfo} (ht:P.underlying t=some (.slice e)) (he:P.info? e=some ie) (hs:ie.size=size) (h0:0≤i) (h1:i<n) :
  (Instr.indexAt t (.slice (some ⟨b,off,none⟩) n c) (.int k i)).run P W = .ok (.pointer (some ⟨b,off+i.toNat * size,none⟩)) W:=by
 have:(0≤i∧i<n):=⟨h0,h1⟩
 simp [Instr.indexAt,asIntOf,run_underlying ht,sizeOf,typeInfo,he,hs,this,zqf]
theorem Sep.windex (h:Sep w0 F0 Γ W) (hgd:Region.wanted o (yielded ops a.tmps)=true) (ho:o.op = .indexAddr t x y) {α:Type} {S:Sh α} {xs:List α} {A:Option Addr} {n c e bytes:Nat} {kd:IntKind} {i:Int} (hx:a.eval x = .slice A n c) (hy:a.eval y = .int kd i)
  (hm:At Γ (rds xs A n c S)) (hT:SliceT P t e S.size bytes) (h0:0≤i) (h1:i<n)
  (k:∀ b q z cs,Hid (xs[i.toNat]? = some z)→Sep w0 F0 (cells b q cs::rep z cs S::Γ) W→wpList P ops Q rest (a.put o.dst (.pointer (some ⟨b,q,none⟩))) W):wpList P ops Q (o::rest) a W :=
 BigFrame.wpList_want hgd fun K hK=>by
  obtain ⟨b,off,z,cs,rfl,hz,hS⟩:=h.elem hm (i:=i.toNat) (by omega)
  obtain ⟨ht,ie,zv,he,_,hs,_⟩:=hT
  unfold Oper.wp execOp
  simp only [ho,hx,hy,Sem.run_bind,zcy ht he hs h0 h1,Result.andThen_ok,Sem.run_pure]
  exact hK _ _ (k _ _ _ _ (Lib.hid hz) hS)
theorem Sep.windexN (h:Sep w0 F0 Γ W) (hgd:Region.wanted o (yielded ops a.tmps)=true) (ho:o.op = .indexAddr t x y) {α:Type} {S:Sh α} {xs:List α} {A:Option Addr} {n c e bytes:Nat} {kd:IntKind} {i:Nat} (hx:a.eval x = .slice A n c) (hy:a.eval y = .int kd (i:Int))
  (hm:At Γ (rds xs A n c S)) (hT:SliceT P t e S.size bytes) (h1:i<n)
  (k:∀ b q z cs,Hid (xs[i]? = some z)→Sep w0 F0 (cells b q cs::rep z cs S::Γ) W→wpList P ops Q rest (a.put o.dst (.pointer (some ⟨b,q,none⟩))) W):wpList P ops Q (o::rest) a W :=
 h.windex hgd ho hx hy hm hT (by omega) (by omega) fun b q z cs hz hS=>k b q z cs (by simpa using hz) hS
theorem Sep.freezeRow (h:Sep w0 F0 Γ W) {α:Type} {S:Sh α} {e:Nat} {v:Value} {xs:List α} (hd:Del Γ (row e v xs S) Γ1):∃ A n c,v = .slice A n c∧n=xs.length∧Sep w0 F0 (rds xs A n c S::Γ1) W:=by
 have h1:=h.front hd
 obtain ⟨zs,hz1,hz2,hz3⟩:=h1.get At.z
 have hn:zs.length=xs.length:=by rw [← hz1];simp
 have key:∀ F:Nat→Prop,(∀ b,Free w0.heap.size F0 (row e v xs S::Γ1) W b∨(v.ownBlock=some b∧w0.heap.size≤b∧b<W.heap.size)→F b)→∃ A c,v = .slice A xs.length c∧Rds S W F xs A xs.length c:=by
  intro F hF
  have hz2':W.ownsRow w0.heap.size e S.size v xs.length (flat zs):=hz2
  rcases hz2'.2 with ⟨hv,h0⟩|⟨g,cap,cur,hv,hg,hh,r⟩
  ·have hx:xs=[]:=List.eq_nil_of_length_eq_zero h0
   subst hx
   exact ⟨none,0,hv,Rds.nil _ _ _⟩
  ·have hgF:F g:=hF g (.inr ⟨by rw [hv];rfl,hg,z9n hh⟩)
   obtain ⟨hnc,hcm,hcs,hta⟩:=r
   refine ⟨_,_,hv,rfl,hnc,by unfold maxLen at hcm;omega,fun hpos=>⟨g,0,rfl,hgF,fun i hi=>?_⟩⟩
   have hi':i<zs.length:=by omega
   refine ⟨zs[i].2,?_,fun j u hj=>?_⟩
   ·have e1:xs[i]=zs[i].1:=by simp [← hz1]
    rw [e1]
    exact S.more (fun b hb=>hF b (.inl hb)) (hz3 _ (List.getElem_mem hi'))
   ·have hjl:j<S.size:=by
     have:=S.len (hz3 _ (List.getElem_mem hi'))
     have:=(List.getElem?_eq_some_iff.1 hj).1
     omega
    have e1:=zgf (fun z hz'=>S.len (hz3 z hz')) (List.getElem?_eq_getElem hi') hjl
    rw [hj,← hta,List.getElem?_take] at e1
    split at e1
    ·rw [cell_of_row W g _ cur _ (0,0) hh,Nat.zero_add];simpa using e1
    ·cases e1
 obtain ⟨A,c,hv,_⟩:=key (fun _=>True) (fun _ _=>trivial)
 refine ⟨A,xs.length,c,hv,rfl,h1.freeze (r':=rds xs A xs.length c S) Put.z rfl ?_⟩
 intro hF _
 obtain ⟨A',c',hv',hr⟩:=key _ hF
 rw [hv] at hv'
 simp only [Value.slice.injEq] at hv'
 obtain ⟨rfl,_,rfl⟩:=hv'
 exact hr
theorem Sep.rowSlice (h:Sep w0 F0 Γ W) {α:Type} {S:Sh α} {e:Nat} {v:Value} {xs:List α} (hm:At Γ (row e v xs S)):∃ A c,v = .slice A xs.length c∧xs.length≤c∧c≤9223372036854775807:=by
 obtain ⟨zs,hz1,hz2,hz3⟩:=h.get hm
 have hz2':W.ownsRow w0.heap.size e S.size v xs.length (flat zs):=hz2
 rcases hz2'.2 with ⟨hv,h0⟩|⟨g,cap,cur,hv,hg,hh,hnc,hcm,r⟩
 ·exact ⟨none,0,by rw [hv,h0],by omega,by omega⟩
 ·exact ⟨_,cap,hv,hnc,by unfold maxLen at hcm;omega⟩
end
theorem Sep.pure (h:Sep w0 F0 Γ W) {α:Type} {S:Sh α} {z:α} {cs:List Value} (hz:∀ W F,S.rep W F z cs):Sep w0 F0 (rep z cs S::Γ) W:=h.add rfl (hz _ _)
theorem Sep.open_int (h:Sep w0 F0 Γ W) {x:Int} {cs:List Value} (hm:At Γ (rep x cs shInt)):cs=[.int .i64 x]∧I64 x:=h.get hm
theorem Sep.open_str (h:Sep w0 F0 Γ W) {x:List UInt8} {cs:List Value} (hm:At Γ (rep x cs shStr)):cs=[.string ⟨x.toArray⟩]∧x.length≤9223372036854775807:=h.get hm
theorem Sep.open_op (h:Sep w0 F0 Γ W) {x:Op} {cs:List Value} (hm:At Γ (rep x cs shOp)):cs=[.int .i64 x.kind,.int .i64 x.n]∧I64 x.kind∧I64 x.n:=zw0 (h.get hm)
theorem Sep.open_point (h:Sep w0 F0 Γ W) {x:Point} {cs:List Value} (hm:At Γ (rep x cs shPoint)):cs=[.int .i64 x.tx,.int .i64 x.at_]∧I64 x.tx∧I64 x.at_:=zbe (h.get hm)
theorem Sep.open_in (h:Sep w0 F0 Γ W) {x:In} {cs:List Value} (hm:At Γ (rep x cs shIn)):∃ A n c,cs=[.int .i64 x.p.tx,.int .i64 x.p.at_,.slice A n c]∧I64 x.p.tx∧I64 x.p.at_∧Sep w0 F0 (rds x.key A n c shOp::Γ) W:=by
 obtain ⟨A,n,c,e,h1,h2,h3⟩:=zl3 (h.get hm)
 exact ⟨A,n,c,e,h1,h2,h.add rfl h3⟩
theorem Sep.open_out (h:Sep w0 F0 Γ W) {x:Out} {cs:List Value} (hm:At Γ (rep x cs shOut)):∃ A n c,cs=[.int .i64 x.coin,.slice A n c]∧I64 x.coin∧Sep w0 F0 (rds x.lock A n c shOp::Γ) W:=by
 obtain ⟨A,n,c,e,h1,h3⟩:=zcj (h.get hm)
 exact ⟨A,n,c,e,h1,h.add rfl h3⟩
theorem Sep.open_tx (h:Sep w0 F0 Γ W) {x:Tx} {cs:List Value} (hm:At Γ (rep x cs shTx)):∃ A n c A' n' c',cs=[.int .i64 x.height,.slice A n c,.slice A' n' c']∧I64 x.height∧Sep w0 F0 (rds x.ins A n c shIn::rds x.outs A' n' c' shOut::Γ) W:=by
 obtain ⟨A,n,c,A',n',c',e,h1,h3,h4⟩:=zl4 (h.get hm)
 exact ⟨A,n,c,A',n',c',e,h1,h.add2 rfl rfl h3 h4⟩
theorem Sep.open_book (h:Sep w0 F0 Γ W) {x:Book} {cs:List Value} (hm:At Γ (rep x cs shBook)):∃ A n c,cs=[.slice A n c]∧Sep w0 F0 (rds x.texts A n c shStr::Γ) W:=by
 obtain ⟨A,n,c,e,h3⟩:=zdq (h.get hm)
 exact ⟨A,n,c,e,h.add rfl h3⟩
theorem Sep.open_undo (h:Sep w0 F0 Γ W) {x:Undo} {cs:List Value} (hm:At Γ (rep x cs shUndo)):∃ A n c,cs=[.slice A n c]∧Sep w0 F0 (rds x.spent A n c shCoin::Γ) W:=by
 obtain ⟨A,n,c,e,h3⟩:=zyo (h.get hm)
 exact ⟨A,n,c,e,h.add rfl h3⟩
theorem Sep.open_coin (h:Sep w0 F0 Γ W) {x:Coin} {cs:List Value} (hm:At Γ (rep x cs shCoin)):∃ A n c,cs=[.int .i64 x.p.tx,.int .i64 x.p.at_,.int .i64 x.o.coin,.slice A n c,.int .i64 x.height,.bool x.reward]∧I64 x.p.tx∧I64 x.p.at_∧I64 x.o.coin∧I64 x.height∧Sep w0 F0 (rds x.o.lock A n c shOp::Γ) W:=by
 obtain ⟨A,n,c,e,h1,h2,h3,h4,h5⟩:=zyn (h.get hm)
 exact ⟨A,n,c,e,h1,h2,h3,h4,h.add rfl h5⟩
theorem Sep.open_block (h:Sep w0 F0 Γ W) {x:Block} {cs:List Value} (hm:At Γ (rep x cs shBlock)):∃ A n c,cs=[.int .i64 x.parent,.int .i64 x.height,.int .i64 x.work,.int .i64 x.nonce,.slice A n c]∧I64 x.parent∧I64 x.height∧I64 x.work∧I64 x.nonce∧Sep w0 F0 (rds x.txs A n c shTx::Γ) W:=by
 obtain ⟨A,n,c,e,h1,h2,h3,h4,h5⟩:=zi0 (h.get hm)
 exact ⟨A,n,c,e,h1,h2,h3,h4,h.add rfl h5⟩
theorem Sep.open_tree (h:Sep w0 F0 Γ W) {x:Tree} {cs:List Value} (hm:At Γ (rep x cs shTree)):∃ A n c A' n' c',cs=[.slice A n c,.slice A' n' c']∧Sep w0 F0 (rds x.names A n c shInt::rds x.blocks A' n' c' shBlock::Γ) W:=by
 obtain ⟨A,n,c,A',n',c',e,h3,h4⟩:=zl5 (h.get hm)
 exact ⟨A,n,c,A',n',c',e,h.add2 rfl rfl h3 h4⟩
theorem Sep.open_node (h:Sep w0 F0 Γ W) {x:Node} {cs:List Value} (hm:At Γ (rep x cs shNode)):∃ A n c A' n' c' A2 n2 c2,cs=[.slice A n c,.slice A' n' c',.slice A2 n2 c2,.int .i64 x.tip]∧I64 x.tip∧Sep w0 F0 (rds x.t.names A n c shInt::rds x.t.blocks A' n' c' shBlock::rds x.pool A2 n2 c2 shTx::Γ) W:=by
 obtain ⟨A,n,c,A',n',c',A2,n2,c2,e,h3,h4,h5,h6⟩:=zyp (h.get hm)
 exact ⟨A,n,c,A',n',c',A2,n2,c2,e,h6,h.add3 rfl rfl rfl h3 h4 h5⟩
theorem Sep.mk_tx (h:Sep w0 F0 Γ W) {k:Int} {ins:List In} {outs:List Out} {A:Option Addr} {n c:Nat} {A':Option Addr} {n' c':Nat} (hm:At Γ (rds ins A n c shIn)) (hm':At Γ (rds outs A' n' c' shOut)) (h1:I64 k):Sep w0 F0 (rep ⟨k,ins,outs⟩ [.int .i64 k,.slice A n c,.slice A' n' c'] shTx::Γ) W:=h.add rfl (z04o (x:=⟨k,ins,outs⟩) h1 (h.get hm) (h.get hm'))
theorem Sep.addRow {W':World} (h:Sep w0 F0 Γ W) {α:Type} {S:Sh α} {e:Nat} {v:Value} {xs:List α} {zs:List (α × List Value)} (hg:W.grownBy W' none) (h1:zs.map (·.1)=xs) (h3:W'.ownsRow W.heap.size e S.size v xs.length (flat zs)) (h2:∀ z ∈ zs,S.rep W (Free w0.heap.size F0 Γ W) z.1 z.2) :
  Sep w0 F0 (Proofs.YtnklncinjahckaaDoor.row e v xs S::Γ) W':=by
 have hge:∀ g,v.ownBlock=some g→W.heap.size≤g:=fun g hg=>(h3.lt g hg).1
 refine h.grow hg ⟨zs,h1,?_,fun z hz=>S.more (fun b hb=>?_) (S.keep (fun b hb=>hg.block b (Free.lt h hb) (by simp)) (h2 z hz))⟩ hge
 ·refine ⟨h3.1,?_⟩
  have hsz:=h.size
  rcases h3.2 with h0|⟨g,cap,cur,hv,hg,r⟩
  ·exact .inl h0
  ·exact .inr ⟨g,cap,cur,hv,by omega,r⟩
 ·have hlt:=Free.lt h hb
  refine ⟨hb.1.imp (fun x=>x) (fun x=>⟨x.1,Nat.lt_of_lt_of_le x.2 hg.size⟩),fun q hq=>?_⟩
  rcases List.mem_cons.1 hq with rfl|hq
  ·intro e
   have:=hge b e
   omega
  ·exact hb.2 q hq
theorem Sep.lit (h:Sep w0 F0 Γ W) {α:Type} {S:Sh α} {g e:Nat} {cs:List Value} (zs:List (α × List Value)) (hd:Del Γ (Proofs.YtnklncinjahckaaDoor.box g cs e) Γ1) (hc:cs=flat zs) (hz:∀ z ∈ zs,At Γ1 (rep z.1 z.2 S)) (hn:zs.length≤1000000):Sep w0 F0 (rds (zs.map (·.1)) (some ⟨g,0,none⟩) zs.length zs.length S::Γ1) W:=by
 have h1:=h.front hd
 refine h1.freeze (r':=rds (zs.map (·.1)) (some ⟨g,0,none⟩) zs.length zs.length S) Put.z rfl ?_
 intro hF hb
 have hb':w0.heap.size≤g∧W.heap[g]? = some (.cells cs.toArray e (0,0)):=hb
 refine Rds.of_block (zs:=zs) (F:=Free w0.heap.size F0 (rds (zs.map (·.1)) (some ⟨g,0,none⟩) zs.length zs.length S::Γ1) W) hb'.2 (by simp [hc]) (fun z hz'=>?_) (hF g (.inr ⟨rfl,hb'.1,z9n hb'.2⟩)) (Nat.le_refl _) (by omega)
 have h2:S.rep W (Free w0.heap.size F0 (Proofs.YtnklncinjahckaaDoor.box g cs e::Γ1) W) z.1 z.2:=h1.get (At.s (hz z hz'))
 exact S.more (fun b hb=>hF b (.inl hb)) h2
theorem Sep.getRds (h:Sep w0 F0 Γ W) {α:Type} {S:Sh α} {xs:List α} {A:Option Addr} {n c:Nat} (hm:At Γ (rds xs A n c S)):Rds S W (Free w0.heap.size F0 Γ W) xs A n c:=h.get hm
theorem Sep.ltsRds (h:Sep w0 F0 Γ W) {α:Type} {S:Sh α} {xs:List α} {A:Option Addr} {n c:Nat} (hm:At Γ (rds xs A n c S)):Rds S W (Lt W.heap.size) xs A n c:=h.lts hm
theorem Sep.ltsRep (h:Sep w0 F0 Γ W) {α:Type} {S:Sh α} {x:α} {cs:List Value} (hm:At Γ (rep x cs S)):S.rep W (Lt W.heap.size) x cs:=h.lts hm
theorem Sep.getRep (h:Sep w0 F0 Γ W) {α:Type} {S:Sh α} {x:α} {cs:List Value} (hm:At Γ (rep x cs S)):S.rep W (Free w0.heap.size F0 Γ W) x cs:=h.get hm
theorem Sep.getRow (h:Sep w0 F0 Γ W) {α:Type} {S:Sh α} {e:Nat} {v:Value} {xs:List α} (hm:At Γ (row e v xs S)):∃ zs:List (α × List Value),zs.map (·.1)=xs∧W.ownsRow w0.heap.size e S.size v xs.length (flat zs)∧∀ z ∈ zs,S.rep W (Free w0.heap.size F0 Γ W) z.1 z.2:=h.get hm
theorem Sep.putRow {W':World} {α:Type} {S:Sh α} {e:Nat} {v:Value} {xs xs':List α} (h:Sep w0 F0 (Proofs.YtnklncinjahckaaDoor.row e v xs S::Γ) W) (hg:W.grownBy W' v.ownBlock)
  (hr:(∀ b,Free w0.heap.size F0 (Proofs.YtnklncinjahckaaDoor.row e v xs S::Γ) W b→Free w0.heap.size F0 (Proofs.YtnklncinjahckaaDoor.row e v xs' S::Γ) W' b)→Agree (Free w0.heap.size F0 (Proofs.YtnklncinjahckaaDoor.row e v xs S::Γ) W) W W'→∀ zs:List (α × List Value),zs.map (·.1)=xs→W.ownsRow w0.heap.size e S.size v xs.length (flat zs)→(∀ z ∈ zs,S.rep W (Free w0.heap.size F0 (Proofs.YtnklncinjahckaaDoor.row e v xs S::Γ) W) z.1 z.2) →
   ∃ zs:List (α × List Value),zs.map (·.1)=xs'∧W'.ownsRow w0.heap.size e S.size v xs'.length (flat zs)∧∀ z ∈ zs,S.rep W' (Free w0.heap.size F0 (Proofs.YtnklncinjahckaaDoor.row e v xs' S::Γ) W') z.1 z.2):Sep w0 F0 (Proofs.YtnklncinjahckaaDoor.row e v xs' S::Γ) W' :=
 h.put (r:=Proofs.YtnklncinjahckaaDoor.row e v xs S) (r':=Proofs.YtnklncinjahckaaDoor.row e v xs' S) Put.z hg (fun g hg=>.inl hg) (fun hf ha ⟨zs,h1,h2,h3⟩=>hr hf ha zs h1 h2 h3)
theorem Sep.getBox (h:Sep w0 F0 Γ W) {g t:Nat} {cs:List Value} (hm:At Γ (box g cs t)):w0.heap.size≤g∧W.heap[g]? = some (.cells cs.toArray t (0,0)):=h.get hm
theorem Sep.len (h:Sep w0 F0 Γ W) {α:Type} {S:Sh α} {xs:List α} {A:Option Addr} {n c:Nat} (hm:At Γ (rds xs A n c S)):xs.length=n∧n≤c∧c≤9223372036854775807:=⟨(h.getRds hm).1,(h.getRds hm).2.1,(h.getRds hm).2.2.1⟩
theorem Sep.addRep (h:Sep w0 F0 Γ W) {α:Type} {S:Sh α} {x:α} {cs:List Value} (hr:S.rep W (Free w0.heap.size F0 Γ W) x cs):Sep w0 F0 (rep x cs S::Γ) W:=h.add rfl hr
end
attribute [irreducible] zdw rds rep cells box row At Put Del Sub
end
section
open Go.RowKit
set_option maxRecDepth 100000
def eqB {α:Type} [DecidableEq α] (xs ys:List α):Bool:=decide (xs=ys)
end
section
open Go.RowKit
set_option maxRecDepth 100000
theorem Rds.op {w:World} {F:Nat→Prop} {xs:List Op} {A:Option Addr} {n c k:Nat} (h:Rds shOp w F xs A n c) (hk:k<n) :
  ∃ b off x,A=some ⟨b,off,none⟩∧F b∧xs[k]? = some x∧(w.cell? ⟨b,off+k * 2,none⟩=some (.int .i64 x.kind)∧w.cell? ⟨b,off+k * 2+1,none⟩=some (.int .i64 x.n))∧I64 x.kind∧I64 x.n:=by
 obtain ⟨b,off,x,cs,e,hF,hx,hr,hc⟩:=h.at_ hk
 obtain ⟨rfl,h1,h2⟩:=zw0 hr
 exact ⟨b,off,x,e,hF,hx,⟨by simpa [shOp,z2g,shInt] using hc 0 _ rfl,by simpa [shOp,z2g,shInt] using hc 1 _ rfl⟩,h1,h2⟩
theorem zyv (xs ys:List (Op)) (A A':Option Addr) (n c n' c':Nat) (w:World) (F F':Nat→Prop) (h:Rds shOp w F xs A n c) (h':Rds shOp w F' ys A' n' c') :
  Calls Tryd.prog 31 #[.slice A n c,.slice A' n' c'] w fun e w'=>e = .returned (.bool (eqB xs ys))∧∃ m,w'=w.drewN m:=by
 have hn:=h.2.1
 have hc:=h.2.2.1
 have hn':=h'.2.1
 have hc':=h'.2.2.1
 by_cases hl:n=n'
 ·obtain rfl:=hl
  go_enter Tryd.func31,Tryd.ntmps31
  go_wp2
  go_loopw [5,13] (fun _ i wr=>∃ (k m:Nat),k≤n∧i = .int .i64 k∧wr=w.drewN m∧xs.take k=ys.take k) (fun _ i _=>n - (intOf i).toNat)
  case atStart=>exact ⟨0,0,by omega,rfl,rfl,rfl⟩
  case round =>
   obtain ⟨k,m,hk,rfl,rfl,hs⟩:=hrel
   by_cases hlt:k<n
   ·obtain ⟨b,off,x,rfl,-,hx,hcell,x0⟩:=h.op hlt
    obtain ⟨b',off',y,rfl,-,hy,hcell',y0⟩:=h'.op hlt
    have Hs:=Lib.hid hs
    have Hx:=Lib.hid hx
    have Hy:=Lib.hid hy
    have i1:(0:Int)≤(k:Int):=by omega
    have i2:(k:Int)<(n:Int):=by omega
    clear hs hx hy h h' x0 y0
    by_cases hxy:x=y
    ·subst hxy
     go_wp2
     go_quiet (fail)
     go_wp2
     go_roundw
     case measure=>simp [intOf];omega
     case rel=>exact ⟨k+1,_,by omega,by go_num,rfl,by rw [z39 Hx.out,z39 Hy.out,Hs.out]⟩
    ·have hne:eqB xs ys=false:=by
      have:xs≠ys:=fun e=>hxy (by have:=Hx.out;rw [e,Hy.out] at this;injection this with this;exact this.symm)
      simp [eqB,this]
     obtain ⟨xk,xn⟩:=x
     obtain ⟨yk,yn⟩:=y
     by_cases h1:xk=yk
     ·subst h1
      have h2:(xn == yn)=false:=by simpa using hxy
      clear hxy
      go_wp2
      go_quiet (fail)
      go_wp2
      all_goals (go_ret;refine ⟨z3y ?_,_,World.drewN_drewN _ _ _⟩;exact hne.symm)
     ·have h2:(xk == yk)=false:=by simpa using h1
      clear hxy h1
      go_wp2
      go_quiet (fail)
      go_wp2
      all_goals (go_ret;refine ⟨z3y ?_,_,World.drewN_drewN _ _ _⟩;exact hne.symm)
   ·obtain rfl:k=n:=by omega
    have Hs:=Lib.hid hs
    clear hs
    go_wp2
    go_ret
    refine ⟨z3y ?_,_,rfl⟩
    have:=Hs.out
    rw [List.take_of_length_le (by have:=h.1;omega),List.take_of_length_le (by have:=h'.1;omega)] at this
    simp [eqB,this]
 ·have hd:((n:Int) == (n':Int))=false:=by simp;omega
  have e:eqB xs ys=false:=by
   have:xs≠ys:=fun e=>hl (by rw [← h.1,← h'.1,e])
   simp [eqB,this]
  rw [e]
  clear hl e
  go_enter Tryd.func31,Tryd.ntmps31
  go_wp2
  go_ret
  exact ⟨rfl,0,rfl⟩
def z0r {α:Type} [DecidableEq α] (x:α):List α→Nat→Int
 | [],_ => -1
 | y::l,k=>if x=y then k else z0r x l (k+1)
def idx {α:Type} [DecidableEq α] (xs:List α) (x:α):Int:=z0r x xs 0
def zyw {α:Type} [DecidableEq α] (xs:List α) (x:α):Bool:=decide (x ∈ xs)
theorem zw8 {α:Type} [DecidableEq α] (x:α) (l:List α) (k:Nat):(0≤z0r x l k↔x ∈ l):=by
 induction l generalizing k with
 | nil=>simp [z0r]
 | cons y l ih =>
  by_cases h:x=y
  ·subst h;simp [z0r]
  ·rw [z0r,if_neg h,ih (k+1)];simp [h]
theorem z01f {α:Type} [DecidableEq α] (xs:List α) (x:α):(0≤idx xs x↔x ∈ xs):=zw8 x xs 0
theorem zyx {α:Type} [DecidableEq α] (x:α) (l:List α) (k:Nat) : -1≤z0r x l k∧z0r x l k<k+l.length∨z0r x l k = -1:=by
 induction l generalizing k with
 | nil=>simp [z0r]
 | cons y l ih =>
  by_cases h:x=y
  ·subst h;simp [z0r];omega
  ·simp only [z0r,if_neg h,List.length_cons]
   rcases ih (k+1) with h|h
   ·left;omega
   ·right;exact h
theorem zw9 {α:Type} [DecidableEq α] (xs:List α) (x:α) : -1≤idx xs x∧idx xs x≤xs.length:=by
 rcases zyx x xs 0 with h|h <;> unfold idx <;> omega
theorem zbk (xs:List (List UInt8)) (y:List UInt8) (A:Option Addr) (n c:Nat) (w:World) (F:Nat→Prop) (h:Rds shStr w F xs A n c) :
  Calls Tryd.prog 43 #[.slice A n c,.string ⟨y.toArray⟩] w fun e w'=>e = .returned (.int .i64 (idx xs y))∧w=w':=by
 have hn:=h.2.1
 have hc:=h.2.2.1
 go_enter Tryd.func43,Tryd.ntmps43
 go_wp2
 go_loop [5,8] (fun _ i=>∃ (k:Nat),k≤n∧i = .int .i64 k∧z0r y (xs.drop k) k=idx xs y) (fun _ i=>n - (intOf i).toNat)
 case atStart=>exact ⟨0,by omega,rfl,rfl⟩
 case round =>
  obtain ⟨k,hk,rfl,hs⟩:=hrel
  by_cases hlt:k<n
  ·obtain ⟨b,off,x,rfl,-,hx,hcell,x0⟩:=h.str hlt
   rw [z38 hx,z0r] at hs
   clear hx h x0
   by_cases hxy:y=x
   ·subst hxy
    rw [if_pos rfl] at hs
    have Hs:=Lib.hid hs
    clear hs
    go_wp2
    go_ret
    exact ⟨z08 Hs.out,rfl⟩
   ·rw [if_neg hxy] at hs
    have Hs:=Lib.hid hs
    clear hs
    have hd:(y == x)=false:=by simpa using hxy
    clear hxy
    go_wp2
    go_round
    case measure=>simp [intOf];omega
    case rel=>exact ⟨k+1,by omega,by go_num,Hs.out⟩
  ·obtain rfl:k=n:=by omega
   have Hs:=Lib.hid hs
   clear hs
   go_wp2
   go_ret
   have:=Hs.out
   rw [List.drop_eq_nil_of_le (by have:=h.1;omega),z0r] at this
   exact ⟨z08 this,rfl⟩
end
section
open Go.RowKit
set_option maxRecDepth 100000
theorem z00j (s:List UInt8):(⟨s.toArray⟩:ByteArray).size=s.length:=by simp [ByteArray.size]
theorem zyy {w w1:World} {cs cs2:Array Value} {t t2:Nat} (hb:Below ((w.alloc (.cells cs t)).alloc (.cells cs2 t2)).heap.size ((w.alloc (.cells cs t)).alloc (.cells cs2 t2)) w1) :
  (∀ i,w1.cell? ⟨w.heap.size,i,none⟩=cs[i]?)∧(∀ i,w1.cell? ⟨w.heap.size+1,i,none⟩=cs2[i]?)∧(∀ i,w1.frozen? ⟨w.heap.size,i,none⟩=false)∧(∀ i,w1.frozen? ⟨w.heap.size+1,i,none⟩=false)∧w.heap.size+1<w1.heap.size:=by
 have h1:w1.heap[w.heap.size]? = some (.cells cs t (0,0)):=by rw [hb.block _ (by simp;omega),Below.heap_alloc _ _ _ (by simp),heap_alloc_new]
 have h2:w1.heap[w.heap.size+1]? = some (.cells cs2 t2 (0,0)):=by
  have:=heap_alloc_new (w.alloc (.cells cs t)) (.cells cs2 t2)
  simp only [World.size_alloc] at this
  rw [hb.block _ (by simp),this]
 refine ⟨fun i=>cell_of_row _ _ _ _ _ _ h1,fun i=>cell_of_row _ _ _ _ _ _ h2,fun i=>frozen_of_row _ _ _ _ _ h1,fun i=>frozen_of_row _ _ _ _ _ h2,?_⟩
 have:=hb.size
 simp at this
 omega
def zbl:List (List UInt8)→DataW Unit
 | []=>.map []
 | s::l=>(zbl l).put (.string s) (.lit (.bool true))
theorem zyz (l:List (List UInt8)):Maps.IsMap (zbl l):=by
 induction l with
 | nil=>exact ⟨[],rfl⟩
 | cons s l ih =>
  obtain ⟨es,h⟩:=ih
  rw [zbl,h]
  exact ⟨_,rfl⟩
theorem z01g (l:List (List UInt8)) (s:List UInt8):(zbl l).atKey (.string s) (.lit (.bool false)) = .lit (.bool (decide (s ∈ l))):=by
 induction l with
 | nil=>rfl
 | cons t l ih =>
  rw [zbl]
  by_cases h:s=t
  ·subst h
   rw [Maps.atKey_put_same (zyz l) (by trivial)]
   simp
  ·rw [Maps.atKey_put_other (by intro e;injection e with e;exact h e),ih]
   simp [h]
def z44:List (List UInt8)→List (List UInt8)→Int
 | [],_=>0
 | s::l,seen=>if 4000<s.length then 2 else if s ∈ seen then 6 else z44 l (s::seen)
def zo (b:Book):Int:=if 120<b.texts.length then 2 else z44 b.texts []
theorem zqh {P:Program} {k e t:TypeId} {w:World} {b n:Nat} {l:List (List UInt8)} (h:w.ownsMap P k (plainElem P e) b n (zbl l)) (hk:P.underlying k=some .string) (ht:P.underlying t=some (.map k e)) (he:P.underlying e=some .bool)
  (hz:(zeroValue e).run P w = .ok (.bool false) w) (s:List UInt8) (hs:s.length≤9223372036854775807) :
  (Instr.lookup t (.map (some b)) (.string ⟨s.toArray⟩) false).run P w = .ok (.bool (decide (s ∈ l))) w:=by
 have hkey:=WideMaps.keyOf_string_mk (P:=P) hk (s:=⟨s.toArray⟩) (by rw [z00j];unfold maxLen;exact hs)
 obtain ⟨v,ps,hrun,hv⟩:=h.lookup (Maps.string_keyed hk) ht hz (plainElem_bool he false) hkey
 have e1:((⟨s.toArray⟩:ByteArray).data.toList)=s:=rfl
 rw [e1,z01g] at hv
 unfold plainElem at hv
 rw [he] at hv
 cases v <;> simp at hv
 obtain ⟨hv,_⟩:=hv
 rw [hrun,hv]
theorem zaw (bk:Book) (cs:List Value) (w:World) (F:Nat→Prop) (h:shBook.rep w F bk cs) (hF:∀ b,F b→b<w.heap.size) :
  Calls Tryd.prog 19 #[.agg cs.toArray] w fun e w'=>e = .returned (.int .i64 (zo bk))∧Below w.heap.size w w':=by
 obtain ⟨A,n,c,rfl,hr⟩:=zdq h
 obtain ⟨texts⟩:=bk
 simp only at hr
 have hn:=hr.2.1
 have hc:=hr.2.2.1
 have hl:=hr.1
 have hmm:=@run_makeMap Tryd.prog
 have hzf:∀ W:World,(zeroValue 4).run Tryd.prog W = .ok (.bool false) W:=fun W=>by kernel_rfl
 by_cases h120:120<n
 ·have e:zo ⟨texts⟩=2:=by simp only [zo];rw [if_pos (by omega)]
  rw [e]
  clear e hl
  go_enter Tryd.func19,Tryd.ntmps19
  go_wp2
  go_ret
  exact ⟨rfl,(Below.refl _ _).alloc (Nat.le_refl _) _⟩
 ·have e:zo ⟨texts⟩=z44 texts []:=by simp only [zo];rw [if_neg (by omega)]
  rw [e]
  have HR:=Lib.hid hr
  have HZ:=Lib.hid hzf
  clear e hl hr h hzf
  go_enter Tryd.func19,Tryd.ntmps19
  go_wp2
  go_loopw [5,14] (fun _ i wr=>∃ k:Nat,k≤n∧i = .int .i64 k∧wr.ownsMap Tryd.prog 9 (plainElem Tryd.prog 4) (w.heap.size+1) k (zbl (texts.take k).reverse)∧z44 (texts.drop k) (texts.take k).reverse=z44 texts []∧Below w.heap.size w wr) (fun _ i _=>n - (intOf i).toNat)
  case atStart =>
   refine ⟨0,by omega,rfl,?_,rfl,((Below.refl _ _).alloc (Nat.le_refl _) _).alloc (by simp) _⟩
   have:=World.ownsMap_made (H:=Unit) (w.alloc (.cells #[.slice A n c] 24)) Tryd.prog 9 (plainElem Tryd.prog 4)
   simpa [zbl] using this
  case round =>
   obtain ⟨k,hk,rfl,hown,hs,hb⟩:=hrel
   by_cases hlt:k<n
   ·obtain ⟨b,off,x,rfl,hFb,hx,hcell,x0⟩:=HR.out.str hlt
    rw [← hb.cell (p:=⟨b,off+k,none⟩) (hF b hFb)] at hcell
    rw [z38 hx,z44] at hs
    have ht:=z39 hx
    have hlk:=zqh hown Tryd.underlying9 Tryd.underlying106 Tryd.underlying4 (HZ.out wr) x x0
    simp only [List.mem_reverse] at hlk hs
    have HO:=Lib.hid hown
    have HB:=Lib.hid hb
    have HT:=Lib.hid ht
    have HX:=Lib.hid hx
    have kx:=Lib.hid (WideMaps.keyOf_string_mk (P:=Tryd.prog) Tryd.underlying9 (s:=⟨x.toArray⟩) (by rw [z00j];unfold maxLen;exact x0))
    clear hown hb ht hx
    by_cases h4:4000<x.length
    ·rw [if_pos h4] at hs
     have HS:=Lib.hid hs
     clear hs hlk
     go_wp2
     go_ret
     exact ⟨z08 HS.out,HB.out⟩
    ·rw [if_neg h4] at hs
     by_cases hm:x ∈ texts.take k
     ·rw [if_pos hm] at hs
      rw [decide_eq_true hm] at hlk
      have HS:=Lib.hid hs
      clear hs hm
      go_wp2
      go_ret
      exact ⟨z08 HS.out,HB.out⟩
     ·rw [if_neg hm] at hs
      rw [decide_eq_false hm] at hlk
      have HS:=Lib.hid hs
      clear hs hm
      go_wp2_with (at_mapUpdate;refine wpList_mapUpdate_own _ rfl _ _ _ 106 rfl 9 4 (Maps.string_keyed Tryd.underlying9) Tryd.underlying106 (plainElem Tryd.prog 4) (w.heap.size+1) k _ rfl HO.out (by unfold maxLen;omega) _ _ (.string x) rfl rfl kx.out (.lit (.bool true)) [] (plainElem_bool Tryd.underlying4 true) ?_;intro w1 hown1 hgr1)
      go_roundw
      case measure=>simp [intOf];omega
      case rel =>
       refine ⟨k+1,by omega,by go_num,?_,?_,HB.out.grown hgr1 HB.out.size (fun j hj=>by injection hj with hj;omega)⟩
       ·rw [HT.out,List.reverse_append];exact hown1
       ·rw [HT.out,List.reverse_append];exact HS.out
   ·obtain rfl:k=n:=by omega
    have HS:=Lib.hid hs
    clear hs
    go_wp2
    go_ret
    have:=HS.out
    rw [List.drop_eq_nil_of_le (by have:=HR.out.1;omega),z44] at this
    exact ⟨z08 this,hb⟩
def Mid (w w':World):Nat→Prop:=fun b=>w.heap.size≤b∧b<w'.heap.size
def z01h (w:World) (l:List (List UInt8)) (a b:Int) (e:Ending) (w':World):Prop :=
 ∃ A n c,e = .returned (.tuple #[.slice A n c,.int .i64 a,.int .i64 b])∧Rds shStr w' (Mid w w') l A n c∧Below w.heap.size w w'
def z24 (l:List (List UInt8)) (s:List UInt8):List (List UInt8):=if 0≤idx l s then l else if l.length=120 then [] else l++[s]
def z1t (l:List (List UInt8)) (s:List UInt8):Int:=if 0≤idx l s then idx l s+1 else if l.length=120 then 0 else l.length+1
def z1m (l:List (List UInt8)) (s:List UInt8):Int:=if 0≤idx l s then 0 else if l.length=120 then 12 else 0
theorem zz0:∃ i z,Tryd.prog.info? 9=some i∧i.zero=some z∧i.size=1∧i.bytes=16∧z.cells.size=1:=by
 have h1:(Tryd.prog.info? 9).map (fun i=>(i.zero.map (·.cells.size),i.size,i.bytes))=some (some 1,1,16):=by kernel_rfl
 match hh:Tryd.prog.info? 9,h1 with
 | some i,h1 =>
  simp only [Option.map_some,Option.some.injEq,Prod.mk.injEq] at h1
  match hz:i.zero,h1 with
  | some z,h1=>exact ⟨i,z,rfl,hz,h1.2.1,h1.2.2,by simpa using h1.1⟩
theorem zz1 (l:List (List UInt8)) (s:List UInt8) (A:Option Addr) (n c:Nat) (w:World) (F:Nat→Prop) (h:Rds shStr w F l A n c) (hF:∀ b,F b→b<w.heap.size) (hn:n≤1000000) (hs:s.length≤9223372036854775807) :
  Calls Tryd.prog 21 #[.slice A n c,.string ⟨s.toArray⟩] w (z01h w (z24 l s) (z1t l s) (z1m l s)):=by
 have hbd:=zw9 l s
 have hln:=h.1
 have hc:=h.2.1
 have hcc:=h.2.2.1
 by_cases h0:0≤idx l s
 ·have e1:z24 l s=l:=by simp only [z24];rw [if_pos h0]
  have e2:z1t l s=idx l s+1:=by simp only [z1t];rw [if_pos h0]
  have e3:z1m l s=0:=by simp only [z1m];rw [if_pos h0]
  rw [e1,e2,e3]
  have b1:idx l s≤1000000:=by omega
  have HR:=Lib.hid h
  clear e1 e2 e3 h hbd hln
  go_enter Tryd.func21,Tryd.ntmps21
  go_wp2_with fail
  refine (zbk _ _ _ _ _ _ _ HR.out).mono ?_;rintro e w' ⟨rfl,rfl⟩
  go_wp2_with fail
  refine (zbh _ _ _ _ _ _ HR.out hF (by omega)).mono ?_;rintro e w1 ⟨v,zs,rfl,z1,z2,hown,hb⟩
  obtain ⟨A1,c1,rfl,hr1⟩:=Rds.of_own (S:=shStr) (F:=Mid w w1) hown (by have:=congrArg List.length z1;simp at this;have:=HR.out.1;omega) (fun z hz=>z2 z hz) (fun g h1 h2=>⟨h1,h2⟩)
  rw [z1] at hr1
  have H1:=Lib.hid hr1
  have HB:=Lib.hid hb
  clear hr1 hb hown z1 z2
  go_wp2_with fail
  refine bodyPost_ret (results_tmp3 rfl _ _ _) rfl ?_
  exact ⟨_,_,_,rfl,H1.out,HB.out⟩
 ·by_cases hf:l.length=120
  ·have e1:z24 l s=[]:=by simp only [z24];rw [if_neg h0,if_pos hf]
   have e2:z1t l s=0:=by simp only [z1t];rw [if_neg h0,if_pos hf]
   have e3:z1m l s=12:=by simp only [z1m];rw [if_neg h0,if_pos hf]
   rw [e1,e2,e3]
   have b1:idx l s<0:=by omega
   have b2:((n:Int) == 120)=true:=by simp;omega
   have HR:=Lib.hid h
   clear e1 e2 e3 h hbd hln h0 hf
   go_enter Tryd.func21,Tryd.ntmps21
   go_wp2_with fail
   refine (zbk _ _ _ _ _ _ _ HR.out).mono ?_;rintro e w' ⟨rfl,rfl⟩
   go_wp2_with fail
   refine bodyPost_ret (results_tmp3 rfl _ _ _) rfl ?_
   exact ⟨_,_,_,rfl,Rds.nil _ _ _,Below.refl _ _⟩
  ·have e1:z24 l s=l++[s]:=by simp only [z24];rw [if_neg h0,if_neg hf]
   have e2:z1t l s=n+1:=by simp only [z1t];rw [if_neg h0,if_neg hf,hln]
   have e3:z1m l s=0:=by simp only [z1m];rw [if_neg h0,if_neg hf]
   rw [e1,e2,e3]
   have b1:idx l s<0:=by omega
   have b2:((n:Int) == 120)=false:=by simp;omega
   have HR:=Lib.hid h
   obtain ⟨i0,zv,hi,hz0,hz1,hz2,hz3⟩:=zz0
   clear e1 e2 e3 h hbd hln h0 hf
   go_enter Tryd.func21,Tryd.ntmps21
   go_wp2_with fail
   refine (zbk _ _ _ _ _ _ _ HR.out).mono ?_;rintro e w' ⟨rfl,rfl⟩
   go_wp2_with fail
   refine (zbh _ _ _ _ _ _ HR.out hF (by omega)).mono ?_;rintro e w1 ⟨v,zs,rfl,z1,z2,hown,hb⟩
   have hz:zs.length=n:=by have:=congrArg List.length z1;simp at this;have:=HR.out.1;omega
   have HO:=Lib.hid hown
   have HB:=Lib.hid hb
   have Z1:=Lib.hid z1
   have Z2:=Lib.hid z2
   clear hown hb z1 z2
   go_wp2_with (at_builtin;refine wpList_append_own_at _ rfl _ _ 22 rfl w.heap.size 9 i0 zv 1 16 Tryd.underlying22 hi hz0 hz1 hz2 hz3 (by omega) _ n (flat zs) rfl (HO.out.alloc _) ⟨w1.heap.size,0,none⟩ 1 1 [.string ⟨s.toArray⟩] rfl rfl (cell_one_new _ _ _) (by intro u hu;simp at hu;subst hu;rfl) (by unfold maxLen;omega) (by omega) (by have:=HB.out.size;simp;omega) ?_;intro v2 w2 hown2 hgr2 _ _)
   refine bodyPost_ret (results_tmp3 rfl _ _ _) rfl ?_
   have hb2:Below w.heap.size w w2:=(HB.out.alloc HB.out.size _).grown hgr2 (by have:=HB.out.size;simp;omega) (fun k hk=>by
    exact zl9 HO.out hk)
   have e4:flat zs++[Value.string ⟨s.toArray⟩]=flat (zs++[(s,[Value.string ⟨s.toArray⟩])]):=by rw [zd6];simp [flat]
   rw [e4] at hown2
   obtain ⟨A2,c2,rfl,hr2⟩:=Rds.of_own (S:=shStr) (F:=Mid w w2) hown2 (by simp [hz]) (by
    intro z hz'
    rcases List.mem_append.1 hz' with h|h
    ·obtain ⟨e,h'⟩:=Z2.out z h;exact ⟨e,h'⟩
    ·simp at h;subst h;exact ⟨rfl,hs⟩) (fun g h1 h2=>⟨h1,h2⟩)
   rw [List.map_append,Z1.out] at hr2
   exact ⟨_,_,_,rfl,hr2,hb2⟩
theorem z6z {bk:Book} (h:zo bk=0):bk.texts.length≤120:=by
 unfold zo at h
 split at h
 ·cases h
 ·omega
def z01i (w:World) (l:List (List UInt8)) (a b:Int) (e:Ending) (w':World):Prop :=
 ∃ A n c,e = .returned (.tuple #[.agg #[.slice A n c],.int .i64 a,.int .i64 b])∧Rds shStr w' (Mid w w') l A n c∧Below w.heap.size w w'
def z10 (bk:Book) (s:List UInt8):List (List UInt8):=if zo bk≠0 then [] else if 4000<s.length then [] else z24 bk.texts s
def z06 (bk:Book) (s:List UInt8):Int:=if zo bk≠0 then 0 else if 4000<s.length then 0 else z1t bk.texts s
def z0o (bk:Book) (s:List UInt8):Int:=if zo bk≠0 then zo bk else if 4000<s.length then 2 else z1m bk.texts s
theorem zwa (bk:Book) (cs:List Value) (s:List UInt8) (w:World) (F:Nat→Prop) (h:shBook.rep w F bk cs) (hF:∀ b,F b→b<w.heap.size) (hs:s.length≤9223372036854775807) :
  Calls Tryd.prog 45 #[.agg cs.toArray,.string ⟨s.toArray⟩] w (z01i w (z10 bk s) (z06 bk s) (z0o bk s)):=by
 have hck:=fun (W:World) (hW:Agree F w W) (hs:∀ b,F b→b<W.heap.size)=>zaw bk cs W F (shBook.keep hW h) hs
 obtain ⟨A,l,c,rfl,hr⟩:=zdq h
 have hbox:Below w.heap.size w ((w.alloc (.cells #[.slice A l c] 24)).alloc (.cells #[.slice none 0 0] 24)):=((Below.refl _ _).alloc (Nat.le_refl _) _).alloc (by simp) _
 have hck1:=hck _ ((Agree.below hbox).mono hF) (fun b hb=>by have:=hF b hb;simp;omega)
 have HC:=Lib.hid hck1
 have HR:=Lib.hid hr
 clear hck hck1 h hr
 by_cases h0:zo bk=0
 ·have E0:=Lib.hid h0
  by_cases hb:4000<s.length
  ·have e1:z10 bk s=[]:=by simp only [z10];rw [if_neg (by simp [h0]),if_pos hb]
   have e2:z06 bk s=0:=by simp only [z06];rw [if_neg (by simp [h0]),if_pos hb]
   have e3:z0o bk s=2:=by simp only [z0o];rw [if_neg (by simp [h0]),if_pos hb]
   rw [e1,e2,e3]
   clear e1 e2 e3 h0
   go_enter Tryd.func45,Tryd.ntmps45
   go_wp2_with fail
   refine HC.out.mono ?_;rintro e w1 ⟨rfl,hb1⟩
   rw [E0.out]
   obtain ⟨hc1,hc2,hf1,hf2,hz⟩:=zyy hb1
   replace hc1:=hc1 0
   replace hc2:=hc2 0
   replace hf2:=hf2 0
   simp only [List.getElem?_toArray,List.getElem?_cons_zero] at hc1 hc2
   have hb2:=hbox.trans (hb1.mono (by simp;omega))
   have hb3:=hb2.setCell (p:=⟨w.heap.size+1,0,none⟩) (by simp) (.slice none 0 0)
   have HB:=Lib.hid hb3
   clear hb1 hb2 hb3 hf1
   go_wp2_with fail
   refine bodyPost_ret (v:=.tuple #[.agg #[.slice none 0 0],.int .i64 0,.int .i64 2]) (by simp [results,Tryd.results45,go_sem,hc2]) rfl ⟨_,_,_,rfl,Rds.nil _ _ _,HB.out⟩
  ·have e1:z10 bk s=z24 bk.texts s:=by simp only [z10];rw [if_neg (by simp [h0]),if_neg hb]
   have e2:z06 bk s=z1t bk.texts s:=by simp only [z06];rw [if_neg (by simp [h0]),if_neg hb]
   have e3:z0o bk s=z1m bk.texts s:=by simp only [z0o];rw [if_neg (by simp [h0]),if_neg hb]
   rw [e1,e2,e3]
   have hl:=z6z h0
   have hln:=HR.out.1
   clear e1 e2 e3 h0
   go_enter Tryd.func45,Tryd.ntmps45
   go_wp2_with fail
   refine HC.out.mono ?_;rintro e w1 ⟨rfl,hb1⟩
   rw [E0.out]
   obtain ⟨hc1,hc2,hf1,hf2,hz⟩:=zyy hb1
   replace hc1:=hc1 0
   replace hc2:=hc2 0
   replace hf2:=hf2 0
   simp only [List.getElem?_toArray,List.getElem?_cons_zero] at hc1 hc2
   have hb2:=hbox.trans (hb1.mono (by simp;omega))
   have HB:=Lib.hid hb2
   have hr1:=HR.out.keep ((Agree.below hb2).mono hF)
   have H1:=Lib.hid hr1
   clear hb1 hb2 hf1 hr1
   go_wp2_with fail
   refine (zz1 _ _ _ _ _ _ _ H1.out (fun b hb=>by have:=hF b hb;omega) (by omega) hs).mono ?_
   rintro e w2 ⟨A2,n2,c2,rfl,hr2,hb2⟩
   have hc3:w2.cell? ⟨w.heap.size+1,0,none⟩=some (.slice none 0 0):=by rw [hb2.cell (p:=⟨w.heap.size+1,0,none⟩) hz];exact hc2
   have hf3:w2.frozen? ⟨w.heap.size+1,0,none⟩=false:=by rw [hb2.frozen (p:=⟨w.heap.size+1,0,none⟩) hz];exact hf2
   have hb4:=HB.out.trans (hb2.mono HB.out.size)
   have hzz:=hb2.size
   have HR2:=Lib.hid hr2
   have HB4:=Lib.hid hb4
   clear hr2 hb2 hb4 hc1 hc2 hf2
   have hd:(z1m bk.texts s == 0)=true∨(z1m bk.texts s == 0)=false:=by cases (z1m bk.texts s == 0) <;> simp
   rcases hd with hd|hd
   ·have e0:z1m bk.texts s=0:=by simpa using hd
    have E1:=Lib.hid e0
    rw [e0]
    clear hd e0
    go_wp2_with fail
    refine bodyPost_ret (v:=.tuple #[.agg #[.slice A2 n2 c2],.int .i64 (z1t bk.texts s),.int .i64 0]) (by simp [results,Tryd.results45,go_sem,hc3]) rfl ⟨_,_,_,by rw [E1.out],?_,HB4.out.setCell (by simp) _⟩
    have hs1:=HB.out.size
    refine (HR2.out.keep fun b hb=>Below.heap_setCell _ _ _ _ ?_).more fun b hb=>⟨by have:=hb.1;omega,by simpa using hb.2⟩
    have:=hb.1
    simp
    omega
   ·have hx:z24 bk.texts s=[]∧z1t bk.texts s=0:=by
     have:z1m bk.texts s≠0:=by simpa using hd
     unfold z1m at this
     unfold z24 z1t
     split at this
     ·simp at this
     ·split at this
      ·rename_i a b;simp [a,b]
      ·simp at this
    obtain ⟨x1,x2⟩:=hx
    have X1:=Lib.hid x1
    have X2:=Lib.hid x2
    clear x1 x2
    go_wp2_with fail
    refine bodyPost_ret (v:=.tuple #[.agg #[.slice none 0 0],.int .i64 0,.int .i64 (z1m bk.texts s)]) (by simp [results,Tryd.results45,go_sem,hc3]) rfl ⟨none,0,0,by rw [X2.out],by rw [X1.out];exact Rds.nil _ _ _,HB4.out.setCell (by simp) _⟩
 ·have e1:z10 bk s=[]:=by simp only [z10];rw [if_pos h0]
  have e2:z06 bk s=0:=by simp only [z06];rw [if_pos h0]
  have e3:z0o bk s=zo bk:=by simp only [z0o];rw [if_pos h0]
  rw [e1,e2,e3]
  have hd:(zo bk == 0)=false:=by simpa using h0
  clear e1 e2 e3 h0
  go_enter Tryd.func45,Tryd.ntmps45
  go_wp2_with fail
  refine HC.out.mono ?_;rintro e w1 ⟨rfl,hb1⟩
  obtain ⟨hc1,hc2,hf1,hf2,hz⟩:=zyy hb1
  replace hc2:=hc2 0
  replace hf2:=hf2 0
  simp only [List.getElem?_toArray,List.getElem?_cons_zero] at hc2
  have hb2:=hbox.trans (hb1.mono (by simp;omega))
  have hb3:=hb2.setCell (p:=⟨w.heap.size+1,0,none⟩) (by simp) (.slice none 0 0)
  have HB:=Lib.hid hb3
  clear hb1 hb2 hb3 hf1 hc1
  go_wp2_with fail
  refine bodyPost_ret (v:=.tuple #[.agg #[.slice none 0 0],.int .i64 0,.int .i64 (zo bk)]) (by simp [results,Tryd.results45,go_sem,hc2]) rfl ⟨_,_,_,rfl,Rds.nil _ _ _,HB.out⟩
end
section
open Go.RowKit
set_option maxRecDepth 100000
theorem zi7 {w w':World} {base e size n:Nat} {v:Value} {xs:List Value} (h:w.ownsRow base e size v n xs) (hb:Below w.heap.size w w'):w'.ownsRow base e size v n xs:=by
 refine ⟨h.1,?_⟩
 rcases h.2 with h0|⟨g,cap,cur,hv,hg,hh,r⟩
 ·exact .inl h0
 ·refine .inr ⟨g,cap,cur,hv,hg,?_,r⟩
  rw [hb.block g ?_]
  ·exact hh
  ·rcases Nat.lt_or_ge g w.heap.size with h|h
   ·exact h
   ·rw [Array.getElem?_eq_none h] at hh;cases hh
theorem zz2 {t:List (List UInt8)} {s:List UInt8} (ht:t.length≤120):0≤z1t t s∧z1t t s≤1000:=by
 have:=zw9 t s
 unfold z1t
 split
 ·omega
 ·split <;> omega
def z00k:List (List UInt8)→List (List UInt8)→List Int→List (List UInt8) × List Int × Int
 | [],t,o=>(t,o,0)
 | s::l,t,o=>if 4000<s.length then ([],[],2) else if z1m t s≠0 then ([],[],z1m t s) else z00k l (z24 t s) (o++[z1t t s])
def z68 (bk:Book) (l:List (List UInt8)):List (List UInt8) × List Int × Int:=if zo bk≠0 then ([],[],zo bk) else z00k l bk.texts []
theorem zwb:∃ i z,Tryd.prog.info? 3=some i∧i.zero=some z∧i.size=1∧i.bytes=8∧z.cells.size=1:=by
 have h1:(Tryd.prog.info? 3).map (fun i=>(i.zero.map (·.cells.size),i.size,i.bytes))=some (some 1,1,8):=by kernel_rfl
 match hh:Tryd.prog.info? 3,h1 with
 | some i,h1 =>
  simp only [Option.map_some,Option.some.injEq,Prod.mk.injEq] at h1
  match hz:i.zero,h1 with
  | some z,h1=>exact ⟨i,z,rfl,hz,h1.2.1,h1.2.2,by simpa using h1.1⟩
end
section
open Go.RowKit
set_option maxRecDepth 100000
def z4v (o:Op):Int:=if o.kind<1∨13<o.kind then 4 else if (o.kind≠1∧o.n≠0)∨o.n < -1000000∨1000000<o.n then 3 else 0
def z6j:List Op→Int
 | []=>0
 | o::l=>if z4v o≠0 then z4v o else z6j l
def za (l:List Op):Int:=if 16<l.length then 2 else z6j l
theorem z70 (xs:List Op) (A:Option Addr) (n c:Nat) (w:World) (F:Nat→Prop) (h:Rds shOp w F xs A n c) (hF:∀ b,F b→b<w.heap.size) :
  Calls Tryd.prog 49 #[.slice A n c] w fun e w'=>e = .returned (.int .i64 (za xs))∧Below w.heap.size w w':=by
 have hn:=h.2.1
 have hc:=h.2.2.1
 have hl:=h.1
 by_cases h16:16<n
 ·have e:za xs=2:=by simp only [za];rw [if_pos (by omega)]
  rw [e]
  clear e hl
  go_enter Tryd.func49,Tryd.ntmps49
  go_wp2
  go_ret
  exact ⟨rfl,Below.refl _ _⟩
 ·have e:za xs=z6j xs:=by simp only [za];rw [if_neg (by omega)]
  rw [e]
  have HR:=Lib.hid h
  have HLN:=Lib.hid hl
  clear e hl h
  go_enter Tryd.func49,Tryd.ntmps49
  go_wp2
  go_loopw [4,10] (fun _ i wr=>∃ k:Nat,k≤n∧i = .int .i64 k∧Below w.heap.size w wr∧z6j (xs.drop k)=z6j xs) (fun _ i _=>n - (intOf i).toNat)
  case atStart=>exact ⟨0,by omega,rfl,Below.refl _ _,rfl⟩
  case round =>
   obtain ⟨k,hk,rfl,hb,hs⟩:=hrel
   by_cases hlt:k<n
   ·obtain ⟨b,off,x,rfl,hFb,hx,⟨hc1,hc2⟩,-,-⟩:=HR.out.op hlt
    rw [z38 hx,z6j] at hs
    rw [← hb.cell (p:=⟨b,off+k * 2,none⟩) (hF b hFb)] at hc1
    rw [← hb.cell (p:=⟨b,off+k * 2+1,none⟩) (hF b hFb)] at hc2
    have HB:=Lib.hid (hb.alloc hb.size (.cells #[.int .i64 x.kind,.int .i64 x.n] 74))
    clear hx hb
    have i1:(0:Int)≤(k:Int):=by omega
    have i2:(k:Int)<(n:Int):=by omega
    obtain ⟨xk,xn⟩:=x
    simp only at hc1 hc2 HB
    rcases Classical.em (xk<1∨13<xk) with hk1|hk1
    ·have e:z4v ⟨xk,xn⟩=4:=by simp only [z4v];rw [if_pos hk1]
     rw [e,if_pos (by decide)] at hs
     have HS:=Lib.hid hs
     clear hs e
     rcases Classical.em (xk<1) with hk2|hk2
     ·clear hk1
      go_wp2
      go_ret
      exact ⟨z08 HS.out,HB.out⟩
     ·have hk3:13<xk:=by omega
      clear hk1
      go_wp2
      go_ret
      exact ⟨z08 HS.out,HB.out⟩
    ·have g1:¬ xk<1:=by omega
     have g2:¬ 13<xk:=by omega
     have e0:z4v ⟨xk,xn⟩=if (xk≠1∧xn≠0)∨xn < -1000000∨1000000<xn then 3 else 0:=by simp only [z4v];rw [if_neg hk1]
     rw [e0] at hs
     clear hk1 e0
     rcases Classical.em ((xk≠1∧xn≠0)∨xn < -1000000∨1000000<xn) with h3|h3
     ·rw [if_pos h3,if_pos (by decide)] at hs
      have HS:=Lib.hid hs
      clear hs
      by_cases h4:xk≠1∧xn≠0
      ·have k1:(xk != 1)=true:=by simpa using h4.1
       have k2:(xn != 0)=true:=by simpa using h4.2
       clear h3 h4
       go_wp2
       go_ret
       exact ⟨z08 HS.out,HB.out⟩
      ·by_cases h5:xk=1
       ·subst h5
        clear h4
        rcases Classical.em (xn < -1000000) with h6|h6
        ·clear h3
         go_wp2
         go_ret
         exact ⟨z08 HS.out,HB.out⟩
        ·have h7:1000000<xn:=by omega
         clear h3
         go_wp2
         go_ret
         exact ⟨z08 HS.out,HB.out⟩
       ·exfalso;omega
     ·rw [if_neg h3,if_neg (by decide)] at hs
      have HS:=Lib.hid hs
      clear hs
      have h6:¬ xn < -1000000:=by omega
      have h7:¬ 1000000<xn:=by omega
      by_cases h5:xk=1
      ·subst h5
       clear h3
       go_wp2
       go_roundw
       case measure=>simp [intOf];omega
       case rel=>exact ⟨k+1,by omega,by go_num,HB.out,HS.out⟩
      ·obtain rfl:xn=0:=by omega
       have k1:(xk != 1)=true:=by simpa using h5
       clear h3 h5
       go_wp2
       go_roundw
       case measure=>simp [intOf];omega
       case rel=>exact ⟨k+1,by omega,by go_num,HB.out,HS.out⟩
   ·obtain rfl:k=n:=by omega
    rw [List.drop_eq_nil_of_le (by rw [HLN.out];omega),z6j] at hs
    have HS:=Lib.hid hs
    clear hs
    go_wp2
    go_ret
    exact ⟨z08 HS.out,hb⟩
end
section
open Go.RowKit
set_option maxRecDepth 100000
def z5c (n:Int):Int:=if 0≤n∧n≤1000000000 then 0 else 3
def z0u (h:Int):Int:=if h<1∨1000<h then 0 else 64 / 2 ^ (min ((h - 1) / 8) 30).toNat
def z1r (h:Int):Int:=if h<1∨1000<h then 3 else 0
theorem z71 (n:Int) (w:World):Calls Tryd.prog 68 #[.int .i64 n] w fun e w'=>e = .returned (.int .i64 (z5c n))∧w=w':=by
 go_enter Tryd.func68,Tryd.ntmps68
 go_wp2
 all_goals (go_ret;refine ⟨z08 ?_,rfl⟩;unfold z5c;first|(rw [if_pos (by omega)])|(rw [if_neg (by omega)]))
def z8v:List Int→Int→Int × Int
 | [],a=>(a,0)
 | x::l,a=>if 0≤x∧x≤1000000000 then (if 1000000000<a+x then (0,12) else z8v l (a+x)) else (0,3)
def z69 (l:List Int):Int × Int:=z8v l 0
theorem z01t (xs:List Int) (A:Option Addr) (n c:Nat) (w:World) (F:Nat→Prop) (h:Rds shInt w F xs A n c) :
  Calls Tryd.prog 56 #[.slice A n c] w fun e w'=>e = .returned (.tuple #[.int .i64 (z69 xs).1,.int .i64 (z69 xs).2])∧w=w':=by
 have hn:=h.2.1
 have hc:=h.2.2.1
 go_enter Tryd.func56,Tryd.ntmps56
 go_wp2
 go_loop [4,10] (fun a i=>∃ (k:Nat) (aa:Int),k≤n∧i = .int .i64 k∧a = .int .i64 aa∧0≤aa∧aa≤1000000000∧z8v (xs.drop k) aa=z69 xs) (fun _ i=>n - (intOf i).toNat)
 case atStart=>exact ⟨0,0,by omega,rfl,rfl,by omega,by omega,rfl⟩
 case round =>
  obtain ⟨k,aa,hk,rfl,rfl,a0,a1,hs⟩:=hrel
  by_cases hlt:k<n
  ·obtain ⟨b,off,x,rfl,-,hx,hcell,x0,x1⟩:=h.int hlt
   rw [z38 hx,z8v] at hs
   have Hs:=Lib.hid hs
   clear hs hx h
   by_cases hv:0≤x∧x≤1000000000
   ·obtain ⟨v0,v1⟩:=hv
    have e:z5c x=0:=by unfold z5c;rw [if_pos ⟨v0,v1⟩]
    have E:=Lib.hid e
    clear e
    by_cases hf:1000000000<aa+x
    ·go_wp2_with (go_at_call 68;refine (z71 _ _).mono ?_;rintro e w' ⟨rfl,rfl⟩;rw [E.out])
     go_ret2
     have:=Hs.out
     rw [if_pos (by omega),if_pos (by omega)] at this
     exact ⟨z7y (by rw [← this]) (by rw [← this]),rfl⟩
    ·go_wp2_with (go_at_call 68;refine (z71 _ _).mono ?_;rintro e w' ⟨rfl,rfl⟩;rw [E.out])
     go_round
     case measure=>simp [intOf];omega
     case rel =>
      have:=Hs.out
      rw [if_pos (by omega),if_neg (by omega)] at this
      exact ⟨k+1,_,by omega,by go_num,rfl,by omega,by omega,this⟩
   ·have e:z5c x=3:=by unfold z5c;rw [if_neg hv]
    have E:=Lib.hid e
    clear e
    have hv':x<0∨1000000000<x:=by omega
    have Hv:=Lib.hid hv
    clear hv
    go_wp2_with (go_at_call 68;refine (z71 _ _).mono ?_;rintro e w' ⟨rfl,rfl⟩;rw [E.out])
    go_ret2
    have:=Hs.out
    rw [if_neg Hv.out] at this
    exact ⟨z7y (by rw [← this]) (by rw [← this]),rfl⟩
  ·obtain rfl:k=n:=by omega
   have Hs:=Lib.hid hs
   clear hs
   go_wp2
   go_ret2
   have:=Hs.out
   rw [List.drop_eq_nil_of_le (by have:=h.1;omega)] at this
   exact ⟨z7y (by rw [← this];rfl) (by rw [← this];rfl),rfl⟩
end
section
open Go.RowKit
set_option maxRecDepth 100000
theorem Rds.inn {w:World} {F:Nat→Prop} {xs:List In} {A:Option Addr} {n c k:Nat} (h:Rds shIn w F xs A n c) (hk:k<n) :
  ∃ b off x A' n' c',A=some ⟨b,off,none⟩∧F b∧xs[k]? = some x∧(w.cell? ⟨b,off+k * 3,none⟩=some (.int .i64 x.p.tx)∧w.cell? ⟨b,off+k * 3+1,none⟩=some (.int .i64 x.p.at_)∧w.cell? ⟨b,off+k * 3+2,none⟩=some (.slice A' n' c'))∧I64 x.p.tx∧I64 x.p.at_∧Rds shOp w F x.key A' n' c':=by
 obtain ⟨b,off,x,cs,e,hF,hx,hr,hc⟩:=h.at_ hk
 obtain ⟨A',n',c',rfl,h1,h2,h3⟩:=zl3 hr
 exact ⟨b,off,x,A',n',c',e,hF,hx,⟨by simpa [shIn,shPoint,z2g,shInt,z04] using hc 0 _ rfl,by simpa [shIn,shPoint,z2g,shInt,z04] using hc 1 _ rfl,by simpa [shIn,shPoint,z2g,shInt,z04] using hc 2 _ rfl⟩,h1,h2,h3⟩
theorem Rds.out_ {w:World} {F:Nat→Prop} {xs:List Out} {A:Option Addr} {n c k:Nat} (h:Rds shOut w F xs A n c) (hk:k<n) :
  ∃ b off x A' n' c',A=some ⟨b,off,none⟩∧F b∧xs[k]? = some x∧(w.cell? ⟨b,off+k * 2,none⟩=some (.int .i64 x.coin)∧w.cell? ⟨b,off+k * 2+1,none⟩=some (.slice A' n' c'))∧I64 x.coin∧Rds shOp w F x.lock A' n' c':=by
 obtain ⟨b,off,x,cs,e,hF,hx,hr,hc⟩:=h.at_ hk
 obtain ⟨A',n',c',rfl,h1,h2⟩:=zcj hr
 exact ⟨b,off,x,A',n',c',e,hF,hx,⟨by simpa [shOut,z2g,shInt,z04] using hc 0 _ rfl,by simpa [shOut,z2g,shInt,z04] using hc 1 _ rfl⟩,h1,h2⟩
theorem zua (y:In) (A:Option Addr) (n c g:Nat) (x:In) (w:World) (h0:w.cell? ⟨g,0,none⟩=some (.int .i64 x.p.tx)) (h1:w.cell? ⟨g,1,none⟩=some (.int .i64 x.p.at_)) (hg:g<w.heap.size) :
  Calls Tryd.prog 55 #[.agg #[.int .i64 y.p.tx,.int .i64 y.p.at_,.slice A n c],.pointer (some ⟨g,0,none⟩)] w fun e w'=>e = .returned (.bool (decide (y.p=x.p)))∧Below w.heap.size w w':=by
 have hb:Below w.heap.size w (w.alloc (.cells #[.int .i64 y.p.tx,.int .i64 y.p.at_,.slice A n c] 76)):=(Below.refl _ _).alloc (Nat.le_refl _) _
 have HB:=Lib.hid hb
 have g0:(w.alloc (.cells #[.int .i64 y.p.tx,.int .i64 y.p.at_,.slice A n c] 76)).cell? ⟨g,0,none⟩=some (.int .i64 x.p.tx):=by rw [World.cell?_alloc_lt w _ _ hg];exact h0
 have g1:(w.alloc (.cells #[.int .i64 y.p.tx,.int .i64 y.p.at_,.slice A n c] 76)).cell? ⟨g,1,none⟩=some (.int .i64 x.p.at_):=by rw [World.cell?_alloc_lt w _ _ hg];exact h1
 clear hb h0 h1
 obtain ⟨⟨yt,ya⟩,yk⟩:=y
 obtain ⟨⟨xt,xa⟩,xk⟩:=x
 simp only at g0 g1 HB ⊢
 by_cases e1:yt=xt
 ·subst e1
  by_cases e2:ya=xa
  ·subst e2
   go_enter Tryd.func55,Tryd.ntmps55
   go_wp2
   all_goals skip
   go_ret
   exact ⟨z3y (by simp),HB.out⟩
  ·go_enter Tryd.func55,Tryd.ntmps55
   go_wp2
   go_ret
   exact ⟨z3y (by simp [e2]),HB.out⟩
 ·go_enter Tryd.func55,Tryd.ntmps55
  go_wp2
  go_ret
  exact ⟨z3y (by simp [e1]),HB.out⟩
def z4j (xs:List In) (p:Point) (k:Nat):Int:=match xs with
 | [] => -1
 | y::l=>if y.p=p then k else z4j l p (k+1)
theorem zql (xs:List In) (A:Option Addr) (n c g:Nat) (x:In) (w:World) (F:Nat→Prop) (h:Rds shIn w F xs A n c) (hF:∀ b,F b→b<w.heap.size) (h0:w.cell? ⟨g,0,none⟩=some (.int .i64 x.p.tx)) (h1:w.cell? ⟨g,1,none⟩=some (.int .i64 x.p.at_)) (hg:g<w.heap.size) :
  Calls Tryd.prog 67 #[.slice A n c,.func (.func 55) #[] #[.pointer (some ⟨g,0,none⟩)]] w fun e w'=>e = .returned (.int .i64 (z4j xs x.p 0))∧Below w.heap.size w w':=by
 have hn:=h.2.1
 have hc:=h.2.2.1
 have hl:=h.1
 have HR:=Lib.hid h
 have HLN:=Lib.hid hl
 have H0:=Lib.hid h0
 have H1:=Lib.hid h1
 clear h hl h0 h1
 go_enter Tryd.func67,Tryd.ntmps67
 go_wp2
 go_loopw [5,8] (fun _ i wr=>∃ k:Nat,k≤n∧i = .int .i64 k∧Below w.heap.size w wr∧z4j (xs.drop k) x.p k=z4j xs x.p 0) (fun _ i _=>n - (intOf i).toNat)
 case atStart=>exact ⟨0,by omega,rfl,Below.refl _ _,rfl⟩
 case round =>
  obtain ⟨k,hk,rfl,hb,hs⟩:=hrel
  by_cases hlt:k<n
  ·obtain ⟨b,off,y,A',n',c',rfl,hFb,hx,⟨hc1,hc2,hc3⟩,-,-,-⟩:=HR.out.inn hlt
   rw [z38 hx,z4j] at hs
   rw [← hb.cell (p:=⟨b,off+k * 3,none⟩) (hF b hFb)] at hc1
   rw [← hb.cell (p:=⟨b,off+k * 3+1,none⟩) (hF b hFb)] at hc2
   rw [← hb.cell (p:=⟨b,off+k * 3+2,none⟩) (hF b hFb)] at hc3
   have HB:=Lib.hid hb
   have i1:(0:Int)≤(k:Int):=by omega
   have i2:(k:Int)<(n:Int):=by omega
   have hcall:=fun (W:World) (hW:Below w.heap.size w W)=>zua y A' n' c' g x W (by rw [hW.cell (p:=⟨g,0,none⟩) hg];exact H0.out) (by rw [hW.cell (p:=⟨g,1,none⟩) hg];exact H1.out) (Nat.lt_of_lt_of_le hg hW.size)
   have HC:=Lib.hid hcall
   clear hx hb hcall
   by_cases hy:y.p=x.p
   ·rw [if_pos hy] at hs
    have HS:=Lib.hid hs
    have hd:decide (y.p=x.p)=true:=by simpa using hy
    have HD:=Lib.hid hd
    clear hs hy hd
    go_wp2_with (go_at_call 55;refine (HC.out _ HB.out).mono ?_;rintro e w2 ⟨rfl,hb2⟩;rw [HD.out])
    go_ret
    exact ⟨z08 HS.out,HB.out.trans (hb2.mono HB.out.size)⟩
   ·rw [if_neg hy] at hs
    have HS:=Lib.hid hs
    have hd:decide (y.p=x.p)=false:=by simpa using hy
    have HD:=Lib.hid hd
    clear hs hy hd
    go_wp2_with (go_at_call 55;refine (HC.out _ HB.out).mono ?_;rintro e w2 ⟨rfl,hb2⟩;rw [HD.out])
    go_roundw
    case measure=>simp [intOf];omega
    case rel=>exact ⟨k+1,by omega,by go_num,HB.out.trans (hb2.mono HB.out.size),HS.out⟩
  ·obtain rfl:k=n:=by omega
   rw [List.drop_eq_nil_of_le (by rw [HLN.out];omega),z4j] at hs
   have HS:=Lib.hid hs
   clear hs
   go_wp2
   go_ret
   exact ⟨z08 HS.out,hb⟩
theorem zgp (xs:List In) (A:Option Addr) (n c g:Nat) (x:In) (w:World) (F:Nat→Prop) (h:Rds shIn w F xs A n c) (hF:∀ b,F b→b<w.heap.size) (h0:w.cell? ⟨g,0,none⟩=some (.int .i64 x.p.tx)) (h1:w.cell? ⟨g,1,none⟩=some (.int .i64 x.p.at_)) (hg:g<w.heap.size) :
  Calls Tryd.prog 54 #[.slice A n c,.func (.func 55) #[] #[.pointer (some ⟨g,0,none⟩)]] w fun e w'=>e = .returned (.bool (decide (0≤z4j xs x.p 0)))∧Below w.heap.size w w':=by
 have HC:=Lib.hid (zql xs A n c g x w F h hF h0 h1 hg)
 clear h hF h0 h1 hg
 generalize z4j xs x.p 0=j at HC ⊢
 go_enter Tryd.func54,Tryd.ntmps54
 go_wp2_with fail
 refine HC.out.mono ?_
 rintro e w1 ⟨rfl,hb⟩
 rcases Classical.em (0≤j) with hj|hj
 ·go_wp2_with fail
  go_ret
  exact ⟨z3y (by simp [hj]),hb⟩
 ·go_wp2_with fail
  go_ret
  exact ⟨z3y (by (simp;done)),hb⟩
def z3f (x:In):Int:=if x.p.tx<1∨120<x.p.tx∨x.p.at_<0∨6≤x.p.at_ then 3 else za x.key
def z1u:List In→List In→Int
 | [],_=>0
 | x::l,seen=>if z3f x≠0 then z3f x else if 0≤z4j seen x.p 0 then 6 else z1u l (seen++[x])
def z3m (x:Out):Int:=if x.coin<1 then 3 else za x.lock
def z1g:List Out→Int
 | []=>0
 | x::l=>if z3m x≠0 then z3m x else z1g l
def z11 (t:Tx):Int:=if 6<t.ins.length∨6<t.outs.length then 2 else if t.outs.length=0 then 4 else if (t.ins.length=0∧(t.height<1∨1000<t.height))∨(0<t.ins.length∧t.height≠0) then 3 else 0
def zj (t:Tx):Int:=if z11 t≠0 then z11 t else if z1u t.ins []≠0 then z1u t.ins [] else if z1g t.outs≠0 then z1g t.outs else (z69 (t.outs.map Out.coin)).2
set_option maxHeartbeats 1000000 in
theorem z99 (t:Tx) (cs:List Value) (w:World) (F:Nat→Prop) (h:shTx.rep w F t cs) (hF:∀ b,F b→b<w.heap.size) :
  Calls Tryd.prog 38 #[.agg cs.toArray] w fun e w'=>e = .returned (.int .i64 (zj t))∧Below w.heap.size w w':=by
 obtain ⟨A1,n1,c1,A2,n2,c2,rfl,hh,hi,ho⟩:=zl4 h
 obtain ⟨th,ins,outs⟩:=t
 simp only at hi ho hh ⊢
 have hl1:=hi.1
 have hn1:=hi.2.1
 have hc1:=hi.2.2.1
 have hl2:=ho.1
 have hn2:=ho.2.1
 have hc2:=ho.2.2.1
 have HI:=Lib.hid hi
 have HO:=Lib.hid ho
 have hB:=(Below.refl w.heap.size w).alloc (Nat.le_refl _) (.cells #[.int .i64 th,.slice A1 n1 c1,.slice A2 n2 c2] 43)
 have hblk:=heap_alloc_new w (.cells #[.int .i64 th,.slice A1 n1 c1,.slice A2 n2 c2] 43)
 have HB:=Lib.hid hB
 have HK:=Lib.hid hblk
 clear hi ho h hh hB hblk
 by_cases h0:z11 ⟨th,ins,outs⟩=0
 ·simp only [z11] at h0
  rw [hl1,hl2] at h0
  have a1:¬ (6<n1∨6<n2):=fun e=>by rw [if_pos e] at h0;cases h0
  rw [if_neg a1] at h0
  have a2:¬ n2=0:=fun e=>by rw [if_pos e] at h0;cases h0
  rw [if_neg a2] at h0
  have a3:¬ ((n1=0∧(th<1∨1000<th))∨(0<n1∧th≠0)):=fun e=>by rw [if_pos e] at h0;cases h0
  have e:zj ⟨th,ins,outs⟩=if z1u ins []≠0 then z1u ins [] else if z1g outs≠0 then z1g outs else (z69 (outs.map Out.coin)).2:=by
   have:¬ z11 ⟨th,ins,outs⟩≠0:=by simp only [z11];rw [hl1,hl2,if_neg a1,if_neg a2,if_neg a3];decide
   simp only [zj];rw [if_neg this]
  obtain ⟨R,hR⟩:∃ R,R=if z1u ins []≠0 then z1u ins [] else if z1g outs≠0 then z1g outs else (z69 (outs.map Out.coin)).2:=⟨_,rfl⟩
  rw [e,← hR]
  have R1:=Lib.hid (show ∀ v,v=z1u ins []→v≠0→v=R from fun v hv h=>by rw [hR,← hv,if_pos h])
  have R2:=Lib.hid (show z1u ins []=0→∀ v,v=z1g outs→v≠0→v=R from fun h0 v hv h=>by rw [hR,h0,← hv,if_neg (by decide),if_pos h])
  have R3:=Lib.hid (show z1u ins []=0→z1g outs=0→(z69 (outs.map Out.coin)).2=R from fun h0 h1=>by rw [hR,h0,h1,if_neg (by decide),if_neg (by decide)])
  clear hR
  have m1:n1≤6:=by omega
  have m2:n2≤6:=by omega
  have m3:0<n2:=by omega
  have L1:=Lib.hid hl1
  have L2:=Lib.hid hl2
  clear e h0 a1 a2 hl1 hl2 hn1 hn2 hc1 hc2
  obtain ⟨i0,zv,hi,hz0,hz1,hz2,hz3⟩:=zwb
  have hi1:=HI.out.2.1
  have hi2:=HI.out.2.2.1
  have ho1:=HO.out.2.1
  have ho2:=HO.out.2.2.1
  go_enter Tryd.func38,Tryd.ntmps38
  rcases (show (n1=0∧¬ th<1∧¬ 1000<th)∨(0<n1∧th=0) by omega) with ⟨g1,g2,g3⟩|⟨g1,g2⟩
  case' inl =>
   have q1:((n1:Int) == 0)=true:=by simp [g1]
   have q4:¬ (0:Int)<(n1:Int):=by omega
   clear a3 g1
   go_wp2
   rename_i z0 z1 z2 z3
   clear z1 z0
  case' inr =>
   have q1:((n1:Int) == 0)=false:=by simp;omega
   have q4:(0:Int)<(n1:Int):=by omega
   have q5:(th != 0)=false:=by simp [g2]
   clear a3 g1 g2
   go_wp2
  all_goals (
   go_loopw [3,4,5,54] (fun _ _ _ i wr=>∃ k:Nat,k≤n1∧i = .int .i64 k∧Below w.heap.size w wr∧wr.heap[w.heap.size]? = some (.cells #[.int .i64 th,.slice A1 n1 c1,.slice A2 n2 c2] 43 (0,0))∧z1u (ins.drop k) (ins.take k)=z1u ins []) (fun _ _ _ i _=>n1 - (intOf i).toNat)
   case atStart=>exact ⟨0,by omega,rfl,HB.out,HK.out,rfl⟩
   case round =>
    obtain ⟨k,hk,rfl,hb,hbox,hs⟩:=hrel
    have Hb:=Lib.hid hb
    have Hbox:=Lib.hid hbox
    have hwz:=z9n hbox
    clear hb hbox q1 q4
    rcases Classical.em (k<n1) with hlt|hlt
    ·obtain ⟨b,off,x,A',n',c',rfl,hFb,hx,⟨hc1,hc2,hc3⟩,-,-,hrk⟩:=HI.out.inn hlt
     have hbx:=z2h (i:=1) Hbox.out
     have hFw:=hF b hFb
     rw [← Hb.out.cell (p:=⟨b,off+k * 3,none⟩) hFw] at hc1
     rw [← Hb.out.cell (p:=⟨b,off+k * 3+1,none⟩) hFw] at hc2
     rw [← Hb.out.cell (p:=⟨b,off+k * 3+2,none⟩) hFw] at hc3
     rw [z38 hx,z1u] at hs
     have HT:=Lib.hid (z39 hx)
     have HW:=Lib.hid (Hb.out.alloc Hb.out.size (.cells #[.int .i64 x.p.tx,.int .i64 x.p.at_,.slice A' n' c'] 76))
     have HRK:=Lib.hid ((hrk.keep ((Agree.below HW.out).mono hF)).more (F':=Lt (wr.alloc (.cells #[.int .i64 x.p.tx,.int .i64 x.p.at_,.slice A' n' c'] 76)).heap.size) fun b hb=>by have:=hF b hb;show b<_;simp;omega)
     have HBX:=Lib.hid (z3c (g:=w.heap.size) Hbox.out ((Below.refl wr.heap.size wr).alloc (Nat.le_refl _) (.cells #[.int .i64 x.p.tx,.int .i64 x.p.at_,.slice A' n' c'] 76)) hwz)
     have HNW:=Lib.hid (heap_alloc_new wr (.cells #[.int .i64 x.p.tx,.int .i64 x.p.at_,.slice A' n' c'] 76))
     have i1:(0:Int)≤(k:Int):=by omega
     have i2:(k:Int)<(n1:Int):=by omega
     clear hx hrk hFb
     by_cases hp:x.p.tx<1∨120<x.p.tx∨x.p.at_<0∨6≤x.p.at_
     ·have e:z3f x=3:=by simp only [z3f];rw [if_pos hp]
      rw [e,if_pos (by decide)] at hs
      have HS:=Lib.hid (R1.out 3 hs (by decide))
      clear e hs
      obtain ⟨⟨xt,xa⟩,xk⟩:=x
      simp only at hc1 hc2 hp HW
      rcases Classical.em (xt<1) with p1|p1
      ·clear hp
       go_wp2_with fail
       go_ret
       exact ⟨z08 HS.out,HW.out⟩
      ·rcases Classical.em (120<xt) with p2|p2
       ·clear hp
        go_wp2_with fail
        go_ret
        exact ⟨z08 HS.out,HW.out⟩
       ·rcases Classical.em (xa<0) with p3|p3
        ·clear hp
         go_wp2_with fail
         go_ret
         exact ⟨z08 HS.out,HW.out⟩
        ·have p4:6≤xa:=by omega
         clear hp
         go_wp2_with fail
         go_ret
         exact ⟨z08 HS.out,HW.out⟩
     ·have e:z3f x=za x.key:=by simp only [z3f];rw [if_neg hp]
      rw [e] at hs
      have p1:¬ x.p.tx<1:=by omega
      have p2:¬ 120<x.p.tx:=by omega
      have p3:¬ x.p.at_<0:=by omega
      have p4:¬ 6≤x.p.at_:=by omega
      have HS:=Lib.hid hs
      clear e hp hs
      go_wp2_with fail
      generalize hW1:wr.alloc (.cells #[.int .i64 x.p.tx,.int .i64 x.p.at_,.slice A' n' c'] 76)=W1 at HW HRK HBX HNW ⊢
      have hsW:wr.heap.size<W1.heap.size:=by rw [← hW1];simp
      clear hW1
      refine (z70 _ _ _ _ _ _ HRK.out (fun b hb=>hb)).mono ?_
      rintro e w2 ⟨rfl,hb2⟩
      have HW2:=Lib.hid (HW.out.trans (hb2.mono HW.out.size))
      have HBX2:=Lib.hid (z3c HBX.out hb2 (by omega))
      have HNW2:=Lib.hid (z3c HNW.out hb2 hsW)
      have hz2':=hb2.size
      clear hb2 HW HRK HBX HNW
      by_cases he:za x.key=0
      ·rw [he]
       have hs:=HS.out
       rw [he,if_neg (by decide)] at hs
       clear HS he
       have hbx2:=z2h (i:=1) HBX2.out
       go_wp2_with fail
       refine (zgp (ins.take k) _ k _ wr.heap.size x w2 (Lt w2.heap.size) (((HI.out.take (by omega)).keep ((Agree.below HW2.out).mono hF)).more fun b hb=>by have:=hF b hb;have:=HW2.out.size;show b<_;omega) (fun b hb=>hb) (by rw [z2h HNW2.out];rfl) (by rw [z2h HNW2.out];rfl) (by omega)).mono ?_
       rintro e w3 ⟨rfl,hb3⟩
       have HW3:=Lib.hid (HW2.out.trans (hb3.mono HW2.out.size))
       have HBX3:=Lib.hid (z3c HBX2.out hb3 (by omega))
       clear hb3 HW2 HBX2 HNW2 hbx2
       by_cases hx:0≤z4j (ins.take k) x.p 0
       ·rw [if_pos hx] at hs
        have hd:decide (0≤z4j (ins.take k) x.p 0)=true:=by simpa using hx
        rw [hd]
        have HS:=Lib.hid (R1.out 6 hs (by decide))
        clear hd hx hs
        go_wp2_with fail
        go_ret
        exact ⟨z08 HS.out,HW3.out⟩
       ·rw [if_neg hx] at hs
        have hd:decide (0≤z4j (ins.take k) x.p 0)=false:=by simpa using hx
        rw [hd]
        have HS:=Lib.hid hs
        clear hd hx hs
        go_wp2_with fail
        go_roundw
        case measure=>simp [intOf];omega
        case rel=>exact ⟨k+1,by omega,by go_num,HW3.out,HBX3.out,by rw [HT.out];exact HS.out⟩
      ·have hs:=HS.out
       rw [if_pos he] at hs
       have hd:(za x.key != 0)=true:=by simpa using he
       have HS':=Lib.hid (R1.out _ hs he)
       clear HS he hs
       go_wp2_with fail
       go_ret
       exact ⟨z08 HS'.out,HW2.out⟩
    ·obtain rfl:n1=k:=by omega
     rw [List.drop_eq_nil_of_le (by rw [L1.out];omega),z1u] at hs
     have HS:=Lib.hid hs.symm
     have hbx:=z2h (i:=2) Hbox.out
     clear hs
     go_wp2_with fail
     go_loopw [6,8,9,97] (fun o _ _ i wr=>∃ k:Nat,k≤n2∧i = .int .i64 k∧Below w.heap.size w wr∧w.heap.size<wr.heap.size∧wr.ownsRow (w.heap.size+1) 3 1 o k (((outs.take k).map Out.coin).map (Value.int .i64))∧(∀ y ∈ outs.take k,I64 y.coin)∧z1g (outs.drop k)=z1g outs) (fun _ _ _ i _=>n2 - (intOf i).toNat)
     case atStart=>exact ⟨0,by omega,rfl,Hb.out,hwz,World.ownsRow_nil _ _ _ _,by simp,rfl⟩
     case round =>
      obtain ⟨k,hk,rfl,hb,hwq,hown,hob,hs'⟩:=hrel
      rcases Classical.em (k<n2) with hlt2|hlt2
      ·obtain ⟨b,off,x,A',n',c',rfl,hFb,hx,⟨hc1,hc2⟩,xi,hrk⟩:=HO.out.out_ hlt2
       have hFw:=hF b hFb
       rw [← hb.cell (p:=⟨b,off+k * 2,none⟩) hFw] at hc1
       rw [← hb.cell (p:=⟨b,off+k * 2+1,none⟩) hFw] at hc2
       rw [z38 hx,z1g] at hs'
       have HT:=Lib.hid (z39 hx)
       have hW:=hb.alloc hb.size (.cells #[.int .i64 x.coin,.slice A' n' c'] 56)
       have HW:=Lib.hid hW
       have HRK:=Lib.hid ((hrk.keep ((Agree.below hW).mono hF)).more (F':=Lt (wr.alloc (.cells #[.int .i64 x.coin,.slice A' n' c'] 56)).heap.size) fun b hb=>by have:=hF b hb;show b<_;simp;omega)
       have HNW:=Lib.hid (heap_alloc_new wr (.cells #[.int .i64 x.coin,.slice A' n' c'] 56))
       have HOW:=Lib.hid (zi7 hown ((Below.refl wr.heap.size wr).alloc (Nat.le_refl _) (.cells #[.int .i64 x.coin,.slice A' n' c'] 56)))
       have HOB:=Lib.hid hob
       have i1:(0:Int)≤(k:Int):=by omega
       have i2:(k:Int)<(n2:Int):=by omega
       clear hx hrk hFb hW hown hob hb
       by_cases hp:x.coin<1
       ·have e:z3m x=3:=by simp only [z3m];rw [if_pos hp]
        rw [e,if_pos (by decide)] at hs'
        have HS2:=Lib.hid (R2.out HS.out 3 hs' (by decide))
        clear e hs'
        go_wp2_with fail
        go_ret
        exact ⟨z08 HS2.out,HW.out⟩
       ·have e:z3m x=za x.lock:=by simp only [z3m];rw [if_neg hp]
        rw [e] at hs'
        have HS2:=Lib.hid hs'
        clear e hs'
        go_wp2_with fail
        generalize hW1:wr.alloc (.cells #[.int .i64 x.coin,.slice A' n' c'] 56)=W1 at HW HRK HNW HOW ⊢
        have hsW:wr.heap.size<W1.heap.size:=by rw [← hW1];simp
        clear hW1
        refine (z70 _ _ _ _ _ _ HRK.out (fun b hb=>hb)).mono ?_
        rintro e w2 ⟨rfl,hb2⟩
        have HW2:=Lib.hid (HW.out.trans (hb2.mono HW.out.size))
        have HNW2:=Lib.hid (z3c HNW.out hb2 hsW)
        have HOW2:=Lib.hid (zi7 HOW.out hb2)
        have hz2':=hb2.size
        clear hb2 HW HRK HNW HOW
        by_cases he:za x.lock=0
        ·rw [he]
         have hs:=HS2.out
         rw [he,if_neg (by decide)] at hs
         have HS3:=Lib.hid hs
         clear HS2 he hs
         have hcx:=z2h (i:=0) HNW2.out
         go_wp2_with (at_builtin;refine wpList_append_own_at _ rfl _ _ 28 rfl (w.heap.size+1) 3 i0 zv 1 8 Tryd.underlying28 hi hz0 hz1 hz2 hz3 (by omega) _ k (((outs.take k).map Out.coin).map (Value.int .i64)) rfl (HOW2.out.alloc _) ⟨w2.heap.size,0,none⟩ 1 1 [.int .i64 x.coin] rfl rfl (cell_one_new _ _ _) (by intro u hu;simp at hu;subst hu;rfl) (by unfold maxLen;omega) (by omega) (by simp;omega) ?_;intro v5 w5 hown5 hgr5 _ hob5)
         have hgr:(w2.alloc (.cells #[.int .i64 x.coin] 3)).grownBy w5 u6.ownBlock:=hgr5
         have hge:=fun k hk=>zl9 HOW2.out (k:=k) hk
         go_roundw
         case measure=>simp [intOf];omega
         case rel =>
          have hs5:=hgr.size
          simp only [World.size_alloc] at hs5
          refine ⟨k+1,by omega,by go_num,(HW2.out.alloc HW2.out.size _).grown hgr (by have:=HW2.out.size;simp;omega) (fun k hk=>by have:=hge _ hk;omega),by omega,by rw [HT.out,List.map_append,List.map_append];exact hown5,?_,HS3.out⟩
          intro y hy
          rw [HT.out] at hy
          rcases List.mem_append.1 hy with h|h
          ·exact HOB.out y h
          ·simp at h;subst h;exact xi
        ·have hs:=HS2.out
         rw [if_pos he] at hs
         have hd:(za x.lock != 0)=true:=by simpa using he
         have HS3:=Lib.hid (R2.out HS.out _ hs he)
         clear HS2 he hs
         go_wp2_with fail
         go_ret
         exact ⟨z08 HS3.out,HW2.out⟩
      ·obtain rfl:n2=k:=by omega
       rw [List.drop_eq_nil_of_le (by rw [L2.out];omega),z1g] at hs'
       have HS2:=Lib.hid (R3.out HS.out hs'.symm)
       rw [List.take_of_length_le (by rw [L2.out];omega)] at hown hob
       have HBq:=Lib.hid hb
       obtain ⟨A',c',ev,hri⟩:=Rds.of_own_int hown (fun x hx=>by obtain ⟨y,hy,rfl⟩:=List.mem_map.1 hx;exact hob y hy)
       subst ev
       have HRI:=Lib.hid hri
       clear hs' hown hob hb hri
       go_wp2_with fail
       refine (z01t _ _ _ _ _ _ HRI.out).mono ?_
       rintro e w2 ⟨rfl,rfl⟩
       go_wp2_with fail
       go_ret
       exact ⟨z08 HS2.out,HBq.out⟩)
 ·have e:zj ⟨th,ins,outs⟩=z11 ⟨th,ins,outs⟩:=by simp only [zj];rw [if_pos h0]
  rw [e]
  clear e
  by_cases a1:6<n1∨6<n2
  ·have e:z11 ⟨th,ins,outs⟩=2:=by simp only [z11];rw [if_pos (by rw [hl1,hl2];exact a1)]
   rw [e]
   clear e h0 hl1 hl2
   by_cases a:6<n1
   ·clear a1
    go_enter Tryd.func38,Tryd.ntmps38
    go_wp2
    go_ret
    exact ⟨rfl,HB.out⟩
   ·have a2:6<n2:=by omega
    clear a1
    go_enter Tryd.func38,Tryd.ntmps38
    go_wp2
    go_ret
    exact ⟨rfl,HB.out⟩
  ·by_cases a2:n2=0
   ·have e:z11 ⟨th,ins,outs⟩=4:=by simp only [z11];rw [if_neg (by rw [hl1,hl2];exact a1),if_pos (by rw [hl2];exact a2)]
    rw [e]
    subst a2
    clear e h0 hl1 hl2
    go_enter Tryd.func38,Tryd.ntmps38
    go_wp2
    go_ret
    exact ⟨rfl,HB.out⟩
   ·have a3:(n1=0∧(th<1∨1000<th))∨(0<n1∧th≠0):=by
     apply Classical.byContradiction
     intro a3
     exact h0 (by simp only [z11];rw [if_neg (by rw [hl1,hl2];exact a1),if_neg (by rw [hl2];exact a2),if_neg (by rw [hl1];exact a3)])
    have e:z11 ⟨th,ins,outs⟩=3:=by simp only [z11];rw [if_neg (by rw [hl1,hl2];exact a1),if_neg (by rw [hl2];exact a2),if_pos (by rw [hl1];exact a3)]
    rw [e]
    have a4:0<n2:=by omega
    clear e h0 hl1 hl2 a2
    rcases a3 with ⟨rfl,a3⟩|⟨a3,a5⟩
    ·rcases Classical.em (th<1) with a5|a5
     ·clear a3
      go_enter Tryd.func38,Tryd.ntmps38
      go_wp2
      go_ret
      exact ⟨rfl,HB.out⟩
     ·have a6:1000<th:=by omega
      clear a3
      go_enter Tryd.func38,Tryd.ntmps38
      go_wp2
      go_ret
      exact ⟨rfl,HB.out⟩
    ·have a6:(th != 0)=true:=by simpa using a5
     clear a5
     go_enter Tryd.func38,Tryd.ntmps38
     go_wp2
     go_ret
     exact ⟨rfl,HB.out⟩
end
section
open Go.RowKit
set_option maxRecDepth 100000
theorem Rds.tx {w:World} {F:Nat→Prop} {xs:List Tx} {A:Option Addr} {n c k:Nat} (h:Rds shTx w F xs A n c) (hk:k<n) :
  ∃ b off x A1 n1 c1 A2 n2 c2,A=some ⟨b,off,none⟩∧F b∧xs[k]? = some x∧(w.cell? ⟨b,off+k * 3,none⟩=some (.int .i64 x.height)∧w.cell? ⟨b,off+k * 3+1,none⟩=some (.slice A1 n1 c1)∧w.cell? ⟨b,off+k * 3+2,none⟩=some (.slice A2 n2 c2))∧shTx.rep w F x [.int .i64 x.height,.slice A1 n1 c1,.slice A2 n2 c2]∧I64 x.height∧x.ins.length=n1:=by
 obtain ⟨b,off,x,cs,e,hF,hx,hr,hc⟩:=h.at_ hk
 have hr':=hr
 obtain ⟨A1,n1,c1,A2,n2,c2,rfl,h1,h2,h3⟩:=zl4 hr
 exact ⟨b,off,x,A1,n1,c1,A2,n2,c2,e,hF,hx,⟨by simpa [shTx,zdp,z2g,shInt,z04] using hc 0 _ rfl,by simpa [shTx,zdp,z2g,shInt,z04] using hc 1 _ rfl,by simpa [shTx,zdp,z2g,shInt,z04] using hc 2 _ rfl⟩,hr',h1,h2.1⟩
def z52 (b:Block):Prop:=b.parent<0∨120<b.parent∨b.height<1∨1000<b.height∨b.work<1∨1000<b.work∨b.nonce<0∨1000000000<b.nonce
instance (b:Block):Decidable (z52 b):=by unfold z52;infer_instance
def z7v (b:Block):Int:=if z52 b then 3 else if 4<b.txs.length then 2 else if b.txs.length=0 then 4 else 0
def z8w (h:Int) (t:Tx) (i:Nat):Prop:=¬ (t.ins.length=0↔i=0)∨(i=0∧t.height≠h)
instance (h:Int) (t:Tx) (i:Nat):Decidable (z8w h t i):=by unfold z8w;infer_instance
def z7d (h:Int):List Tx→Nat→Int
 | [],_=>0
 | t::l,i=>if zj t≠0 then zj t else if z8w h t i then 4 else z7d h l (i+1)
def z07 (b:Block):Int:=if z7v b≠0 then z7v b else z7d b.height b.txs 0
set_option maxHeartbeats 1000000 in
theorem zgq (x:Block) (cs:List Value) (w:World) (F:Nat→Prop) (h:shBlock.rep w F x cs) (hF:∀ b,F b→b<w.heap.size) :
  Calls Tryd.prog 34 #[.agg cs.toArray] w fun e w'=>e = .returned (.int .i64 (z07 x))∧Below w.heap.size w w':=by
 obtain ⟨A,n,c,rfl,i1,i2,i3,i4,hr⟩:=zi0 h
 obtain ⟨bp,bh,bw,bn,txs⟩:=x
 simp only at hr i1 i2 i3 i4 ⊢
 have hl:=hr.1
 have hn:=hr.2.1
 have hc:=hr.2.2.1
 have HR:=Lib.hid hr
 have HB:=Lib.hid ((Below.refl w.heap.size w).alloc (Nat.le_refl _) (.cells #[.int .i64 bp,.int .i64 bh,.int .i64 bw,.int .i64 bn,.slice A n c] 27))
 have HK:=Lib.hid (heap_alloc_new w (.cells #[.int .i64 bp,.int .i64 bh,.int .i64 bw,.int .i64 bn,.slice A n c] 27))
 clear hr h
 by_cases h0:z52 ⟨bp,bh,bw,bn,txs⟩
 ·have e:z07 ⟨bp,bh,bw,bn,txs⟩=3:=by simp only [z07,z7v];rw [if_pos h0];rfl
  rw [e]
  unfold z52 at h0
  simp only at h0
  clear e hl
  rcases Classical.em (bp<0) with p1|p1
  ·clear h0
   go_enter Tryd.func34,Tryd.ntmps34
   go_wp2
   go_ret
   exact ⟨rfl,HB.out⟩
  rcases Classical.em (120<bp) with p2|p2
  ·clear h0
   go_enter Tryd.func34,Tryd.ntmps34
   go_wp2
   go_ret
   exact ⟨rfl,HB.out⟩
  rcases Classical.em (bh<1) with p3|p3
  ·clear h0
   go_enter Tryd.func34,Tryd.ntmps34
   go_wp2
   go_ret
   exact ⟨rfl,HB.out⟩
  rcases Classical.em (1000<bh) with p4|p4
  ·clear h0
   go_enter Tryd.func34,Tryd.ntmps34
   go_wp2
   go_ret
   exact ⟨rfl,HB.out⟩
  rcases Classical.em (bw<1) with p5|p5
  ·clear h0
   go_enter Tryd.func34,Tryd.ntmps34
   go_wp2
   go_ret
   exact ⟨rfl,HB.out⟩
  rcases Classical.em (1000<bw) with p6|p6
  ·clear h0
   go_enter Tryd.func34,Tryd.ntmps34
   go_wp2
   go_ret
   exact ⟨rfl,HB.out⟩
  rcases Classical.em (bn<0) with p7|p7
  ·clear h0
   go_enter Tryd.func34,Tryd.ntmps34
   go_wp2
   go_ret
   exact ⟨rfl,HB.out⟩
  ·have p8:1000000000<bn:=by omega
   clear h0
   go_enter Tryd.func34,Tryd.ntmps34
   go_wp2
   go_ret
   exact ⟨rfl,HB.out⟩
 ·have p:=h0
  unfold z52 at p
  simp only at p
  have p1:¬ bp<0:=by omega
  have p2:¬ 120<bp:=by omega
  have p3:¬ bh<1:=by omega
  have p4:¬ 1000<bh:=by omega
  have p5:¬ bw<1:=by omega
  have p6:¬ 1000<bw:=by omega
  have p7:¬ bn<0:=by omega
  have p8:¬ 1000000000<bn:=by omega
  clear p
  by_cases a1:4<n
  ·have e:z07 ⟨bp,bh,bw,bn,txs⟩=2:=by simp only [z07,z7v];rw [if_neg h0,hl,if_pos a1];rfl
   rw [e]
   clear e h0 hl
   go_enter Tryd.func34,Tryd.ntmps34
   go_wp2
   go_ret
   exact ⟨rfl,HB.out⟩
  ·by_cases a2:n=0
   ·have e:z07 ⟨bp,bh,bw,bn,txs⟩=4:=by simp only [z07,z7v];rw [if_neg h0,hl,if_neg a1,if_pos a2];rfl
    rw [e]
    subst a2
    clear e h0 hl a1
    go_enter Tryd.func34,Tryd.ntmps34
    go_wp2
    go_ret
    exact ⟨rfl,HB.out⟩
   ·have e:z07 ⟨bp,bh,bw,bn,txs⟩=z7d bh txs 0:=by simp only [z07,z7v];rw [if_neg h0,hl,if_neg a1,if_neg a2];rfl
    rw [e]
    have m1:n≤4:=by omega
    have m2:0<n:=by omega
    have HLN:=Lib.hid hl
    clear e h0 hl a1 a2
    go_enter Tryd.func34,Tryd.ntmps34
    go_wp2
    go_loopw [3,4,5,55] (fun _ _ _ i wr=>∃ k:Nat,k≤n∧i = .int .i64 k∧Below w.heap.size w wr∧wr.heap[w.heap.size]? = some (.cells #[.int .i64 bp,.int .i64 bh,.int .i64 bw,.int .i64 bn,.slice A n c] 27 (0,0))∧z7d bh (txs.drop k) k=z7d bh txs 0) (fun _ _ _ i _=>n - (intOf i).toNat)
    case atStart=>exact ⟨0,by omega,rfl,HB.out,HK.out,rfl⟩
    case round =>
     obtain ⟨k,hk,rfl,hb,hbox,hs⟩:=hrel
     have hwz:=z9n hbox
     rcases Classical.em (k<n) with hlt|hlt
     ·obtain ⟨b,off,x,A1,n1,c1,A2,n2,c2,rfl,hFb,hx,⟨hc1,hc2,hc3⟩,hrk,xi,xl⟩:=HR.out.tx hlt
      have hFw:=hF b hFb
      rw [← hb.cell (p:=⟨b,off+k * 3,none⟩) hFw] at hc1
      rw [← hb.cell (p:=⟨b,off+k * 3+1,none⟩) hFw] at hc2
      rw [← hb.cell (p:=⟨b,off+k * 3+2,none⟩) hFw] at hc3
      rw [z38 hx,z7d] at hs
      have hW:=hb.alloc hb.size (.cells #[.int .i64 x.height,.slice A1 n1 c1,.slice A2 n2 c2] 43)
      have HW:=Lib.hid hW
      have HRK:=Lib.hid (shTx.more (F':=Lt (wr.alloc (.cells #[.int .i64 x.height,.slice A1 n1 c1,.slice A2 n2 c2] 43)).heap.size) (fun b hb=>by have:=hF b hb;show b<_;simp;omega) (shTx.keep ((Agree.below hW).mono hF) hrk))
      have HBX:=Lib.hid (z3c (g:=w.heap.size) hbox ((Below.refl wr.heap.size wr).alloc (Nat.le_refl _) (.cells #[.int .i64 x.height,.slice A1 n1 c1,.slice A2 n2 c2] 43)) hwz)
      have HNW:=Lib.hid (heap_alloc_new wr (.cells #[.int .i64 x.height,.slice A1 n1 c1,.slice A2 n2 c2] 43))
      have i1':(0:Int)≤(k:Int):=by omega
      have i2':(k:Int)<(n:Int):=by omega
      have HS:=Lib.hid hs
      clear hx hrk hFb hb hbox hs hW
      go_wp2_with fail
      generalize hW1:wr.alloc (.cells #[.int .i64 x.height,.slice A1 n1 c1,.slice A2 n2 c2] 43)=W1 at HW HRK HBX HNW ⊢
      have hsW:wr.heap.size<W1.heap.size:=by rw [← hW1];simp
      clear hW1
      refine (z99 _ [_,_,_] _ _ HRK.out (fun b hb=>hb)).mono ?_
      rintro e w2 ⟨rfl,hb2⟩
      have HW2:=Lib.hid (HW.out.trans (hb2.mono HW.out.size))
      have HBX2:=Lib.hid (z3c HBX.out hb2 (by omega))
      have HNW2:=Lib.hid (z3c HNW.out hb2 hsW)
      clear hb2 HW HRK HBX HNW
      by_cases he:zj x=0
      ·rw [he]
       have hs:=HS.out
       rw [he,if_neg (by decide)] at hs
       clear HS he
       have b0:=z2h (i:=0) HNW2.out
       have b1:=z2h (i:=1) HNW2.out
       have b2:=z2h (i:=1) HBX2.out
       rcases Classical.em (k=0) with hk0|hk0
       ·have q1:((k:Int) == 0)=true:=by simp [hk0]
        rcases Classical.em (n1=0) with hn0|hn0
        ·have q2:((n1:Int) == 0)=true:=by simp [hn0]
         rcases Classical.em (x.height=bh) with hh|hh
         ·have q3:(x.height != bh)=false:=by simp [hh]
          rw [if_neg (by unfold z8w;rw [xl];simp [hk0,hn0,hh])] at hs
          have HS:=Lib.hid hs
          clear hs hk0 hn0 hh
          go_wp2_with fail
          go_roundw
          case measure=>simp [intOf];omega
          case rel=>exact ⟨k+1,by omega,by go_num,HW2.out,HBX2.out,HS.out⟩
         ·have q3:(x.height != bh)=true:=by simp [hh]
          rw [if_pos (by unfold z8w;exact .inr ⟨hk0,hh⟩)] at hs
          have HS:=Lib.hid hs
          clear hs hk0 hn0 hh
          go_wp2_with fail
          go_ret
          exact ⟨z08 HS.out,HW2.out⟩
        ·have q2:((n1:Int) == 0)=false:=by simp;omega
         rw [if_pos (by unfold z8w;rw [xl];simp [hk0,hn0])] at hs
         have HS:=Lib.hid hs
         clear hs hk0 hn0
         go_wp2_with fail
         go_ret
         exact ⟨z08 HS.out,HW2.out⟩
       ·have q1:((k:Int) == 0)=false:=by simp;omega
        rcases Classical.em (n1=0) with hn0|hn0
        ·have q2:((n1:Int) == 0)=true:=by simp [hn0]
         rw [if_pos (by unfold z8w;rw [xl];simp [hk0,hn0])] at hs
         have HS:=Lib.hid hs
         clear hs hk0 hn0
         go_wp2_with fail
         go_ret
         exact ⟨z08 HS.out,HW2.out⟩
        ·have q2:((n1:Int) == 0)=false:=by simp;omega
         rw [if_neg (by unfold z8w;rw [xl];simp [hk0,hn0])] at hs
         have HS:=Lib.hid hs
         clear hs hk0 hn0
         go_wp2_with fail
         go_roundw
         case measure=>simp [intOf];omega
         case rel=>exact ⟨k+1,by omega,by go_num,HW2.out,HBX2.out,HS.out⟩
      ·have hs:=HS.out
       rw [if_pos he] at hs
       have hd:(zj x != 0)=true:=by simpa using he
       have HS':=Lib.hid hs
       clear HS he hs
       go_wp2_with fail
       go_ret
       exact ⟨z08 HS'.out,HW2.out⟩
     ·obtain rfl:n=k:=by omega
      rw [List.drop_eq_nil_of_le (by rw [HLN.out];omega),z7d] at hs
      have HS:=Lib.hid hs
      clear hs
      go_wp2
      go_ret
      exact ⟨z08 HS.out,hb⟩
end
section
open Go.RowKit
def Yl (P:Program) (w0:World) (F0:Nat→Prop) (Γ:List Res) (o:Oper) (a:Act) (v:Value):Prop:=∀ W,Sep w0 F0 Γ W→(execOp a.eval o).run P W = .ok (.value v) W
section
variable {P:Program} {w0 W:World} {F0:Nat→Prop} {Γ:List Res} {ops:Array Oper} {a:Act} {rest:List Oper} {o:Oper} {t:TypeId} {x y:Operand}
theorem Yl.pure {v:Value} (h:∀ W,(execOp a.eval o).run P W = .ok (.value v) W):Yl P w0 F0 Γ o a v:=fun W _=>h W
theorem Yl.move (ho:o.op = .move x):Yl P w0 F0 Γ o a (a.eval x):=fun W _=>by unfold execOp;simp only [ho];rfl
theorem Yl.assign (ho:o.op = .assign x):Yl P w0 F0 Γ o a (a.eval x):=fun W _=>by unfold execOp;simp only [ho];rfl
theorem Yl.load (ho:o.op = .load t x) {p:Addr} {v:Value} (hx:a.eval x = .pointer (some p)) (hr:∀ W,Sep w0 F0 Γ W→(loadVar t p).run P W = .ok v W):Yl P w0 F0 Γ o a v:=fun W hS=>by
 unfold execOp
 simp only [ho,Instr.loadAt,Instr.sureAddr,Sem.run_bind,Result.andThen_ok,Sem.run_pure,hx,hr W hS]
theorem Yl.load1b (ho:o.op = .load t x) {g j ty:Nat} {cs:List Value} {v:Value} (hx:a.eval x = .pointer (some ⟨g,j,none⟩)) (h1:OneT P t) (hm:At Γ (box g cs ty)) (hv:cs[j]? = some v):Yl P w0 F0 Γ o a v :=
 Yl.load ho hx fun W hS=>h1.load (by have:=hS.boxAt hm j v hv;rwa [Nat.zero_add] at this)
theorem Yl.loadNb (ho:o.op = .load t x) {g ty:Nat} {cs:List Value} (hx:a.eval x = .pointer (some ⟨g,0,none⟩)) (hm:At Γ (box g cs ty)) (h1:AggN P t cs.length):Yl P w0 F0 Γ o a (.agg cs.toArray) :=
 Yl.load ho hx fun W hS=>h1.load (hS.boxAt hm)
theorem Yl.load1c (ho:o.op = .load t x) {b q j:Nat} {cs:List Value} {v:Value} (hx:a.eval x = .pointer (some ⟨b,q+j,none⟩)) (h1:OneT P t) (hm:At Γ (cells b q cs)) (hv:cs[j]? = some v):Yl P w0 F0 Γ o a v :=
 Yl.load ho hx fun W hS=>h1.load (hS.cellsAt hm j v hv)
theorem Yl.load1z (ho:o.op = .load t x) {b q:Nat} {cs:List Value} {v:Value} (hx:a.eval x = .pointer (some ⟨b,q,none⟩)) (h1:OneT P t) (hm:At Γ (cells b q cs)) (hv:cs[0]? = some v):Yl P w0 F0 Γ o a v :=
 Yl.load ho hx fun W hS=>h1.load (hS.cellsAt hm 0 v hv)
theorem Yl.loadNz (ho:o.op = .load t x) {b q:Nat} {cs:List Value} (hx:a.eval x = .pointer (some ⟨b,q,none⟩)) (hm:At Γ (cells b q cs)) (h1:AggN P t cs.length):Yl P w0 F0 Γ o a (.agg cs.toArray) :=
 Yl.load ho hx fun W hS=>h1.load (hS.cellsAt hm)
theorem Sep.region (h:Sep w0 F0 Γ W) {id:Nat} {Q:Exit→Act→World→Prop} {l:List Oper} (hm:P.follows .mixedOrders=true) (hB:Region.lexB .any l.toArray=true)
  (k:wpQuiet P l.toArray (Sep w0 F0 Γ) (fun a'=>∀ W',Sep w0 F0 Γ W'→Q .normal a' W') l a):(Code.region id l.toArray true).wp P Q a W :=
 wp_region_quiet (C:=Sep w0 F0 Γ) hm hB h.drew (by simpa using k)
def z48 (late:List Nat) (listed:Array Bool):Bool:=late.any fun s=>listed.getD s false
def zcu (md:Region.Mode) (ops:Array Oper):Nat→Nat→Nat→Bool
 | 0,_,_=>false
 | n+1,s,i=>match ops[s]? with
  | some o=>o.after.any fun e=>Region.binds md e && (e.on == i || zcu md ops n e.on i)
  | none=>false
def zbw (md:Region.Mode) (ops:Array Oper) (late:List Nat) (i:Nat):Bool:=late.all fun s=>s != i && zcu md ops ops.size s i
def zgx (md:Region.Mode) (ops:Array Oper) (listed:Array Bool):Bool:=(List.range ops.size).all fun j => !listed.getD j false || match ops[j]? with
 | some o=>o.after.all fun e => !Region.binds md e || listed.getD e.on false
 | none=>true
def z9w (md:Region.Mode) (ops:Array Oper) (listed:Array Bool):Prop:=∀ j o,ops[j]? = some o→listed.getD j false=true→∀ e ∈ o.after,Region.binds md e=true→listed.getD e.on false=true
theorem zww {md:Region.Mode} {ops:Array Oper} {listed:Array Bool} (h:zgx md ops listed=true):z9w md ops listed:=by
 intro j o hj hl e he hb
 have hlt:=(Array.getElem?_eq_some_iff.1 hj).1
 have:=(List.all_eq_true.1 h) j (List.mem_range.2 hlt)
 simp only [hl,hj,Bool.not_true,Bool.false_or] at this
 have h2:=Array.all_eq_true'.1 this e he
 simpa [hb] using h2
theorem zuj {md:Region.Mode} {ops:Array Oper} {listed:Array Bool} {j:Nat} (h:z9w md ops listed) (hj:j ∈ Region.ready md ops listed):z9w md ops (listed.setIfInBounds j true):=by
 obtain ⟨_,oj,hoj,hall⟩:=mem_ready.1 hj
 intro k o hk hl e he hb
 by_cases hjk:j=k
 ·subst hjk
  rw [hoj] at hk
  injection hk with hk
  subst hk
  exact getD_set_true (hall e he hb)
 ·rw [getD_set_ne false hjk] at hl
  exact getD_set_true (h k o hk hl e he hb)
theorem zbx {md:Region.Mode} {ops:Array Oper} {listed:Array Bool} (h:z9w md ops listed) {i:Nat}:∀ (n s:Nat),zcu md ops n s i=true→listed.getD s false=true→listed.getD i false=true
 | 0,s,hr,_=>by cases hr
 | n+1,s,hr,hl=>by
  unfold zcu at hr
  split at hr
  ·rename_i o ho
   obtain ⟨e,he,hb⟩:=Array.any_eq_true'.1 hr
   simp only [Bool.and_eq_true,Bool.or_eq_true,beq_iff_eq] at hb
   have h1:=h s o ho hl e he hb.1
   rcases hb.2 with h2|h2
   ·rw [← h2];exact h1
   ·exact zbx h n e.on h2 h1
  ·cases hr
theorem zre {md:Region.Mode} {ops:Array Oper} {listed:Array Bool} (h:z9w md ops listed) {i s n:Nat} (hr:zcu md ops n s i=true) (hs:s ∈ Region.ready md ops listed):listed.getD i false=true:=by
 obtain ⟨_,o,ho,hall⟩:=mem_ready.1 hs
 cases n with
 | zero=>cases hr
 | succ n =>
  unfold zcu at hr
  simp only [ho] at hr
  obtain ⟨e,he,hb⟩:=Array.any_eq_true'.1 hr
  simp only [Bool.and_eq_true,Bool.or_eq_true,beq_iff_eq] at hb
  have h1:=hall e he hb.1
  rcases hb.2 with h2|h2
  ·rw [← h2];exact h1
  ·exact zbx h n e.on h2 h1
theorem z01z {listed:Array Bool} {i:Nat} (h:listed.getD i true=false):listed.getD i false=false:=by
 rcases Nat.lt_or_ge i listed.size with h'|h'
 ·simp [h'] at h ⊢;exact h
 ·simp [Array.getElem?_eq_none h'] at h
variable {md:Region.Mode} {Q:Exit→Act→World→Prop} {S:World→Prop} {late:List Nat}
def z2j (P:Program) (md:Region.Mode) (ops:Array Oper) (Q:Exit→Act→World→Prop) (S:World→Prop) (late:List Nat):Nat→Array Bool→Act→World→Prop
 | 0,listed,a,w=>Region.ready md ops listed=[]∧Q .normal a w
 | fuel+1,listed,a,w =>
  (Region.ready md ops listed=[]→Q .normal a w) ∧
  ∀ i ∈ Region.ready md ops listed,wpOp P ops Q i (fun a' w'=>(z48 late (listed.setIfInBounds i true)=false→S w')∧z2j P md ops Q S late fuel (listed.setIfInBounds i true) a' w') a w
theorem zfs:∀ (fuel:Nat) (listed:Array Bool) (a:Act) (w:World),z2j P md ops Q S late fuel listed a w→wpAny P md ops Q fuel listed a w
 | 0,_,_,_,h=>h
 | fuel+1,_,_,_,h=>⟨h.1,fun i hi=>wpOp_mono (fun a' w' h'=>zfs fuel _ a' w' h'.2) (h.2 i hi)⟩
theorem zft {listed:Array Bool} {j:Nat} (h:z48 late listed=false) (hj:j ∉ late):z48 late (listed.setIfInBounds j true)=false:=by
 rw [z48,List.any_eq_false] at h ⊢
 intro s hs
 have hne:j≠s:=fun e=>hj (e ▸ hs)
 rw [getD_set_ne false hne]
 exact h s hs
theorem zoo {i:Nat} {oi:Oper} {v:Value} (hi:ops[i]? = some oi) (hsel:∀ (j:Nat) (o:Oper) cs b,ops[j]? = some o→o.op ≠ .select cs b)
  (hQ:∀ c a w,Q (.panic c) (a.put oi.dst v) w→Q (.panic c) a w) (hlw:zbw md ops late i=true) :
  ∀ (fuel:Nat) (listed:Array Bool) (a:Act) (w:World),
   (∀ j oj,ops[j]? = some oj→j≠i→listed.getD j true=false→(∀ e ∈ oj.after,Region.binds md e=true→e.on≠i)→oi.apart ops oj=true) →
   i ∈ Region.ready md ops listed→YieldsIf P ops S oi v a→S w→z48 late listed=false→z9w md ops listed →
   z2j P md ops Q S late fuel (listed.setIfInBounds i true) (a.put oi.dst v) w→z2j P md ops Q S late (fuel+1) listed a w:=by
 have hil:i ∉ late:=fun h=>by
  have:=(List.all_eq_true.1 hlw) i h
  simp at this
 intro fuel
 induction fuel with
 | zero =>
  intro listed a w _ hr hy hS hl hcl H
  refine ⟨fun h=>(by rw [h] at hr;cases hr),fun j hj=>?_⟩
  by_cases hji:j=i
  ·subst hji;exact hy.wpOp hi hS ⟨fun _=>hS,H⟩
  ·have:=ready_mono hj hji
   rw [H.1] at this
   cases this
 | succ fuel ih =>
  intro listed a w hfree hr hy hS hl hcl H
  refine ⟨fun h=>(by rw [h] at hr;cases hr),fun j hj=>?_⟩
  by_cases hji:j=i
  ·subst hji;exact hy.wpOp hi hS ⟨fun _=>hS,H⟩
  ·have h1:=H.2 j (ready_mono hj hji)
   obtain ⟨hjun,oj,hoj,hall⟩:=mem_ready.1 hj
   have hnot:∀ e ∈ oj.after,Region.binds md e=true→e.on≠i:=fun e he hb heq=>by
    have h1:=hall e he hb
    have h0:=(mem_ready.1 hr).1
    rw [heq] at h1
    rcases Nat.lt_or_ge i listed.size with h'|h'
    ·simp [h'] at h0 h1;rw [h0] at h1;cases h1
    ·simp [Array.getElem?_eq_none h'] at h1
   have hjl:j ∉ late:=fun hmem=>by
    have:=(List.all_eq_true.1 hlw) j hmem
    simp only [Bool.and_eq_true] at this
    have h5:=zre hcl this.2 hj
    rw [z01z (mem_ready.1 hr).1] at h5
    cases h5
   have hl':=zft hl hjl
   have h2:=wpOp_putIf hoj (hfree j oj hoj hji hjun hnot) (fun cs b=>hsel i oi cs b hi) (fun cs b=>hsel j oj cs b hoj) hQ hy h1
   have hfree':∀ k ok,ops[k]? = some ok→k≠i→(listed.setIfInBounds j true).getD k true=false →
     (∀ e ∈ ok.after,Region.binds md e=true→e.on≠i)→oi.apart ops ok=true:=fun k ok hk hki hun hno=>by
    refine hfree k ok hk hki ?_ hno
    by_cases hjk:j=k
    ·subst hjk;exact hjun
    ·rw [getD_set_ne true hjk] at hun;exact hun
   have hl2:z48 late ((listed.setIfInBounds i true).setIfInBounds j true)=false:=by
    rw [Array.setIfInBounds_comm _ _ (Ne.symm hji)]
    exact zft hl' hil
   refine wpOp_mono (fun a' w' h3=>⟨fun _=>h3.2.1 hl2,ih (listed.setIfInBounds j true) a' w' hfree' (ready_mono hr (Ne.symm hji)) h3.1 (h3.2.1 hl2) hl' (zuj hcl hj) ?_⟩) h2
   rw [Array.setIfInBounds_comm _ _ hji]
   exact h3.2.2
theorem zrf (i:Nat) {oi:Oper} {v:Value} {fuel:Nat} {listed:Array Bool} (hi:ops[i]? = some oi) (hw:Region.wanted oi (yielded ops a.tmps)=true) (hy:Yl P w0 F0 Γ oi a v) (h:Sep w0 F0 Γ W)
  (hs:(Region.noSelect ops && Region.free md ops listed i && (Region.ready md ops listed).contains i && zbw md ops late i && !z48 late listed && zgx md ops listed)=true)
  (hQ:∀ c a w,Q (.panic c) (a.put oi.dst v) w→Q (.panic c) a w)
  (k:z2j P md ops Q (Sep w0 F0 Γ) late fuel (listed.setIfInBounds i true) (a.put oi.dst v) W):z2j P md ops Q (Sep w0 F0 Γ) late (fuel+1) listed a W:=by
 simp only [Bool.and_eq_true,Bool.not_eq_true'] at hs
 obtain ⟨⟨⟨⟨⟨h1,h2⟩,h3⟩,h4⟩,h5⟩,h6⟩:=hs
 exact zoo hi (Region.noSelect_spec h1) hQ h4 fuel listed a W (Region.free_spec hi h2) (by simpa using h3) (.inl ⟨hw,fun W hS=>hy W hS⟩) h h5 (zww h6) k
structure NextT (P:Program) (md:Region.Mode) (ops:Array Oper) (Q:Exit→Act→World→Prop) (S:World→Prop) (late:List Nat) (fuel:Nat) (listed:Array Bool) (a:Act) (w:World):Prop where
 s:z48 late listed=false→S w
 t:z2j P md ops Q S late fuel listed a w
theorem z047 {Q Q':Exit→Act→World→Prop} {K K':Act→World→Prop} {w:World} (hK:∀ a w,K' a w→K a w) (hp:∀ c w,Q' (.panic c) a w→Q (.panic c) a w) (hl:LetsOut Q'→LetsOut Q) (h:o.wp P a w K' Q'):o.wp P a w K Q:=by
 unfold Oper.wp at *
 generalize (execOp a.eval o).run P w=r at *
 cases r with
 | ok n w' =>
  cases n <;> simp only [Oper.upon] at h ⊢ <;>
   first
    | exact hK _ _ h
    | exact Calls.mono h (fun e w'' he=>by cases e <;> first|exact hK _ _ he|exact hp _ _ he|exact hl he)
    | exact Rows.mono h (fun _ _ he=>hK _ _ he)
 | halt x w'=>cases x <;> simp only [Oper.upon] at h ⊢ <;> exact hp _ _ h
theorem zuk (i:Nat) {fuel:Nat} {listed:Array Bool} {w:World} (hr:(Region.ready md ops listed == [i])=true) (ho:ops[i]? = some o)
  (h:wpList P ops (Exit.then (NextT P md ops Q S late fuel (listed.setIfInBounds i true)) Q) [o] a w):z2j P md ops Q S late (fuel+1) listed a w:=by
 have hr':Region.ready md ops listed=[i]:=by simpa using hr
 refine ⟨fun h0=>(by rw [h0] at hr';cases hr'),fun j hj=>?_⟩
 rw [hr'] at hj
 have hji:j=i:=by simpa using hj
 subst hji
 unfold wpOp
 simp only [ho]
 unfold wpList at h
 split
 ·rename_i hw
  rw [if_pos hw] at h
  rcases h with h|⟨h1,h2⟩
  ·exact .inl (z047 (fun a w hk=>⟨hk.s,hk.t⟩) (fun c w hp=>hp) (fun hl=>hl) h)
  ·exact .inr ⟨h1,h2⟩
 ·rename_i hw
  rw [if_neg hw] at h
  exact ⟨h.s,h.t⟩
theorem z6m {fuel:Nat} {listed:Array Bool} {w:World} (hr:((Region.ready md ops listed) == [])=true) (h:Q .normal a w):z2j P md ops Q S late fuel listed a w:=by
 have hr':Region.ready md ops listed=[]:=by simpa using hr
 cases fuel with
 | zero=>exact ⟨hr',h⟩
 | succ n=>exact ⟨fun _=>h,by rw [hr'];simp⟩
theorem z0m {l:List Oper} (i:Nat) {oi:Oper} {v:Value} {fuel:Nat} {listed:Array Bool} (hi:l[i]? = some oi) (hw:Region.wanted oi (yielded l.toArray a.tmps)=true) (hy:Yl P w0 F0 Γ oi a v) (h:Sep w0 F0 Γ W)
  (hs:(Region.noSelect l.toArray && Region.free md l.toArray listed i && (Region.ready md l.toArray listed).contains i && zbw md l.toArray late i && !z48 late listed && zgx md l.toArray listed)=true)
  (hQ:∀ c a w,Q (.panic c) (a.put oi.dst v) w→Q (.panic c) a w)
  (k:z2j P md l.toArray Q (Sep w0 F0 Γ) late fuel (listed.setIfInBounds i true) (a.put oi.dst v) W):z2j P md l.toArray Q (Sep w0 F0 Γ) late (fuel+1) listed a W :=
 zrf i (by simpa using hi) hw hy h hs hQ k
theorem z74 {l:List Oper} (i:Nat) {fuel:Nat} {listed:Array Bool} {w:World} (hr:(Region.ready md l.toArray listed == [i])=true) (ho:l[i]? = some o)
  (h:wpList P l.toArray (Exit.then (NextT P md l.toArray Q S late fuel (listed.setIfInBounds i true)) Q) [o] a w):z2j P md l.toArray Q S late (fuel+1) listed a w :=
 zuk i hr (by simpa using ho) h
theorem z7w {late:List Nat} {listed:Array Bool} {p:Prop} (h:z48 late listed=true) (h':z48 late listed=false):p:=by rw [h] at h';cases h'
theorem Sep.regionT (h:Sep w0 F0 Γ W) (late:List Nat) {id:Nat} {l:List Oper} (hm:P.follows .mixedOrders=true) (k:∀ W',Sep w0 F0 Γ W'→z2j P .any l.toArray Q (Sep w0 F0 Γ) late l.length (Array.replicate l.length false) a W'):(Code.region id l.toArray true).wp P Q a W:=by
 refine wp_region_any hm (zfs (S:=Sep w0 F0 Γ) (late:=late) _ _ _ _ ?_)
 have:=k W.drew h.drew
 simpa using this
end
def Got (P:Program) (W:World) (tmps:Array Value):ResultVar→Value→Prop
 | .tmp t,v=>tmps.getD t undef=v
 | .cell a t,v=>∃ p,tmps.getD a undef = .pointer (some p)∧(loadVar t p).run P W = .ok v W
def zul (tmps:Array Value):ResultVar→Sem Value
 | .tmp t=>Pure.pure (tmps.getD t undef)
 | .cell a t=>do loadVar t (← asAddr (tmps.getD a undef))
theorem Got.run {P:Program} {W:World} {tmps:Array Value} {r:ResultVar} {v:Value} (h:Got P W tmps r v):(zul tmps r).run P W = .ok v W:=by
 cases r with
 | tmp t=>simp only [Got] at h;simp only [zul,h,Sem.run_pure]
 | cell a t=>obtain ⟨p,h1,h2⟩:=h;simp only [zul,h1,asAddr,Sem.run_bind,Sem.run_pure,Result.andThen_ok,h2]
theorem zfu (fn:Func) (tmps:Array Value):results fn tmps=(do let vs ← fn.results.mapM (zul tmps);Pure.pure (if h:vs.size=1 then vs[0] else .tuple vs)):=rfl
section
variable {P:Program} {w0 W:World} {F0:Nat→Prop} {Γ:List Res} {fn:Func} {tmps:Array Value} {r s q p:ResultVar} {v u x y:Value}
theorem Got.tmp {t:Tmp} (h:tmps.getD t undef=v):Got P W tmps (.tmp t) v:=h
theorem Got.boxN (hS:Sep w0 F0 Γ W) {a g t ty:Nat} {cs:List Value} (hx:tmps.getD a undef = .pointer (some ⟨g,0,none⟩)) (hm:At Γ (box g cs ty)) (h1:AggN P t cs.length):Got P W tmps (.cell a t) (.agg cs.toArray):=⟨_,hx,h1.load (hS.boxAt hm)⟩
theorem Got.box1 (hS:Sep w0 F0 Γ W) {a g t ty:Nat} {v:Value} (hx:tmps.getD a undef = .pointer (some ⟨g,0,none⟩)) (hm:At Γ (box g [v] ty)) (h1:OneT P t):Got P W tmps (.cell a t) v:=⟨_,hx,h1.load (by have:=hS.boxAt hm 0 v rfl;simpa using this)⟩
theorem zzf (h:fn.results=#[r]) (g:Got P W tmps r v):(results fn tmps).run P W = .ok v W:=by
 rw [zfu,h];simp [g.run]
theorem zop (h:fn.results=#[r,s]) (g:Got P W tmps r v) (g':Got P W tmps s u):(results fn tmps).run P W = .ok (.tuple #[v,u]) W:=by
 rw [zfu,h];simp [g.run,g'.run]
end
attribute [irreducible] Yl z2j
end
section
open Go.RowKit
attribute [local semireducible] z2j Yl
section
variable {P:Program} {ops:Array Oper} {a:Act} {w:World} {md:Region.Mode} {Q:Exit→Act→World→Prop} {S:World→Prop} {late:List Nat}
def Yp (P:Program) (o:Oper) (a:Act) (v:Value):Prop:=∀ W,(execOp a.eval o).run P W = .ok (.value v) W
theorem Yp.mk {o:Oper} {v:Value} (h:∀ W,(execOp a.eval o).run P W = .ok (.value v) W):Yp P o a v:=h
theorem Yp.move {o:Oper} {x:Operand} (ho:o.op = .move x):Yp P o a (a.eval x):=fun W=>by unfold execOp;simp only [ho];rfl
theorem Yp.assign {o:Oper} {x:Operand} (ho:o.op = .assign x):Yp P o a (a.eval x):=fun W=>by unfold execOp;simp only [ho];rfl
end
attribute [irreducible] Yp
end
section
open Go.RowKit
theorem z051:AggN Tryd.prog 74 2:=.mk Tryd.underlying74 rfl (by kernel_rfl)
theorem zoq:z30 Tryd.prog 74 [.int .i64 0,.int .i64 0]:=⟨.agg #[.int .i64 0,.int .i64 0],rfl,fun _=>by kernel_rfl⟩
theorem zzg:AggN Tryd.prog 61 2:=.mk Tryd.underlying61 rfl (by kernel_rfl)
theorem z05n:z30 Tryd.prog 61 [.int .i64 0,.int .i64 0]:=⟨.agg #[.int .i64 0,.int .i64 0],rfl,fun _=>by kernel_rfl⟩
theorem z052:AggN Tryd.prog 76 3:=.mk Tryd.underlying76 rfl (by kernel_rfl)
theorem z_in:z30 Tryd.prog 76 [.int .i64 0,.int .i64 0,.slice none 0 0]:=⟨.agg #[.int .i64 0,.int .i64 0,.slice none 0 0],rfl,fun _=>by kernel_rfl⟩
theorem z049:AggN Tryd.prog 56 2:=.mk Tryd.underlying56 rfl (by kernel_rfl)
theorem z00l:z30 Tryd.prog 56 [.int .i64 0,.slice none 0 0]:=⟨.agg #[.int .i64 0,.slice none 0 0],rfl,fun _=>by kernel_rfl⟩
theorem z053:AggN Tryd.prog 43 3:=.mk Tryd.underlying43 rfl (by kernel_rfl)
theorem z_tx:z30 Tryd.prog 43 [.int .i64 0,.slice none 0 0,.slice none 0 0]:=⟨.agg #[.int .i64 0,.slice none 0 0,.slice none 0 0],rfl,fun _=>by kernel_rfl⟩
theorem z020:AggN Tryd.prog 24 1:=.mk Tryd.underlying24 rfl (by kernel_rfl)
theorem z05s:z30 Tryd.prog 24 [.slice none 0 0]:=⟨.agg #[.slice none 0 0],rfl,fun _=>by kernel_rfl⟩
theorem z021:AggN Tryd.prog 63 6:=.mk Tryd.underlying63 rfl (by kernel_rfl)
theorem z05t:z30 Tryd.prog 63 [.int .i64 0,.int .i64 0,.int .i64 0,.slice none 0 0,.int .i64 0,.bool false]:=⟨.agg #[.int .i64 0,.int .i64 0,.int .i64 0,.slice none 0 0,.int .i64 0,.bool false],rfl,fun _=>by kernel_rfl⟩
theorem z022:AggN Tryd.prog 102 1:=.mk Tryd.underlying102 rfl (by kernel_rfl)
theorem z05u:z30 Tryd.prog 102 [.slice none 0 0]:=⟨.agg #[.slice none 0 0],rfl,fun _=>by kernel_rfl⟩
theorem zzh:AggN Tryd.prog 27 5:=.mk Tryd.underlying27 rfl (by kernel_rfl)
theorem z05o:z30 Tryd.prog 27 [.int .i64 0,.int .i64 0,.int .i64 0,.int .i64 0,.slice none 0 0]:=⟨.agg #[.int .i64 0,.int .i64 0,.int .i64 0,.int .i64 0,.slice none 0 0],rfl,fun _=>by kernel_rfl⟩
theorem z023:OneT Tryd.prog 3:=.mk Tryd.underlying3 rfl (by kernel_rfl)
theorem z05y:z30 Tryd.prog 3 [.int .i64 0]:=⟨.int .i64 0,rfl,fun _=>by kernel_rfl⟩
theorem z024:OneT Tryd.prog 9:=.mk Tryd.underlying9 rfl (by kernel_rfl)
theorem z05z:z30 Tryd.prog 9 [.string ⟨#[]⟩]:=⟨.string ⟨#[]⟩,rfl,fun _=>by kernel_rfl⟩
theorem zzi:OneT Tryd.prog 4:=.mk Tryd.underlying4 rfl (by kernel_rfl)
theorem z05v:z30 Tryd.prog 4 [.bool false]:=⟨.bool false,rfl,fun _=>by kernel_rfl⟩
theorem zwx:OneT Tryd.prog 29:=.mk Tryd.underlying29 rfl (by kernel_rfl)
theorem z05p:z30 Tryd.prog 29 [.int .i64 0]:=⟨.int .i64 0,rfl,fun _=>by kernel_rfl⟩
theorem z025:OneT Tryd.prog 54:=.mk Tryd.underlying54 rfl (by kernel_rfl)
theorem z060:SliceT Tryd.prog 54 74 2 16:=.mk Tryd.underlying54 (by kernel_rfl)
theorem z026:OneT Tryd.prog 40:=.mk Tryd.underlying40 rfl (by kernel_rfl)
theorem z061:SliceT Tryd.prog 40 76 3 40:=.mk Tryd.underlying40 (by kernel_rfl)
theorem zzj:OneT Tryd.prog 41:=.mk Tryd.underlying41 rfl (by kernel_rfl)
theorem zwy:SliceT Tryd.prog 41 56 2 32:=.mk Tryd.underlying41 (by kernel_rfl)
theorem z027:OneT Tryd.prog 25:=.mk Tryd.underlying25 rfl (by kernel_rfl)
theorem z062:SliceT Tryd.prog 25 43 3 56:=.mk Tryd.underlying25 (by kernel_rfl)
theorem zwz:OneT Tryd.prog 39:=.mk Tryd.underlying39 rfl (by kernel_rfl)
theorem zgy:SliceT Tryd.prog 39 63 6 64:=.mk Tryd.underlying39 (by kernel_rfl)
theorem zx0:OneT Tryd.prog 57:=.mk Tryd.underlying57 rfl (by kernel_rfl)
theorem z05q:SliceT Tryd.prog 57 102 1 24:=.mk Tryd.underlying57 (by kernel_rfl)
theorem zzk:OneT Tryd.prog 28:=.mk Tryd.underlying28 rfl (by kernel_rfl)
theorem z05w:SliceT Tryd.prog 28 3 1 8:=.mk Tryd.underlying28 (by kernel_rfl)
theorem zzl:OneT Tryd.prog 22:=.mk Tryd.underlying22 rfl (by kernel_rfl)
theorem z05x:SliceT Tryd.prog 22 9 1 16:=.mk Tryd.underlying22 (by kernel_rfl)
theorem z1o {t:Nat} (h:[3,29,4,9,54,40,41,25,39,57,28,22].contains t=true):OneT Tryd.prog t:=by
 have h':=List.contains_iff_mem.1 h
 simp only [List.mem_cons,List.not_mem_nil,or_false] at h'
 rcases h' with rfl|rfl|rfl|rfl|rfl|rfl|rfl|rfl|rfl|rfl|rfl|rfl
 ·exact z023
 ·exact zwx
 ·exact zzi
 ·exact z024
 ·exact z025
 ·exact z026
 ·exact zzj
 ·exact z027
 ·exact zwz
 ·exact zx0
 ·exact zzk
 ·exact zzl
theorem z29 {t n:Nat} (h:[(74,2),(61,2),(76,3),(56,2),(43,3),(24,1),(63,6),(102,1),(27,5)].contains (t,n)=true):AggN Tryd.prog t n:=by
 have h':=List.contains_iff_mem.1 h
 simp only [List.mem_cons,List.not_mem_nil,or_false,Prod.mk.injEq] at h'
 rcases h' with ⟨rfl,rfl⟩|⟨rfl,rfl⟩|⟨rfl,rfl⟩|⟨rfl,rfl⟩|⟨rfl,rfl⟩|⟨rfl,rfl⟩|⟨rfl,rfl⟩|⟨rfl,rfl⟩|⟨rfl,rfl⟩
 ·exact z051
 ·exact zzg
 ·exact z052
 ·exact z049
 ·exact z053
 ·exact z020
 ·exact z021
 ·exact z022
 ·exact zzh
end
section
open Go.RowKit
theorem zor {w:World} {base e size n c:Nat} {A:Option Addr} {xs:List Value} (h:w.ownsRow base e size (.slice A n c) n xs) {i:Nat} (hi:i<xs.length) :
  ∃ g,A=some ⟨g,0,none⟩∧base≤g∧g<w.heap.size∧w.cell? ⟨g,i,none⟩=xs[i]? ∧ w.frozen? ⟨g,i,none⟩=false:=by
 obtain ⟨hl,h2⟩:=h
 rcases h2 with ⟨hv,hn⟩|⟨g,cap,cur,hv,hg,hh,hnc,hcm,hcs,ht⟩
 ·rw [hn,Nat.zero_mul] at hl;omega
 ·simp only [Value.slice.injEq] at hv
  obtain ⟨rfl,_,rfl⟩:=hv
  refine ⟨g,rfl,hg,z9n hh,?_,zla hh⟩
  rw [z2h hh,← ht,List.getElem?_take,if_pos (by rw [← hl];exact hi)]
  simp
theorem z028 {w:World} {base e size n c:Nat} {A:Option Addr} {xs:List Value} (h:w.ownsRow base e size (.slice A n c) n xs) {g i:Nat} (hA:A=some ⟨g,0,none⟩) (u:Value) :
  (w.setCell ⟨g,i,none⟩ u).ownsRow base e size (.slice A n c) n (xs.set i u):=by
 obtain ⟨hl,h2⟩:=h
 refine ⟨by rw [List.length_set];exact hl,?_⟩
 rcases h2 with ⟨hv,hn⟩|⟨g',cap,cur,hv,hg,hh,hnc,hcm,hcs,ht⟩
 ·simp only [Value.slice.injEq] at hv
  rw [hv.1] at hA;cases hA
 ·simp only [Value.slice.injEq] at hv
  obtain ⟨e1,e2,e3⟩:=hv
  rw [e1] at hA
  simp only [Option.some.injEq,Addr.mk.injEq] at hA
  obtain ⟨rfl,_⟩:=hA
  refine .inr ⟨_,cap,cur.setIfInBounds i u,by rw [e1,e3],hg,zsu hh,hnc,hcm,by simpa using hcs,?_⟩
  rw [← ht]
  simp [List.take_set]
theorem zih {α:Type} {s:Nat} {zs:List (α × List Value)} (hz:∀ z ∈ zs,z.2.length=s) {k j:Nat} {z:α × List Value} (hk:zs[k]? = some z) (hj:j<s):(flat zs)[k * s+j]? = z.2[j]?:=by
 induction zs generalizing k with
 | nil=>simp at hk
 | cons y zs ih =>
  have hy:y.2.length=s:=hz y (List.mem_cons_self ..)
  cases k with
  | zero =>
   simp at hk
   subst hk
   show (y.2++flat zs)[0 * s+j]? = _
   rw [Nat.zero_mul,Nat.zero_add,List.getElem?_append_left (by omega)]
  | succ k =>
   show (y.2++flat zs)[(k+1) * s+j]? = _
   rw [List.getElem?_append_right (by rw [hy,Nat.succ_mul];omega),hy,show (k+1) * s+j - s=k * s+j by rw [Nat.succ_mul];omega]
   exact ih (fun z h=>hz z (List.mem_cons_of_mem _ h)) (by simpa using hk)
theorem zzm {α:Type} {s:Nat} {zs:List (α × List Value)} (hz:∀ z ∈ zs,z.2.length=s) {k j:Nat} {z:α × List Value} (hk:zs[k]? = some z) (hj:j<s) (u:Value) (x:α):(flat zs).set (k * s+j) u=flat (zs.set k (x,z.2.set j u)):=by
 induction zs generalizing k with
 | nil=>simp at hk
 | cons y zs ih =>
  have hy:y.2.length=s:=hz y (List.mem_cons_self ..)
  cases k with
  | zero =>
   simp at hk
   subst hk
   show (y.2++flat zs).set (0 * s+j) u=y.2.set j u++flat zs
   rw [Nat.zero_mul,Nat.zero_add,List.set_append_left _ _ (by omega)]
  | succ k =>
   show (y.2++flat zs).set ((k+1) * s+j) u=y.2++flat (zs.set k (x,z.2.set j u))
   rw [List.set_append_right _ _ (by rw [hy,Nat.succ_mul];omega),hy,show (k+1) * s+j - s=k * s+j by rw [Nat.succ_mul];omega,ih (fun z h=>hz z (List.mem_cons_of_mem _ h)) (by simpa using hk)]
end
section
open Go.RowKit
def ze3 {α:Type}:List α→Nat→List α→List α
 | l,_,[]=>l
 | l,o,v::vs=>ze3 (l.set o v) (o+1) vs
theorem zby {base e size n c g:Nat} {A:Option Addr} (hA:A=some ⟨g,0,none⟩):∀ (vs:List Value) (i:Nat) (w:World) (xs:List Value),w.ownsRow base e size (.slice A n c) n xs →
  (w.setCells g i vs).ownsRow base e size (.slice A n c) n (ze3 xs i vs)
 | [],_,_,_,h=>h
 | v::vs,i,w,xs,h=>zby hA vs (i+1) _ _ (z028 h hA v)
theorem zii {α:Type} {s:Nat} {zs:List (α × List Value)} (hz:∀ z ∈ zs,z.2.length=s) {k:Nat} {z:α × List Value} (hk:zs[k]? = some z) (x:α):∀ (vs:List Value) (j:Nat) (cs:List Value),z.2.length=cs.length→j+vs.length≤s →
  ze3 (flat (zs.set k (x,cs))) (k * s+j) vs=flat (zs.set k (x,ze3 cs j vs))
 | [],j,cs,_,_=>rfl
 | v::vs,j,cs,hl,h=>by
  simp only [List.length_cons] at h
  have hzl:z.2.length=s:=hz z (List.mem_of_getElem? hk)
  have hkl:=(List.getElem?_eq_some_iff.1 hk).1
  have h1:∀ y ∈ zs.set k (x,cs),y.2.length=s:=fun y hy=>by
   rcases List.mem_or_eq_of_mem_set hy with h'|h'
   ·exact hz y h'
   ·subst h';simp;omega
  rw [ze3,zzm h1 (k:=k) (j:=j) (z:=(x,cs)) (List.getElem?_set_self (by omega)) (by omega) v x,List.set_set,Nat.add_assoc,zii hz hk x vs (j+1) (cs.set j v) (by simp;omega) (by omega)]
  rfl
section
variable {P:Program} {w0 W:World} {F0:Nat→Prop} {Γ Γ' Γ1:List Res}
variable {ops:Array Oper} {Q:Exit→Act→World→Prop} {a:Act} {rest:List Oper} {o:Oper} {t:TypeId} {x y:Operand}
theorem Sep.rowSome (h:Sep w0 F0 Γ W) {α:Type} {S:Sh α} {e n c k:Nat} {A:Option Addr} {xs:List α} (hm:At Γ (row e (.slice A n c) xs S)) (hk:k<xs.length):∃ g,A=some ⟨g,0,none⟩∧n=xs.length∧n≤c∧c≤9223372036854775807:=by
 obtain ⟨zs,hz1,hz2,hz3⟩:=h.getRow hm
 rcases hz2.2 with ⟨hv,h0⟩|⟨g,cap,cur,hv,hg,hh,hnc,hcm,r⟩
 ·omega
 ·simp only [Value.slice.injEq] at hv
  exact ⟨g,hv.1,hv.2.1,by omega,by unfold maxLen at hcm;omega⟩
theorem Sep.rowLen (h:Sep w0 F0 Γ W) {α:Type} {S:Sh α} {e n c:Nat} {A:Option Addr} {xs:List α} (hm:At Γ (row e (.slice A n c) xs S)):n=xs.length∧n≤c∧c≤9223372036854775807:=by
 obtain ⟨A',c',e1,h1,h2⟩:=h.rowSlice hm
 simp only [Value.slice.injEq] at e1
 obtain ⟨_,rfl,rfl⟩:=e1
 exact ⟨rfl,h1,h2⟩
theorem Sep.rowCells (h:Sep w0 F0 Γ W) {α:Type} {S:Sh α} {e n c k g:Nat} {xs:List α} {z:α} (hm:At Γ (row e (.slice (some ⟨g,0,none⟩) n c) xs S)) (hk:xs[k]? = some z) :
  ∃ cs,Sep w0 F0 (rep z cs S::Γ) W∧W.rangeAt g (k * S.size) cs∧W.there g (k * S.size) S.size:=by
 obtain ⟨zs,hz1,hz2,hz3⟩:=h.getRow hm
 obtain ⟨q,hq,rfl⟩:∃ q,zs[k]? = some q∧q.1=z:=by
  rw [← hz1,List.getElem?_map] at hk
  obtain ⟨q,hq,e⟩:=Option.map_eq_some_iff.1 hk
  exact ⟨q,hq,e⟩
 have hall:∀ z ∈ zs,z.2.length=S.size:=fun z hz=>S.len (hz3 z hz)
 have hql:=hall q (List.mem_of_getElem? hq)
 have hxl:(flat zs).length=zs.length * S.size:=z2b hall
 have hkl:=(List.getElem?_eq_some_iff.1 hq).1
 have hle:(k+1) * S.size≤zs.length * S.size:=Nat.mul_le_mul_right _ hkl
 rw [Nat.succ_mul] at hle
 have hn:n=xs.length:=(h.rowLen hm).1
 subst hn
 refine ⟨q.2,h.addRep (hz3 q (List.mem_of_getElem? hq)),fun j v hj=>?_,fun j hj=>?_⟩
 ·have hjl:=(List.getElem?_eq_some_iff.1 hj).1
  obtain ⟨g',e1,_,_,hc,_⟩:=zor hz2 (i:=k * S.size+j) (by omega)
  simp only [Option.some.injEq,Addr.mk.injEq] at e1
  obtain ⟨rfl,_⟩:=e1
  rw [hc,zih hall hq (by omega)];exact hj
 ·obtain ⟨g',e1,_,_,hc,hf⟩:=zor hz2 (i:=k * S.size+j) (by omega)
  simp only [Option.some.injEq,Addr.mk.injEq] at e1
  obtain ⟨rfl,_⟩:=e1
  refine ⟨?_,hf⟩
  rw [hc,zih hall hq hj,List.getElem?_eq_getElem (by omega)];rfl
theorem Sep.wloadNr (h:Sep w0 F0 Γ W) (hgd:Region.wanted o (yielded ops a.tmps)=true) (ho:o.op = .load t x) {α:Type} {S:Sh α} {g k e n c:Nat} {xs:List α} (hx:a.eval x = .pointer (some ⟨g,k * S.size,none⟩)) (hm:At Γ (row e (.slice (some ⟨g,0,none⟩) n c) xs S)) (h1:AggN P t S.size) (hk:k<xs.length)
  (kk:∀ z cs,Hid (xs[k]? = some z)→Sep w0 F0 (rep z cs S::Γ) W→wpList P ops Q rest (a.put o.dst (.agg cs.toArray)) W):wpList P ops Q (o::rest) a W:=by
 obtain ⟨cs,h2,h3,_⟩:=h.rowCells hm (List.getElem?_eq_getElem hk)
 have hl:cs.length=S.size:=S.len (h2.getRep At.z)
 exact zcp hgd ho hx (by rw [← hl] at h1;exact h1.load h3) (kk _ _ (Lib.hid (List.getElem?_eq_getElem hk)) h2)
theorem Sep.rowSet (h:Sep w0 F0 Γ W) {α:Type} {S:Sh α} {e n c k j g:Nat} {xs:List α} {z z':α} {vs:List Value} (hd:Del Γ (row e (.slice (some ⟨g,0,none⟩) n c) xs S) Γ1) (hk:xs[k]? = some z) (hj:j+vs.length≤S.size)
  (hr:∀ cs,S.rep W (Free w0.heap.size F0 (row e (.slice (some ⟨g,0,none⟩) n c) xs S::Γ1) W) z cs→S.rep W (Free w0.heap.size F0 (row e (.slice (some ⟨g,0,none⟩) n c) xs S::Γ1) W) z' (ze3 cs j vs)) :
  Sep w0 F0 (row e (.slice (some ⟨g,0,none⟩) n c) (xs.set k z') S::Γ1) (W.setCells g (k * S.size+j) vs):=by
 have h1:=h.front hd
 have hn:n=xs.length:=(h1.rowLen At.z).1
 subst hn
 have hfar:∀ (vs:List Value) (i:Nat) (w:World) (b:Nat),b≠g→(w.setCells g i vs).heap[b]? = w.heap[b]?:=by
  intro vs
  induction vs with
  | nil=>intro i w b hb;rfl
  | cons v vs ih=>intro i w b hb;rw [World.setCells,ih _ _ _ hb];exact Below.heap_setCell _ _ _ _ hb
 have hsz:∀ (vs:List Value) (i:Nat) (w:World),(w.setCells g i vs).heap.size=w.heap.size∧(w.setCells g i vs).os=w.os∧(w.setCells g i vs).tape=w.tape∧(w.setCells g i vs).output=w.output:=by
  intro vs
  induction vs with
  | nil=>intro i w;exact ⟨rfl,rfl,rfl,rfl⟩
  | cons v vs ih=>intro i w;rw [World.setCells];obtain ⟨a1,a2,a3,a4⟩:=ih (i+1) (w.setCell ⟨g,i,none⟩ v);exact ⟨by rw [a1];simp [World.setCell],a2,a3,a4⟩
 obtain ⟨s1,s2,s3,s4⟩:=hsz vs (k * S.size+j) W
 have hgr:W.grownBy (W.setCells g (k * S.size+j) vs) (some g):=⟨s2,s3,s4,by omega,fun b _ hb=>hfar _ _ _ _ (fun e=>hb (by rw [e]))⟩
 refine h1.putRow hgr ?_
 intro hfree hag zs hz1 hz2 hz3
 obtain ⟨q,hq,rfl⟩:∃ q,zs[k]? = some q∧q.1=z:=by
  rw [← hz1,List.getElem?_map] at hk
  obtain ⟨q,hq,e⟩:=Option.map_eq_some_iff.1 hk
  exact ⟨q,hq,e⟩
 have hall:∀ z ∈ zs,z.2.length=S.size:=fun z hz=>S.len (hz3 z hz)
 have hql:=hall q (List.mem_of_getElem? hq)
 refine ⟨zs.set k (z',ze3 q.2 j vs),by rw [List.map_set,hz1],?_,?_⟩
 ·have:=zby rfl vs (k * S.size+j) W (flat zs) hz2
  rw [List.length_set]
  have e2:=zii hall hq z' vs j q.2 rfl hj
  have e3:flat (zs.set k (z',q.2))=flat zs:=by
   have:∀ (l:List (α × List Value)) (i:Nat) (q:α × List Value) (y:α),l[i]? = some q→flat (l.set i (y,q.2))=flat l:=by
    intro l
    induction l with
    | nil=>intro i q y h;cases h
    | cons p l ih =>
     intro i q y h
     cases i with
     | zero=>simp at h;subst h;rfl
     | succ i=>simp only [List.set_cons_succ,zbg];rw [ih i q y (by simpa using h)]
   exact this zs k q z' hq
  rw [e3] at e2
  rw [← e2]
  exact this
 ·intro p hp
  rcases List.mem_or_eq_of_mem_set hp with h'|h'
  ·exact S.more hfree (S.keep hag (hz3 p h'))
  ·subst h'
   exact S.more hfree (S.keep hag (hr q.2 (hz3 q (List.mem_of_getElem? hq))))
theorem Sep.wstore1r (h:Sep w0 F0 Γ W) (hgd:Region.wanted o (yielded ops a.tmps)=true) (ho:o.op = .store t x y) {α:Type} {S:Sh α} {g k j e n c:Nat} {xs:List α} {z z':α} {u:Value} (hx:a.eval x = .pointer (some ⟨g,k * S.size+j,none⟩)) (hy:a.eval y=u) (h1:OneT P t) (hone:u.oneCell'=true)
  (hd:Del Γ (row e (.slice (some ⟨g,0,none⟩) n c) xs S) Γ1) (hk:xs[k]? = some z) (hj:j<S.size)
  (hr:∀ cs,S.rep W (Free w0.heap.size F0 (row e (.slice (some ⟨g,0,none⟩) n c) xs S::Γ1) W) z cs→S.rep W (Free w0.heap.size F0 (row e (.slice (some ⟨g,0,none⟩) n c) xs S::Γ1) W) z' (cs.set j u))
  (kk:∀ W',Sep w0 F0 (row e (.slice (some ⟨g,0,none⟩) n c) (xs.set k z') S::Γ1) W'→wpList P ops Q rest (a.put o.dst undef) W'):wpList P ops Q (o::rest) a W:=by
 obtain ⟨cs,h2,h3,h4⟩:=(h.front hd).rowCells At.z hk
 obtain ⟨h5,h6⟩:=h4 j hj
 obtain ⟨v,hv⟩:=Option.isSome_iff_exists.1 h5
 refine zlc hgd ho hx hy (h1.store (u:=v) hv h6 hone) (kk _ ?_)
 exact h.rowSet (vs:=[u]) (j:=j) hd hk (by simp;omega) (fun cs hc=>hr cs hc)
end
end
section
open Go.RowKit
set_option maxRecDepth 100000
section
variable {P:Program} (w:World)
end
theorem wpList_append_run {P:Program} {w w':World} {v':Value} {ops:Array Oper} {rest:List Oper} {o:Oper} {a:Act} {Q:Exit→Act→World→Prop} (hgd:o.guard=none) (s x:Operand) (t tn:TypeId)
  (ho:o.op = .call { callee:=.builtin .append,args:=#[s,x],argTypes:=#[t,tn] }) (vs vx:Value) (hs:a.eval s=vs) (hx:a.eval x=vx)
  (hrun:(Builtin.append_ #[t,tn] o.type #[vs,vx]).run P w = .ok v' w') (h:wpList P ops Q rest (a.put o.dst v') w'):wpList P ops Q (o::rest) a w :=
 wpList_plain hgd fun _ hK=>by
  unfold Oper.wp execOp
  simp only [ho,resolve,invoke,builtin,Sem.run_bind,Sem.run_pure,Result.andThen_ok,List.map_toArray,List.map_cons,List.map_nil,hs,hx,hrun]
  exact hK _ _ h
def total {α:Type}:List (List α)→Nat
 | []=>0
 | xs::l=>xs.length+total l
end
section
open Go.RowKit
attribute [local semireducible] zdw rds rep cells box row At Put Del Sub
section
variable {P:Program} {w0 W:World} {F0:Nat→Prop} {Γ Γ' Γ1:List Res}
variable {ops:Array Oper} {Q:Exit→Act→World→Prop} {a:Act} {rest:List Oper} {o:Oper} {t:TypeId} {x y:Operand}
end
end
section
open Go.RowKit
set_option maxRecDepth 100000
end
section
open Go.RowKit
set_option maxRecDepth 100000
end
section
abbrev z28:=List UInt8
def z2k (t:List z28):Prop:=t.length≤120∧(∀ s ∈ t,s.length≤4000)∧t.Nodup
theorem zut (l seen:List z28):z44 l seen=0↔(∀ s ∈ l,s.length≤4000)∧l.Nodup∧∀ s ∈ l,s ∉ seen:=by
 induction l generalizing seen with
 | nil=>simp [z44]
 | cons s l ih =>
  rw [z44]
  by_cases h:4000<s.length
  ·rw [if_pos h]
   constructor
   ·intro h';cases h'
   ·intro h';have:=h'.1 s (by simp);omega
  ·rw [if_neg h]
   by_cases h2:s ∈ seen
   ·rw [if_pos h2]
    constructor
    ·intro h';cases h'
    ·intro h';exact absurd h2 (h'.2.2 s (by simp))
   ·rw [if_neg h2,ih]
    simp only [List.mem_cons,List.nodup_cons,not_or]
    constructor
    ·rintro ⟨a,b,c⟩
     refine ⟨?_,⟨fun hs=>(c s hs).1 rfl,b⟩,?_⟩
     ·rintro x (rfl|hx)
      ·omega
      ·exact a x hx
     ·rintro x (rfl|hx)
      ·exact h2
      ·exact (c x hx).2
    ·rintro ⟨a,⟨b1,b2⟩,c⟩
     exact ⟨fun x hx=>a x (.inr hx),b2,fun x hx=>⟨fun e=>b1 (e ▸ hx),c x (.inr hx)⟩⟩
theorem z50 (t:List z28):zo ⟨t⟩=0↔z2k t:=by
 unfold zo z2k
 by_cases h:120<t.length
 ·simp only [if_pos h]
  constructor
  ·intro h';cases h'
  ·intro h';omega
 ·simp only [if_neg h,zut]
  constructor
  ·rintro ⟨a,b,_⟩;exact ⟨by omega,a,b⟩
  ·rintro ⟨_,a,b⟩;exact ⟨a,b,by simp⟩
theorem zzt {α:Type} [DecidableEq α] (x:α) (l:List α) (k:Nat) (h:0≤z0r x l k):∃ j:Nat,z0r x l k=k+j∧l[j]? = some x:=by
 induction l generalizing k with
 | nil=>simp [z0r] at h
 | cons y l ih =>
  by_cases hxy:x=y
  ·subst hxy;exact ⟨0,by simp [z0r],by simp⟩
  ·rw [z0r,if_neg hxy] at h ⊢
   obtain ⟨j,h1,h2⟩:=ih (k+1) h
   exact ⟨j+1,by rw [h1];omega,by simpa using h2⟩
theorem zxg {α:Type} [DecidableEq α] {l:List α} {x:α} (h:0≤idx l x):∃ j:Nat,idx l x=j∧l[j]? = some x:=by
 obtain ⟨j,h1,h2⟩:=zzt x l 0 h
 exact ⟨j,by unfold idx;omega,h2⟩
theorem zoz {α:Type} [DecidableEq α] (x:α) (l m:List α) (k:Nat) (h:0≤z0r x l k):z0r x (l++m) k=z0r x l k:=by
 induction l generalizing k with
 | nil=>simp [z0r] at h
 | cons y l ih =>
  by_cases hxy:x=y
  ·subst hxy;simp [z0r]
  ·rw [z0r,if_neg hxy] at h
   rw [List.cons_append,z0r,if_neg hxy,z0r,if_neg hxy]
   exact ih _ h
theorem zfy {α:Type} [DecidableEq α] {l m:List α} (hp:l <+: m) {x:α} (h:0≤idx l x):idx m x=idx l x:=by
 obtain ⟨r,rfl⟩:=hp
 exact zoz x l r 0 h
theorem z02d {t:List z28} {s:z28} (ht:z2k t) (hs:s.length≤4000) (he:z1m t s=0) :
  z2k (z24 t s)∧t <+: z24 t s∧0≤idx (z24 t s) s∧z1t t s=idx (z24 t s) s+1:=by
 obtain ⟨h1,h2,h3⟩:=ht
 unfold z1m at he
 unfold z24 z1t
 by_cases h0:0≤idx t s
 ·rw [if_pos h0,if_pos h0]
  exact ⟨⟨h1,h2,h3⟩,List.prefix_refl _,h0,rfl⟩
 ·rw [if_neg h0,if_neg h0]
  rw [if_neg h0] at he
  have hns:s ∉ t:=fun h=>h0 ((z01f t s).2 h)
  by_cases hf:t.length=120
  ·rw [if_pos hf] at he;cases he
  ·rw [if_neg hf,if_neg hf]
   have key:∀ (l:List z28) (k:Nat),s ∉ l→z0r s (l++[s]) k=k+l.length:=by
    intro l
    induction l with
    | nil=>intro k _;simp [z0r]
    | cons y l ih =>
     intro k hn
     simp only [List.mem_cons,not_or] at hn
     rw [List.cons_append,z0r,if_neg hn.1,ih (k+1) hn.2,List.length_cons]
     omega
   have hi:idx (t++[s]) s=t.length:=by have:=key t 0 hns;simpa [idx] using this
   refine ⟨⟨by simp;omega,?_,?_⟩,List.prefix_append _ _,by rw [hi];omega,by rw [hi]⟩
   ·intro x hx
    rcases List.mem_append.1 hx with h|h
    ·exact h2 x h
    ·simp at h;subst h;exact hs
   ·rw [List.nodup_append]
    exact ⟨h3,by simp,by intro a ha b hb;simp at hb;subst hb;exact fun e=>hns (e ▸ ha)⟩
theorem zuu {t:List z28} {s:z28} (h:0≤idx t s):z1m t s=0∧z24 t s=t∧z1t t s=idx t s+1:=by
 unfold z1m z24 z1t
 rw [if_pos h,if_pos h,if_pos h]
 exact ⟨rfl,rfl,rfl⟩
end
section
open Go.RowKit
set_option maxRecDepth 100000
def z7m (bs:List Block) (i:Int):Block:=(bs[i.toNat]?).getD ⟨0,0,0,0,[]⟩
def zcx (ns:List Int) (bs:List Block) (b:Block) (m:Nat):Int :=
 if b.parent=0 then (if b.height≠1 then 4 else 0)
 else if idx (ns.take m) b.parent<0 then 5 else if b.height≠(z7m bs (idx (ns.take m) b.parent)).height+1 then 4 else 0
end
section
open Go.RowKit
set_option maxRecDepth 100000
def z9y (ns:List Int) (k:Nat):Int:=(ns[k]?).getD 0
def z8m (ns:List Int) (bs:List Block) (k:Nat) (n:Int) (b:Block):Int :=
 if n<1∨120<n then 3 else if z07 b≠0 then z07 b else if zyw (ns.take k) n=true then 6 else zcx ns bs b k
def zxh (ns:List Int) (bs:List Block):Nat→Nat→Int
 | _,0=>0
 | k,f+1=>if z8m ns bs k (z9y ns k) (z7m bs k)≠0 then z8m ns bs k (z9y ns k) (z7m bs k) else zxh ns bs (k+1) f
def z92 (t:Tree):Int:=if t.names.length≠t.blocks.length then 4 else if 24<t.names.length then 2 else zxh t.names t.blocks 0 t.names.length
end
section
open Go.RowKit
structure TreeOK (ns:List Int) (bs:List Block):Prop where
 len:ns.length=bs.length
 le:ns.length≤24
 step:∀ k,k<ns.length→z8m ns bs k (z9y ns k) (z7m bs k)=0
theorem zrj {ns:List Int} {bs:List Block} {k:Nat} {n:Int} {b:Block} (h:z8m ns bs k n b=0):(1≤n∧n≤120)∧z07 b=0∧n ∉ ns.take k∧zcx ns bs b k=0:=by
 unfold z8m at h
 by_cases h1:n<1∨120<n
 ·rw [if_pos h1] at h;cases h
 ·rw [if_neg h1] at h
  by_cases h2:z07 b=0
  ·rw [h2,if_neg (show ¬ ((0:Int)≠0) by decide)] at h
   by_cases h3:zyw (ns.take k) n=true
   ·rw [if_pos h3] at h;cases h
   ·rw [if_neg h3] at h
    exact ⟨by omega,h2,by simpa [zyw] using h3,h⟩
  ·rw [if_pos h2] at h;exact absurd h h2
theorem zuv {ns:List Int} {bs:List Block} {k:Nat} {b:Block} (h:zcx ns bs b k=0):(b.parent=0∧b.height=1)∨(b.parent≠0∧∃ j:Nat,j<k∧idx ns b.parent=j∧ns[j]? = some b.parent∧b.height=(z7m bs j).height+1):=by
 unfold zcx at h
 by_cases h1:b.parent=0
 ·rw [if_pos h1] at h
  by_cases h2:b.height=1
  ·exact .inl ⟨h1,h2⟩
  ·rw [if_pos h2] at h;cases h
 ·rw [if_neg h1] at h
  by_cases h2:idx (ns.take k) b.parent<0
  ·rw [if_pos h2] at h;cases h
  ·rw [if_neg h2] at h
   by_cases h3:b.height=(z7m bs (idx (ns.take k) b.parent)).height+1
   ·obtain ⟨j,hj,hjs⟩:=zxg (show 0≤idx (ns.take k) b.parent by omega)
    have hp:=zfy (List.take_prefix k ns) (x:=b.parent) (by omega)
    have hlt:=(List.getElem?_eq_some_iff.1 hjs).1
    rw [List.getElem?_take] at hjs
    split at hjs
    ·exact .inr ⟨h1,j,by assumption,by omega,hjs,by rw [hj] at h3;exact h3⟩
    ·cases hjs
   ·rw [if_pos h3] at h;cases h
def z4c (ns:List Int) (bs:List Block) (m:Int):Int:=(z7m bs (idx ns m)).parent
def zzu (ns:List Int) (m:Int):Nat:=if m=0 then 0 else (idx ns m+1).toNat
def up (ns:List Int) (bs:List Block):Nat→Int→List Int
 | 0,_=>[]
 | f+1,m=>if m=0 then [] else m::up ns bs f (z4c ns bs m)
def z057 (ns:List Int) (bs:List Block) (m:Int):List Int:=(up ns bs ns.length m).reverse
theorem TreeOK.name {ns:List Int} {bs:List Block} (h:TreeOK ns bs) {m:Int} (hm:0≤idx ns m):1≤m∧m≤120∧∃ j:Nat,j<ns.length∧idx ns m=j∧z9y ns j=m∧(z4c ns bs m=0∨(z4c ns bs m≠0∧0≤idx ns (z4c ns bs m)∧idx ns (z4c ns bs m)<j)):=by
 obtain ⟨j,hj,hjs⟩:=zxg hm
 have hlt:=(List.getElem?_eq_some_iff.1 hjs).1
 have hn:z9y ns j=m:=by simp [z9y,hjs]
 obtain ⟨⟨a,b⟩,c,d,e⟩:=zrj (h.step j hlt)
 refine ⟨by omega,by omega,j,hlt,hj,hn,?_⟩
 have hp:z4c ns bs m=(z7m bs j).parent:=by unfold z4c;rw [hj]
 rw [hp]
 rcases zuv e with ⟨h1,h2⟩|⟨h1,i,hi,hi2,hi3,hi4⟩
 ·exact .inl h1
 ·exact .inr ⟨h1,by omega,by omega⟩
theorem TreeOK.rem {ns:List Int} {bs:List Block} (h:TreeOK ns bs) {m:Int} (h0:m≠0) (hm:0≤idx ns m):zzu ns (z4c ns bs m)<zzu ns m:=by
 obtain ⟨_,_,j,hj,he,_,hp⟩:=h.name hm
 unfold zzu
 rw [if_neg h0]
 rcases hp with hp|⟨hp,h1,h2⟩
 ·rw [if_pos hp];omega
 ·rw [if_neg hp];omega
end
section
open Go.RowKit Go.Shelf
set_option maxRecDepth 100000
end
section
open Go.RowKit
set_option maxRecDepth 100000
end
section
open Go.RowKit
set_option maxRecDepth 100000
def z058 (t:Tree) (m:Int):List Int × Int :=
 if z92 t≠0 then ([],z92 t) else if m≠0∧idx t.names m<0 then ([],5) else (z057 t.names t.blocks m,0)
end
section
open Go.RowKit
set_option maxRecDepth 100000
end
section
open Go.RowKit
end
section
open Go.RowKit Go.ChangeShapes Go.WideShapes
theorem zca {α:Type} (l:List α) (k m:Nat):(l.drop k).take m++l.drop (k+m)=l.drop k:=by rw [← List.drop_drop,List.take_append_drop]
def z02 {α:Type} (P:Program) (S:Sh α) (t:TypeId):Prop :=
 ∀ {H:Type} {enc:TypeId × Value→H} {w:World} {base:Nat} {spare:Nat→Bool} {held:Bool} {fuel:Nat} {cs:List Value} {x:DataW H × List MemPlace},
  DataW.trod enc P w base spare held fuel t cs=some x→∃ a,S.rep w (Lt w.heap.size) a cs
section
variable {P:Program} {t:TypeId}
theorem zxz (ht:P.underlying t=some (.int .i64)):z02 P shInt t:=by
 intro H enc w base spare held fuel cs x h
 obtain ⟨n,rfl,_,hw⟩:=DataW.trod_int ht h
 exact ⟨n,rfl,by simp [Lit.wf,IntKind.min,IntKind.max,IntKind.signed,IntKind.bits] at hw;omega⟩
theorem zv7 (ht:P.underlying t=some .bool):z02 P shBool t:=by
 intro H enc w base spare held fuel cs x h
 obtain ⟨n,rfl,_⟩:=DataW.trod_bool ht h
 exact ⟨n,rfl⟩
theorem zy0 (ht:P.underlying t=some .string):z02 P shStr t:=by
 intro H enc w base spare held fuel cs x h
 obtain ⟨s,rfl,_,hw⟩:=DataW.trod_string ht h
 exact ⟨s.data.toList,by simp,by unfold maxLen at hw;simpa using hw⟩
theorem z2c {α:Type} {S:Sh α} {e:TypeId} (ht:P.underlying t=some (.slice e)) (hs:P.cellsOf e=S.size) (h0:0<S.size) (he:z02 P S e):z02 P (z04 S) t:=by
 intro H enc w base spare held fuel cs x h
 rcases Go.Deep.open_slice ht h with ⟨rfl,_⟩|⟨a,len,cap,m,n,D,Pl,rfl,_,hl,hm,hmm,-,hi⟩
 ·exact ⟨[],_,_,_,rfl,Rds.nil _ _ _⟩
 ·have hlm:len≤m:=by rw [hmm];split <;> omega
  have key:∀ i,i<len→∃ y:α × List Value,S.rep w (Lt w.heap.size) y.1 y.2∧∀ j,j<S.size→w.cell? (a.add (i * S.size+j))=y.2[j]?:=by
   intro i hlt
   obtain ⟨cs',hc,ht'⟩:=hi i (by omega)
   obtain ⟨y,hy⟩:=he ht'
   obtain ⟨_,hcl,hat⟩:=World.cells?_some hc
   refine ⟨(y,cs'),hy,fun j hj=>?_⟩
   have:=hat j (by omega)
   rw [hs,Go.Deep.add_add] at this
   exact this
  have key2:∃ ys:List (α × List Value),ys.length=len∧∀ i (hi:i<ys.length),S.rep w (Lt w.heap.size) ys[i].1 ys[i].2∧∀ j,j<S.size→w.cell? (a.add (i * S.size+j))=ys[i].2[j]?:=by
   clear hi hmm hlm hl h
   induction len with
   | zero=>exact ⟨[],rfl,fun i hi=>by simp at hi⟩
   | succ l ih =>
    obtain ⟨ys,hy1,hy2⟩:=ih (fun i hi=>key i (by omega))
    obtain ⟨y,hy⟩:=key l (by omega)
    refine ⟨ys++[y],by simp [hy1],fun i hi=>?_⟩
    by_cases h':i<ys.length
    ·rw [List.getElem_append_left h'];exact hy2 i h'
    ·have:i=l:=by simp at hi;omega
     subst this
     rw [List.getElem_append_right (by omega)]
     simpa [hy1] using hy
  obtain ⟨ys,hy1,hy2⟩:=key2
  refine ⟨ys.map (·.1),_,_,_,rfl,by simp [hy1],hl,by unfold maxLen at hm;omega,fun hn=>?_⟩
  have c0:=(hy2 0 (by omega)).2 0 h0
  have hl0:=S.len (hy2 0 (by omega)).1
  have hspot:a.spot=none:=by
   have:(ys[0]'(by omega)).2[0]? = some ((ys[0]'(by omega)).2[0]'(by omega)):=List.getElem?_eq_getElem (by omega)
   rw [this] at c0
   have:=World.cell?_spot c0
   simpa [Addr.add] using this
  obtain ⟨b,off,spot⟩:=a
  simp only at hspot
  subst hspot
  have hadd:∀ k,(Addr.mk b off none).add k=⟨b,off+k,none⟩:=by
   intro k;unfold Addr.add;split <;> simp_all
  refine ⟨b,off,rfl,?_,fun i hi=>?_⟩
  ·show b<w.heap.size
   rcases Nat.lt_or_ge b w.heap.size with h'|h'
   ·exact h'
   ·have e:w.cell? ((Addr.mk b off none).add (0 * S.size+0))=none:=by
     rw [hadd];simp [World.cell?,Array.getElem?_eq_none h']
    rw [e] at c0
    have:(ys[0]'(by omega)).2[0]? = some ((ys[0]'(by omega)).2[0]'(by omega)):=List.getElem?_eq_getElem (by omega)
    rw [this] at c0;cases c0
  ·have hi':i<ys.length:=by simpa using hi
   refine ⟨ys[i].2,by simpa using (hy2 i hi').1,fun j v hj=>?_⟩
   have hjl:j<S.size:=by
    have:=S.len (hy2 i hi').1
    have:=(List.getElem?_eq_some_iff.1 hj).1
    omega
   have:=(hy2 i hi').2 j hjl
   rw [hadd,hj] at this
   rw [← this,Nat.add_assoc]
theorem zav {α β τ:Type} {S0:Sh α} {S1:Sh β} {f:α→β→τ} {f0 f1:Field} (ht:P.underlying t=some (.struct #[f0,f1])) (hc:P.cellsOf t=S0.size+S1.size)
  (o0:f0.offset=0) (o1:f1.offset=S0.size) (c0:P.cellsOf f0.type=S0.size) (c1:P.cellsOf f1.type=S1.size) (h0:z02 P S0 f0.type) (h1:z02 P S1 f1.type):z02 P (z2g S0 S1 f) t:=by
 intro H enc w base spare held fuel cs x h
 obtain ⟨xs,n,_,_,hl,hxl,hf⟩:=DataW.trod_struct ht h
 match xs,hxl with
 | [x0,x1],_ =>
  have g0:=hf 0 f0 rfl
  have g1:=hf 1 f1 rfl
  rw [o0,c0] at g0
  rw [o1,c1] at g1
  obtain ⟨a,ha⟩:=h0 g0
  obtain ⟨b,hb⟩:=h1 g1
  refine ⟨f a b,a,b,_,_,rfl,?_,ha,hb⟩
  rw [List.drop_zero,List.take_of_length_le (l:=cs.drop S0.size) (by simp;omega),List.take_append_drop]
theorem zq6 {α τ:Type} {S0:Sh α} {f:α→τ} {f0:Field} (ht:P.underlying t=some (.struct #[f0])) (hc:P.cellsOf t=S0.size)
  (o0:f0.offset=0) (c0:P.cellsOf f0.type=S0.size) (h0:z02 P S0 f0.type):z02 P (zty S0 f) t:=by
 intro H enc w base spare held fuel cs x h
 obtain ⟨xs,n,_,_,hl,hxl,hf⟩:=DataW.trod_struct ht h
 match xs,hxl with
 | [x0],_ =>
  have g0:=hf 0 f0 rfl
  rw [o0,c0] at g0
  obtain ⟨a,ha⟩:=h0 g0
  refine ⟨f a,a,rfl,?_⟩
  rwa [List.drop_zero,List.take_of_length_le (by omega)] at ha
theorem z00b {α β γ τ:Type} {S0:Sh α} {S1:Sh β} {S2:Sh γ} {f:α→β→γ→τ} {f0 f1 f2:Field} (ht:P.underlying t=some (.struct #[f0,f1,f2])) (hc:P.cellsOf t=S0.size+(S1.size+S2.size))
  (o0:f0.offset=0) (o1:f1.offset=S0.size) (o2:f2.offset=S0.size+S1.size) (c0:P.cellsOf f0.type=S0.size) (c1:P.cellsOf f1.type=S1.size) (c2:P.cellsOf f2.type=S2.size)
  (h0:z02 P S0 f0.type) (h1:z02 P S1 f1.type) (h2:z02 P S2 f2.type):z02 P (zdp S0 S1 S2 f) t:=by
 intro H enc w base spare held fuel cs x h
 obtain ⟨xs,n,_,_,hl,hxl,hf⟩:=DataW.trod_struct ht h
 match xs,hxl with
 | [x0,x1,x2],_ =>
  have g0:=hf 0 f0 rfl
  have g1:=hf 1 f1 rfl
  have g2:=hf 2 f2 rfl
  rw [o0,c0] at g0
  rw [o1,c1] at g1
  rw [o2,c2] at g2
  obtain ⟨a,ha⟩:=h0 g0
  obtain ⟨b,hb⟩:=h1 g1
  obtain ⟨c,hc'⟩:=h2 g2
  refine ⟨f a b c,a,(b,c),_,_,rfl,?_,ha,b,c,_,_,rfl,rfl,hb,hc'⟩
  rw [List.drop_zero,List.take_of_length_le (l:=cs.drop (S0.size+S1.size)) (by simp;omega),← List.drop_drop,List.take_append_drop,List.take_append_drop]
theorem z00c {α β γ δ τ:Type} {S0:Sh α} {S1:Sh β} {S2:Sh γ} {S3:Sh δ} {f:α→β→γ→δ→τ} {f0 f1 f2 f3:Field} (ht:P.underlying t=some (.struct #[f0,f1,f2,f3])) (hc:P.cellsOf t=S0.size+(S1.size+(S2.size+S3.size)))
  (o0:f0.offset=0) (o1:f1.offset=S0.size) (o2:f2.offset=S0.size+S1.size) (o3:f3.offset=S0.size+S1.size+S2.size) (c0:P.cellsOf f0.type=S0.size) (c1:P.cellsOf f1.type=S1.size) (c2:P.cellsOf f2.type=S2.size) (c3:P.cellsOf f3.type=S3.size)
  (h0:z02 P S0 f0.type) (h1:z02 P S1 f1.type) (h2:z02 P S2 f2.type) (h3:z02 P S3 f3.type):z02 P (zym S0 S1 S2 S3 f) t:=by
 intro H enc w base spare held fuel cs x h
 obtain ⟨xs,n,_,_,hl,hxl,hf⟩:=DataW.trod_struct ht h
 match xs,hxl with
 | [x0,x1,x2,x3],_ =>
  have g0:=hf 0 f0 rfl
  have g1:=hf 1 f1 rfl
  have g2:=hf 2 f2 rfl
  have g3:=hf 3 f3 rfl
  rw [o0,c0] at g0
  rw [o1,c1] at g1
  rw [o2,c2] at g2
  rw [o3,c3] at g3
  obtain ⟨a,ha⟩:=h0 g0
  obtain ⟨b,hb⟩:=h1 g1
  obtain ⟨c,hc'⟩:=h2 g2
  obtain ⟨d,hd⟩:=h3 g3
  refine ⟨f a b c d,a,(b,c,d),_,_,rfl,?_,ha,b,(c,d),_,_,rfl,rfl,hb,c,d,_,_,rfl,rfl,hc',hd⟩
  rw [List.drop_zero,List.take_of_length_le (l:=cs.drop (S0.size+S1.size+S2.size)) (by simp;omega),zca,zca,List.take_append_drop]
theorem z00d {α β γ δ ε τ:Type} {S0:Sh α} {S1:Sh β} {S2:Sh γ} {S3:Sh δ} {S4:Sh ε} {f:α→β→γ→δ→ε→τ} {f0 f1 f2 f3 f4:Field} (ht:P.underlying t=some (.struct #[f0,f1,f2,f3,f4]))
  (hc:P.cellsOf t=S0.size+(S1.size+(S2.size+(S3.size+S4.size))))
  (o0:f0.offset=0) (o1:f1.offset=S0.size) (o2:f2.offset=S0.size+S1.size) (o3:f3.offset=S0.size+S1.size+S2.size) (o4:f4.offset=S0.size+S1.size+S2.size+S3.size)
  (c0:P.cellsOf f0.type=S0.size) (c1:P.cellsOf f1.type=S1.size) (c2:P.cellsOf f2.type=S2.size) (c3:P.cellsOf f3.type=S3.size) (c4:P.cellsOf f4.type=S4.size)
  (h0:z02 P S0 f0.type) (h1:z02 P S1 f1.type) (h2:z02 P S2 f2.type) (h3:z02 P S3 f3.type) (h4:z02 P S4 f4.type):z02 P (shS5 S0 S1 S2 S3 S4 f) t:=by
 intro H enc w base spare held fuel cs x h
 obtain ⟨xs,n,_,_,hl,hxl,hf⟩:=DataW.trod_struct ht h
 match xs,hxl with
 | [x0,x1,x2,x3,x4],_ =>
  have g0:=hf 0 f0 rfl
  have g1:=hf 1 f1 rfl
  have g2:=hf 2 f2 rfl
  have g3:=hf 3 f3 rfl
  have g4:=hf 4 f4 rfl
  rw [o0,c0] at g0
  rw [o1,c1] at g1
  rw [o2,c2] at g2
  rw [o3,c3] at g3
  rw [o4,c4] at g4
  obtain ⟨a,ha⟩:=h0 g0
  obtain ⟨b,hb⟩:=h1 g1
  obtain ⟨c,hc'⟩:=h2 g2
  obtain ⟨d,hd⟩:=h3 g3
  obtain ⟨e,he⟩:=h4 g4
  refine ⟨f a b c d e,a,(b,c,d,e),_,_,rfl,?_,ha,b,(c,d,e),_,_,rfl,rfl,hb,c,(d,e),_,_,rfl,rfl,hc',d,e,_,_,rfl,rfl,hd,he⟩
  rw [List.drop_zero,List.take_of_length_le (l:=cs.drop (S0.size+S1.size+S2.size+S3.size)) (by simp;omega),zca,zca,zca,List.take_append_drop]
end
theorem z3o:z02 Tryd.prog shInt 3:=zxz Tryd.underlying3
theorem z02l:z02 Tryd.prog shBool 4:=zv7 Tryd.underlying4
theorem z04i:z02 Tryd.prog shStr 9:=zy0 Tryd.underlying9
theorem z05r:z02 Tryd.prog (z04 shInt) 28:=z2c Tryd.underlying28 (by kernel_rfl) (by decide) z3o
theorem z02m:z02 Tryd.prog (z04 shStr) 22:=z2c Tryd.underlying22 (by kernel_rfl) (by decide) z04i
theorem op_book:z02 Tryd.prog shBook 24:=zq6 Tryd.underlying24 (by kernel_rfl) rfl (by kernel_rfl) z02m
theorem z05d:z02 Tryd.prog shOp 74:=zav Tryd.underlying74 (by kernel_rfl) rfl rfl (by kernel_rfl) (by kernel_rfl) z3o z3o
theorem zy1:z02 Tryd.prog (z04 shOp) 54:=z2c Tryd.underlying54 (by kernel_rfl) (by decide) z05d
theorem zq7:z02 Tryd.prog shPoint 61:=zav Tryd.underlying61 (by kernel_rfl) rfl rfl (by kernel_rfl) (by kernel_rfl) z3o z3o
theorem z05e:z02 Tryd.prog shIn 76:=zav Tryd.underlying76 (by kernel_rfl) rfl rfl (by kernel_rfl) (by kernel_rfl) zq7 zy1
theorem z04j:z02 Tryd.prog (z04 shIn) 40:=z2c Tryd.underlying40 (by kernel_rfl) (by decide) z05e
theorem zy2:z02 Tryd.prog shOut 56:=zav Tryd.underlying56 (by kernel_rfl) rfl rfl (by kernel_rfl) (by kernel_rfl) z3o zy1
theorem z02n:z02 Tryd.prog (z04 shOut) 41:=z2c Tryd.underlying41 (by kernel_rfl) (by decide) zy2
theorem op_tx:z02 Tryd.prog shTx 43:=z00b Tryd.underlying43 (by kernel_rfl) rfl rfl rfl (by kernel_rfl) (by kernel_rfl) (by kernel_rfl) z3o z04j z02n
theorem op_txs:z02 Tryd.prog (z04 shTx) 25:=z2c Tryd.underlying25 (by kernel_rfl) (by decide) op_tx
theorem z02o:z02 Tryd.prog shCoin 63:=z00c Tryd.underlying63 (by kernel_rfl) rfl rfl rfl rfl (by kernel_rfl) (by kernel_rfl) (by kernel_rfl) (by kernel_rfl) zq7 zy2 z3o z02l
theorem op_coins:z02 Tryd.prog (z04 shCoin) 39:=z2c Tryd.underlying39 (by kernel_rfl) (by decide) z02o
theorem z02p:z02 Tryd.prog shUndo 102:=zq6 Tryd.underlying102 (by kernel_rfl) rfl (by kernel_rfl) op_coins
theorem z05l:z02 Tryd.prog (z04 shUndo) 57:=z2c Tryd.underlying57 (by kernel_rfl) (by decide) z02p
theorem z05m:z02 Tryd.prog shBlock 27:=z00d Tryd.underlying27 (by kernel_rfl) rfl rfl rfl rfl rfl (by kernel_rfl) (by kernel_rfl) (by kernel_rfl) (by kernel_rfl) (by kernel_rfl) z3o z3o z3o z3o op_txs
end
end Go.Proofs.YtnklncinjahckaaDoor
